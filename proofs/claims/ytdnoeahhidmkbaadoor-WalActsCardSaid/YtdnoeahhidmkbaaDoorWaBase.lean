/- WalActs: the disk and its log beside the document's: what a round holds. -/
import Derived.Test.YtdnoeahhidmkbaaDoorRdE
import Derived.Test.YtdnoeahhidmkbaaDoorWlResetsLaw
import Derived.Test.YtdnoeahhidmkbaaDoorWlActs
namespace Go.Proofs.YtdnoeahhidmkbaaDoor
open Go Go.RowKit
set_option maxRecDepth 100000

theorem vb_ne {w : World} {a b : Nat} {vs us : List Value} {t s : TypeId} (h : Vb w a vs t) (k : Vb w b us s) (hn : t ≠ s) : a ≠ b := by
  rintro rfl
  unfold Vb at h k
  rw [h] at k
  injection k with k
  injection k with _ k2 _
  exact hn k2
theorem vb_map {w : World} {a b : Nat} {vs : List Value} {t : TypeId} {M : vd.Files} (h : Vb w a vs t) (k : FMap w b M) : a ≠ b := by
  rintro rfl
  obtain ⟨es, c, hb, _⟩ := k
  unfold Vb at h
  rw [h] at hb
  cases hb
theorem Rd.apart {w w' : World} {v : Value} {d : vd.Disk} {S : List Nat} (h : Rd w v d) (hA : Apart S w w') (hS : ∀ x ∈ S, ∀ cs, w.heap[x]? ≠ some (.cells cs 99 (0, 0))) : Rd w' v d := by
  obtain ⟨L, A, cc, h1, h2, h3⟩ := h
  refine ⟨L, A, cc, h1, owns_apart h2 hA (fun g hg hx => ?_), h3⟩
  rcases h2.2 with ⟨e, _⟩ | ⟨g', cap, cur, e, _, hh, _⟩
  · injection e with e1; subst e1; cases hg
  · injection e with e1; subst e1; cases hg
    exact hS g' hx cur hh
theorem no_file {w : World} {a : Nat} {vs : List Value} {t : TypeId} (h : Vb w a vs t) (hn : t ≠ 99) : ∀ cs, w.heap[a]? ≠ some (.cells cs 99 (0, 0)) := by
  intro cs k
  unfold Vb at h
  rw [h] at k
  injection k with k
  injection k with _ k2 _
  exact hn k2
/-- what a round holds: the disk, its log; the document's disk, and log, in boxes -/
structure WA (w0 w : World) (p q g rb xb : Nat) (d : vd.Disk) (l : wl.L) (d2 : vd.Disk) (l2 : wl.L) : Prop where
  ld : Ldk w0 w p q d
  lg : Lg w g p l
  gb : w0.heap.size ≤ g
  rbb : w0.heap.size ≤ rb
  xbb : w0.heap.size ≤ xb
  ok2 : vd.Ok d2
  few2 : vd.Few d2
  rd : ∃ A n cc, Vb w rb (rdC d2.cap (.slice A n cc) d2.off d2.left d2.keep) 45 ∧ Rd w (rdV d2.cap (.slice A n cc) d2.off d2.left d2.keep) d2
  xl : Vb w xb (rlC l2) 47
section
variable {w0 w w' : World} {p q g rb xb : Nat} {d d' d2 : vd.Disk} {l l' l2 : wl.L}
theorem WA.later (h : WA w0 w p q g rb xb d l d2 l2) (hb : Below w.heap.size w w') : WA w0 w' p q g rb xb d l d2 l2 := by
  obtain ⟨A, n, cc, h1, h2⟩ := h.rd
  exact ⟨h.ld.later hb, h.lg.later hb, h.gb, h.rbb, h.xbb, h.ok2, h.few2, ⟨A, n, cc, h1.below hb, h2.later hb⟩, h.xl.below hb⟩
theorem WA.rbx (h : WA w0 w p q g rb xb d l d2 l2) : rb ≠ xb := by
  obtain ⟨A, n, cc, h1, _⟩ := h.rd
  exact vb_ne h1 h.xl (by decide)
theorem WA.rout (h : WA w0 w p q g rb xb d l d2 l2) : rb ∉ [p, q, g] := by
  obtain ⟨A, n, cc, h1, _⟩ := h.rd
  intro hx
  simp only [List.mem_cons, List.not_mem_nil, or_false] at hx
  rcases hx with e | e | e
  · exact vb_ne h1 h.ld.dk.blk (by decide) e
  · exact vb_map h1 h.ld.dk.map e
  · exact vb_ne h1 h.lg (by decide) e
theorem WA.xout (h : WA w0 w p q g rb xb d l d2 l2) : xb ∉ [p, q, g] := by
  intro hx
  simp only [List.mem_cons, List.not_mem_nil, or_false] at hx
  rcases hx with e | e | e
  · exact vb_ne h.xl h.ld.dk.blk (by decide) e
  · exact vb_map h.xl h.ld.dk.map e
  · exact vb_ne h.xl h.lg (by decide) e
theorem WA.wal (h : WA w0 w p q g rb xb d l d2 l2) (hA : Apart [p, q, g] w w') (hl : Ldk w0 w' p q d') (hg : Lg w' g p l') : WA w0 w' p q g rb xb d' l' d2 l2 := by
  obtain ⟨A, n, cc, h1, h2⟩ := h.rd
  refine ⟨hl, hg, h.gb, h.rbb, h.xbb, h.ok2, h.few2, ⟨A, n, cc, h1.apart hA h.rout, h2.apart hA ?_⟩, h.xl.apart hA h.xout⟩
  intro x hx cs
  simp only [List.mem_cons, List.not_mem_nil, or_false] at hx
  rcases hx with rfl | rfl | rfl
  · exact no_file h.ld.dk.blk (by decide) cs
  · obtain ⟨es, c, hb, _⟩ := h.ld.dk.map
    rw [hb]; intro e; cases e
  · exact no_file h.lg (by decide) cs
/-- the disk alone turns: the log's struct stays -/
theorem WA.disk_ (h : WA w0 w p q g rb xb d l d2 l2) (hA : Apart [p, q] w w') (hl : Ldk w0 w' p q d') : WA w0 w' p q g rb xb d' l d2 l2 :=
  h.wal (hA.mono (by simp)) hl (Vb.apart h.lg hA (log_out h.lg h.ld.dk))
/-- another log is the log from now on -/
theorem WA.relog (h : WA w0 w p q g rb xb d l d2 l2) {g' : Nat} (hg : Lg w g' p l') (hb : w0.heap.size ≤ g') : WA w0 w p q g' rb xb d l' d2 l2 :=
  ⟨h.ld, hg, hb, h.rbb, h.xbb, h.ok2, h.few2, h.rd, h.xl⟩
theorem WA.store (h : WA w0 w p q g rb xb d l d2 l2) {S : List Nat} {t : Nat} (hS : S = [t]) (hA : Apart S w w') (ht : t = rb ∨ t = xb) : Ldk w0 w' p q d ∧ Lg w' g p l := by
  subst hS
  obtain ⟨A, n, cc, h1, _⟩ := h.rd
  have hx := h.xout
  have hr := h.rout
  simp only [List.mem_cons, List.not_mem_nil, or_false, not_or] at hx hr
  have hn : t ≠ p ∧ t ≠ q ∧ t ≠ g ∧ w0.heap.size ≤ t := by
    rcases ht with rfl | rfl
    · exact ⟨hr.1, hr.2.1, hr.2.2, h.rbb⟩
    · exact ⟨hx.1, hx.2.1, hx.2.2, h.xbb⟩
  refine ⟨h.ld.next hA (by simpa using hn.2.2.2) (h.ld.dk.apart hA (by simpa using fun e => hn.1 e.symm) (by simpa using fun e => hn.2.1 e.symm)) h.ld.ok rfl, Vb.apart h.lg hA (by simpa using fun e => hn.2.2.1 e.symm)⟩
/-- the document's disk is stored -/
theorem WA.disk (h : WA w0 w p q g rb xb d l d2 l2) {w1 : World} (b : Below w.heap.size w w1) {c n cc left : Nat} {D : vd.Files} {off : Bool} {keep : Int} {A : Option Addr} (hr : Rd w1 (rdV c (.slice A n cc) off left keep) ⟨c, D, off, left, keep⟩) (ho : vd.Ok ⟨c, D, off, left, keep⟩) (hf : vd.Few ⟨c, D, off, left, keep⟩) :
    WA w0 (put5 w1 rb c (.slice A n cc) off left keep) p q g rb xb d l ⟨c, D, off, left, keep⟩ l2 := by
  have h1 := h.later b
  obtain ⟨A0, n0, cc0, hv, _⟩ := h1.rd
  obtain ⟨k1, k2⟩ := h1.store rfl (put5_apart w1 rb c (.slice A n cc) off left keep) (.inl rfl)
  exact ⟨k1, k2, h.gb, h.rbb, h.xbb, ho, hf, ⟨A, n, cc, put5_vb hv c _ off left keep, hr.put hv c _ off left keep⟩, h1.xl.apart (put5_apart w1 rb c _ off left keep) (by simpa using fun e => h.rbx e.symm)⟩
/-- the document's log is stored -/
theorem WA.log (h : WA w0 w p q g rb xb d l d2 l2) (nm : vd.Name) (m : Nat) (of : Bool) : WA w0 (put3 w xb nm m of) p q g rb xb d l d2 ⟨nm, m, of⟩ := by
  obtain ⟨A, n, cc, hv, hr⟩ := h.rd
  obtain ⟨k1, k2⟩ := h.store rfl (put3_apart w xb nm m of) (.inr rfl)
  exact ⟨k1, k2, h.gb, h.rbb, h.xbb, h.ok2, h.few2, ⟨A, n, cc, hv.apart (put3_apart w xb nm m of) (by simpa using h.rbx), hr.put3 h.xl nm m of⟩, put3_vb h.xl nm m of⟩
theorem WA.drew (h : WA w0 w p q g rb xb d l d2 l2) : WA w0 w.drew p q g rb xb d l d2 l2 := h.later (Below.drew (Below.refl _ w))
end
/-- how many texts a log may have -/
theorem many_append (d : vd.Disk) (l : wl.L) (ls : List (List UInt8)) : (wl.append d l ls).2.1.many ≤ l.many + ls.length ∧ (wl.append d l ls).2.1.name = l.name := by
  unfold wl.append wl.change wl.told
  split
  · exact ⟨Nat.le_add_right _ _, rfl⟩
  · split
    · exact ⟨Nat.le_add_right _ _, rfl⟩
    · show (if _ then _ else _ : wl.L).many ≤ _ ∧ (if _ then _ else _ : wl.L).name = _
      split
      · exact ⟨Nat.le_refl _, rfl⟩
      · split
        · exact ⟨Nat.le_add_right _ _, rfl⟩
        · exact ⟨Nat.le_add_right _ _, rfl⟩
theorem many_reset (d : vd.Disk) (l : wl.L) (ls : List (List UInt8)) : (wl.reset d l ls).2.1.many ≤ l.many + ls.length ∧ (wl.reset d l ls).2.1.name = l.name := by
  unfold wl.reset wl.change wl.told
  split
  · exact ⟨Nat.le_add_right _ _, rfl⟩
  · split
    · exact ⟨Nat.le_add_right _ _, rfl⟩
    · show (if _ then _ else _ : wl.L).many ≤ _ ∧ (if _ then _ else _ : wl.L).name = _
      split
      · exact ⟨Nat.le_add_left _ _, rfl⟩
      · split
        · exact ⟨Nat.le_add_right _ _, rfl⟩
        · exact ⟨Nat.le_add_right _ _, rfl⟩
theorem many_open {d : vd.Disk} (hok : vd.Ok d) (n : vd.Name) : (wl.open_ d n).2.1.length ≤ d.cap := by
  have h1 := vd.read_len hok n
  have h2 := crcm.allOf_le (vd.read d n).1
  unfold wl.open_
  split
  · exact Nat.zero_le _
  · split
    · exact Nat.zero_le _
    · split
      · exact Nat.zero_le _
      · exact Nat.le_trans h2.2 h1
theorem wl.few_open {d : vd.Disk} (h : vd.Few d) (n : vd.Name) : vd.Few (wl.open_ d n).1 := by
  have hm : vd.Few (wl.mend d n).1 := by
    unfold wl.mend
    split
    · exact wl.few_write h _ _
    · exact vd.few_sync h _
  unfold wl.open_
  split
  · exact h
  · split
    · exact h
    · split
      · exact hm
      · exact hm
end Go.Proofs.YtdnoeahhidmkbaaDoor
