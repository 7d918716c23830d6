/- write: a file anew. -/
import Derived.Test.YtdnoeahhidmkbaaDoorWlRun
namespace Go.Proofs.YtdnoeahhidmkbaaDoor
open Go Go.RowKit
set_option maxRecDepth 100000

namespace vd
theorem ok_left {d : Disk} (h : Ok d) : Ok (less d) := ⟨h.cap, h.tot, h.nod, h.syn, h.nam, by show d.left - 1 ≤ _; have := h.lef; omega⟩
theorem ok_done {d : Disk} {f2 : Files} (h : Ok d) (h2 : Ok { d with files := f2 }) (a : Bool) : Ok (done d f2 a) := by
  have h3 : Ok { less d with files := f2 } := ⟨h2.cap, h2.tot, h2.nod, h2.syn, h2.nam, (ok_left h).lef⟩
  have h4 : Ok (if goes d a then { less d with files := f2 } else less d) := by
    cases goes d a
    · exact ok_left h
    · exact h3
  unfold done
  by_cases h1 : d.left = 1
  · rw [if_pos h1]; exact ok_crash h4 _
  · rw [if_neg h1]; exact h4
theorem ok_there {d : Disk} {n : Name} {f2 : Files} (h : Ok d) (h2 : has d.files n = true → nameErr d.off [n] = 0 → Ok { d with files := f2 }) (a : Bool) : Ok (there d n f2 a).1 := by
  unfold there
  by_cases h1 : nameErr d.off [n] = 0
  · rw [if_neg (by rw [h1]; simp)]
    cases hh : has d.files n with
    | true => exact ok_done h (h2 hh h1) a
    | false => exact h
  · rw [if_pos h1]; exact h
theorem ok_sync {d : Disk} (h : Ok d) (n : Name) : Ok (sync d n).1 :=
  ok_there h (fun _ hg => ok_put h n _ (good_len (err_zero hg).2) (Nat.le_refl _) (by have := h.tot; show _ + (at_ d.files n).1.length ≤ _; omega)) _
theorem ok_delete {d : Disk} (h : Ok d) (n : Name) : Ok (delete d n).1 := ok_there h (fun _ _ => ok_del h n) _
theorem ok_append {d : Disk} (h : Ok d) (n : Name) (s : List UInt8) : Ok (append d n s).1 := by
  unfold append
  by_cases hf : has d.files n = true ∧ d.off = false ∧ d.cap < total d.files + s.length
  · rw [if_pos hf]; exact h
  · rw [if_neg hf]
    refine ok_there h (fun h1 h2 => ?_) _
    have hsp : total d.files + s.length ≤ d.cap := by
      rcases Nat.lt_or_ge d.cap (total d.files + s.length) with k | k
      · exact absurd ⟨h1, (err_zero h2).1, k⟩ hf
      · exact k
    refine ok_put h n _ (good_len (err_zero h2).2) ?_ ?_
    · have := at_syn h n
      show (at_ d.files n).2 ≤ ((at_ d.files n).1 ++ s).length
      rw [List.length_append]; omega
    · show _ + ((at_ d.files n).1 ++ s).length ≤ _
      rw [List.length_append]; omega
theorem ok_rename {d : Disk} (h : Ok d) (n m : Name) : Ok (rename d n m).1 := by
  unfold rename
  by_cases h0 : nameErr d.off [n, m] = 0
  · rw [if_neg (by rw [h0]; simp)]
    refine ok_there h (fun _ _ => ?_) _
    refine ok_put (ok_del h n) m _ (good_len (nameErr_two h0).2) (at_syn h n) ?_
    have := total_del d.files n
    have := h.tot
    show total (del d.files n) + _ ≤ _ + d.cap
    omega
  · rw [if_pos h0]; exact h
theorem ok_create {d : Disk} (h : Ok d) (n : Name) : Ok (create d n).1 := by
  unfold create
  by_cases h0 : nameErr d.off [n] = 0
  · rw [if_neg (by rw [h0]; simp)]
    cases has d.files n with
    | true => exact h
    | false =>
      rw [if_neg (by simp)]
      by_cases h2 : 200 ≤ d.files.length
      · rw [if_pos h2]; exact h
      · rw [if_neg h2]
        refine ok_done h (ok_put h n _ (good_len (err_zero h0).2) (Nat.le_refl _) ?_) _
        have := h.tot
        show _ + 0 ≤ _
        omega
  · rw [if_pos h0]; exact h
end vd
namespace wl
def writeOps (o n : vd.Name) (s : List UInt8) : List Op1 := [fun d => del d o, fun d => vd.create d o, fun d => vd.append d o s, fun d => vd.sync d o, fun d => vd.rename d o n]
/-- all bytes of the file anew -/
def write (d : vd.Disk) (n : vd.Name) (s : List UInt8) : vd.Disk × Nat := run (writeOps (n ++ [43]) n s) d
end wl
set_option maxHeartbeats 4000000 in
theorem wal_write {w : World} {p b g : Nat} {d : vd.Disk} {l : wl.L} (s : List UInt8) (hg : Lg w g p l) (hd : Dk w p b d) (hok : vd.Ok d) (hm : l.name.length ≤ 200) (hs : s.length ≤ 1000000000) :
    Calls Tryd.prog 37 #[.pointer (some ⟨g, 0, none⟩), .string (crcm.mk s)] w (fun e w' => e = .returned (.int .i64 ((wl.write d l.name s).2 : Nat)) ∧ Dk w' p b (wl.write d l.name s).1 ∧ Apart [p, b] w w' ∧ vd.Ok (wl.write d l.name s).1) := by
  obtain ⟨o, ho⟩ : ∃ o, l.name ++ [43] = o := ⟨_, rfl⟩
  have hcat : crcm.mk l.name ++ ⟨#[43]⟩ = crcm.mk o := by rw [← ho, ← crcm.mk_append]; rfl
  have hol : o.length ≤ maxLen := by rw [← ho, List.length_append]; unfold maxLen; simp; omega
  have hml : l.name.length ≤ maxLen := by unfold maxLen; omega
  have hz1 : (crcm.mk l.name).size = l.name.length := crcm.mk_size _
  have hz2 : ByteArray.size ⟨#[43]⟩ = 1 := rfl
  have hno : ¬ 9223372036854775807 < l.name.length + 1 := by omega
  have hpl := hd.blk.lt
  have hbl := hd.map.lt
  have hgl := hg.lt
  obtain ⟨N, hN⟩ : ∃ N, w.heap.size = N := ⟨_, rfl⟩
  obtain ⟨w1, hw1⟩ : ∃ w1, w.alloc (.cells #[.pointer (some ⟨g, 0, none⟩)] 25) = w1 := ⟨_, rfl⟩
  obtain ⟨w2, hw2⟩ : ∃ w2, w1.alloc (.cells #[.string (crcm.mk s)] 9) = w2 := ⟨_, rfl⟩
  obtain ⟨w3, hw3⟩ : ∃ w3, w2.alloc (.cells #[.string (crcm.mk o)] 9) = w3 := ⟨_, rfl⟩
  obtain ⟨xs, hxs⟩ : ∃ xs, xs = [((61, #[.pointer (some ⟨N, 0, none⟩), .pointer (some ⟨N + 2, 0, none⟩)], fun d => wl.del d o) : Nat × Array Value × wl.Op1),
    (63, #[.pointer (some ⟨N, 0, none⟩), .pointer (some ⟨N + 2, 0, none⟩)], fun d => vd.create d o),
    (65, #[.pointer (some ⟨N, 0, none⟩), .pointer (some ⟨N + 2, 0, none⟩), .pointer (some ⟨N + 1, 0, none⟩)], fun d => vd.append d o s),
    (66, #[.pointer (some ⟨N, 0, none⟩), .pointer (some ⟨N + 2, 0, none⟩)], fun d => vd.sync d o),
    (67, #[.pointer (some ⟨N, 0, none⟩), .pointer (some ⟨N + 2, 0, none⟩)], fun d => vd.rename d o l.name)] := ⟨_, rfl⟩
  obtain ⟨w4, hw4⟩ : ∃ w4, w3.alloc (.cells (xs.map stepV).toArray 87) = w4 := ⟨_, rfl⟩
  have s1 : w1.heap.size = N + 1 := by rw [← hw1, ← hN]; exact Array.size_push _
  have s2 : w2.heap.size = N + 2 := by rw [← hw2]; show (Array.push _ _).size = _; rw [Array.size_push, s1]
  have s3 : w3.heap.size = N + 3 := by rw [← hw3]; show (Array.push _ _).size = _; rw [Array.size_push, s2]
  have b1 : Below N w w1 := by rw [← hw1, ← hN]; exact (Below.refl _ w).alloc (Nat.le_refl _) _
  have b2 : Below (N + 1) w1 w2 := by rw [← hw2]; exact (Below.refl _ w1).alloc (by omega) _
  have b3 : Below (N + 2) w2 w3 := by rw [← hw3]; exact (Below.refl _ w2).alloc (by omega) _
  have b4 : Below (N + 3) w3 w4 := by rw [← hw4]; exact (Below.refl _ w3).alloc (by omega) _
  have vl1 : Vb w1 N [dptr g] 25 := by rw [← hw1, ← hN]; exact Vb.new w _ _
  have vs2 : Vb w2 (N + 1) [.string (crcm.mk s)] 9 := by have := Vb.new w1 [.string (crcm.mk s)] 9; rw [s1, hw2] at this; exact this
  have vo3 : Vb w3 (N + 2) [keyV o] 9 := by have := Vb.new w2 [keyV o] 9; rw [s2] at this; rw [← hw3]; exact this
  have vx4 : Vb w4 (N + 3) (xs.map stepV) 87 := by have := Vb.new w3 (xs.map stepV) 87; rw [s3, hw4] at this; exact this
  have vl4 : Vb w4 N [dptr g] 25 := (b4.block _ (by omega)).trans ((b3.block _ (by omega)).trans ((b2.block _ (by omega)).trans vl1))
  have vs4 : Vb w4 (N + 1) [.string (crcm.mk s)] 9 := (b4.block _ (by omega)).trans ((b3.block _ (by omega)).trans vs2)
  have vo4 : Vb w4 (N + 2) [keyV o] 9 := (b4.block _ (by omega)).trans vo3
  have b04 : Below N w w4 := ((b1.trans (b2.mono (by omega))).trans (b3.mono (by omega))).trans (b4.mono (by omega))
  have vg4 : Lg w4 g p l := (b04.block _ (by omega)).trans hg
  have hd4 : Dk w4 p b d := ⟨(b04.block _ (by omega)).trans hd.blk, by rw [← hN] at b04; exact hd.map.below b04⟩
  have hA : Apart [p, b] w w4 := by rw [← hN] at b04; exact .of_below b04 _
  have hgout : g ∉ [p, b] := log_out hg hd
  have hstep : ∀ x ∈ xs, Step w4 p b x := by
    have k1 : ∀ w', Apart [p, b] w4 w' → Vb w' N [dptr g] 25 := fun w' h => vl4.apart h (by simp; omega)
    have k2 : ∀ w', Apart [p, b] w4 w' → Vb w' (N + 2) [keyV o] 9 := fun w' h => vo4.apart h (by simp; omega)
    have k3 : ∀ w', Apart [p, b] w4 w' → Vb w' (N + 1) [.string (crcm.mk s)] 9 := fun w' h => vs4.apart h (by simp; omega)
    have k4 : ∀ w', Apart [p, b] w4 w' → Lg w' g p l := fun w' h => vg4.apart h hgout
    intro x hx
    rw [hxs] at hx
    rcases List.mem_cons.1 hx with rfl | hx
    · exact ⟨enters_any Tryd.func61 (by kernel_rfl) rfl, fun d w' h1 h2 h3 => ⟨vd.ok_delete h1 o, wal_w1 (k1 w' h3) (k4 w' h3) (k2 w' h3) h2 h1 hol⟩⟩
    rcases List.mem_cons.1 hx with rfl | hx
    · exact ⟨enters_any Tryd.func63 (by kernel_rfl) rfl, fun d w' h1 h2 h3 => ⟨vd.ok_create h1 o, wal_w2 (k1 w' h3) (k4 w' h3) (k2 w' h3) h2 h1 hol⟩⟩
    rcases List.mem_cons.1 hx with rfl | hx
    · exact ⟨enters_any Tryd.func65 (by kernel_rfl) rfl, fun d w' h1 h2 h3 => ⟨vd.ok_append h1 o s, wal_w3 (k1 w' h3) (k4 w' h3) (k2 w' h3) (k3 w' h3) h2 h1 hol hs⟩⟩
    rcases List.mem_cons.1 hx with rfl | hx
    · exact ⟨enters_any Tryd.func66 (by kernel_rfl) rfl, fun d w' h1 h2 h3 => ⟨vd.ok_sync h1 o, wal_w4 (k1 w' h3) (k4 w' h3) (k2 w' h3) h2 h1 hol⟩⟩
    rcases List.mem_cons.1 hx with rfl | hx
    · exact ⟨enters_any Tryd.func67 (by kernel_rfl) rfl, fun d w' h1 h2 h3 => ⟨vd.ok_rename h1 o l.name, wal_w5 (k1 w' h3) (k4 w' h3) (k2 w' h3) h2 h1 hol hml⟩⟩
    cases hx
  have hops : xs.map (·.2.2) = wl.writeOps o l.name s := by rw [hxs]; rfl
  have hlen : xs.length = 5 := by rw [hxs]; rfl
  have hcall := wal_steps (G := N + 3) xs vx4 (by simp; omega) hstep hd4 hok (by omega)
  rw [hops, hlen] at hcall
  have hres : wl.write d l.name s = wl.run (wl.writeOps o l.name s) d := by rw [← ho]; rfl
  rw [← hres] at hcall
  rw [hxs] at hw4
  simp only [List.map_cons, List.map_nil, stepV] at hw4
  have q1 := vg4.cell 1 _ rfl
  have r1 := (show Vb w2 N _ _ from (b2.block _ (by omega)).trans vl1).cell 0 _ rfl
  have r2 := (show Lg w2 g p l from ((b2.block _ (by omega)).trans ((b1.block _ (by omega)).trans hg))).cell 1 _ rfl
  clear hops hlen hres hstep vx4 vl4 vs4 vo4 vo3 vs2 vl1 b4 b3 b2 b1 b04 vg4 hd4 ho hol hml hd hg hok hxs
  unfold dptr keyV at *
  rw [hz2] at *
  go_enter Tryd.func37, Tryd.ntmps37
  go_wp2_with fail
  refine hcall.mono ?_
  rintro e w5 ⟨rfl, h1, h2, h3⟩
  go_wp2_with fail
  go_ret
  exact ⟨rfl, h1, hA.trans h2, h3⟩
end Go.Proofs.YtdnoeahhidmkbaaDoor
