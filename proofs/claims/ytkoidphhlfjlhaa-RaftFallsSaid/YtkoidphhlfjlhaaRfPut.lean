/- Clone, put: walked. -/
import Derived.Test.YtkoidphhlfjlhaaRfOthers
namespace Go.Proofs.Ytkoidphhlfjlhaa
open Go Go.RowKit Go.Deep
set_option maxRecDepth 100000

set_option maxHeartbeats 2000000 in
theorem clone_any (A : Option Addr) (k c : Nat) (ls : List rl.Ent) (w : World) (hv : Ents w (.slice A k c) ls) (hl : ls.length ≤ 100000) :
    Calls Try.prog 30 #[.slice A k c] w fun e w' => ∃ B d, e = .returned (.slice B ls.length d) ∧ w'.ownsRow w.heap.size 54 2 (.slice B ls.length d) ls.length (entCells ls) ∧ Below w.heap.size w w' := by
  obtain ⟨i0, hi, hz0, hz1, hz2⟩ := info_parts info_lent
  have q22 : ∀ (w : World) (a : Option Addr) (n c n' c' : Nat), (binOp .eql 23 (.slice a n c) (.slice none n' c')).run Try.prog w = .ok (.bool a.isNone) w := fun w a n c n' c' => Lib.run_eql_slice_nil w _ _ a n c n' c' Try.underlying23
  obtain rfl : k = ls.length := by obtain ⟨_, _, e, _⟩ := hv; injection e
  cases A with
  | none =>
    obtain ⟨A', c', e, hc, _, h0⟩ := hv
    obtain ⟨rfl, rfl⟩ : none = A' ∧ c = c' := by injection e with e1 _ e3; exact ⟨e1, e3⟩
    have hz : ls.length = 0 := by
      rcases Nat.eq_zero_or_pos ls.length with h | h
      · exact h
      · obtain ⟨b, o, e, _⟩ := h0 h; cases e
    obtain rfl : ls = [] := List.eq_nil_of_length_eq_zero hz
    clear h0 e hc hl hz
    go_enter Try.func30, Try.ntmps30
    go_wp2
    go_ret
    exact ⟨none, 0, rfl, World.ownsRow_nil _ _ _ _, Below.refl _ _⟩
  | some a =>
    obtain ⟨hlen, hcells⟩ := hv.cells
    obtain ⟨n, hn⟩ : ∃ n, ls.length = n := ⟨_, rfl⟩
    obtain ⟨xs, hxs⟩ : ∃ xs, entCells ls = xs := ⟨_, rfl⟩
    have hone : ∀ u ∈ xs, u.oneCell' = true := by rw [← hxs]; exact entCells_one ls
    rw [hxs] at hlen hcells ⊢
    rw [hn] at hlen hcells hl ⊢
    have hown0 := World.ownsRow_made (base := w.heap.size) (e := 54) (size := 2) w #[] 0 (Nat.le_refl _) (by unfold maxLen; omega) rfl
    have hb0 : Below w.heap.size w (w.alloc (.cells #[] 54)) := (Below.refl _ w).alloc (Nat.le_refl _) _
    have hcells2 : 0 < n → ∃ ad, some a = some ad ∧ ∀ j u, xs[j]? = some u → (w.alloc (.cells #[] 54)).cell? (ad.add j) = some u := fun h => by
      obtain ⟨ad, e, hh⟩ := hcells h
      exact ⟨ad, e, fun j u hj => cell_later hb0 (hh j u hj)⟩
    have HB0 := Lib.hid hb0
    have HO := Lib.hid hown0
    have HC := Lib.hid hcells2
    have HL := Lib.hid hlen
    have H1 := Lib.hid hone
    clear hv hcells hcells2 hlen hb0 hown0 hone hn hxs
    go_enter Try.func30, Try.ntmps30
    go_wp2_with (at_builtin; refine wpList_append_opt _ rfl (.tmp 5) (.tmp 6) 23 rfl w.heap.size 54 i0 _ 2 24 Try.underlying23 hi hz0 hz1 hz2 rfl (by decide) (.slice (some ⟨w.heap.size, 0, none⟩) 0 0) 0 [] rfl HO.out (some a) n c xs rfl HL.out HC.out H1.out (by unfold maxLen; omega) (by omega) (by simp) ?_; intro v' w' hown' hg')
    have HOWN := Lib.hid hown'
    have HBF : Hid (Below w.heap.size w w') := Lib.hid (HB0.out.grown hg' (by simp) (fun j hj => by have e : w.heap.size = j := (by injection hj); omega))
    clear hown' hg'
    go_wp2
    go_ret
    rw [Nat.zero_add, List.nil_append] at HOWN
    obtain ⟨B, d, rfl⟩ := owns_slice HOWN.out
    exact ⟨B, d, rfl, HOWN.out, HBF.out⟩
set_option maxHeartbeats 4000000 in
theorem put_any {base s : Nat} {w : World} {n : rf.Node} {A B : Option Addr} {c d : Nat} {ms : List rf.Msg} (tt : Nat) (h : St base w s n (.slice A n.log.length c) (.slice B ms.length d) ms) (hto : tt < 7) (hl : ms.length ≤ 999) (hlog : n.log.length ≤ 10000) :
    Calls Try.prog 17 #[.pointer (some ⟨s, 0, none⟩), .int .i64 (tt : Int)] w fun e w' => e = .returned (.tuple #[]) ∧ StTo base w s n (ms ++ [rf.stamp n (rf.putMsg n tt)]) w' := by
  obtain ⟨L, hL⟩ : ∃ L, n.log.length = L := ⟨_, rfl⟩
  obtain ⟨nx, hnx⟩ : ∃ x, n.next.getD tt 0 = x := ⟨_, rfl⟩
  obtain ⟨p, hp⟩ : ∃ p, rf.nextOf n tt = p + 1 := ⟨rf.nextOf n tt - 1, by unfold rf.nextOf; omega⟩
  have hpL : p ≤ L := by unfold rf.nextOf at hp; omega
  obtain ⟨p1, hp1e⟩ : ∃ p1 : Nat, p + 1 = p1 := ⟨_, rfl⟩
  have hmin : min (max (nx : Int) 1) ((L : Int) + 1) = (p1 : Int) := by unfold rf.nextOf at hp; rw [hnx, hL] at hp; omega
  have hwL : IntKind.u64.wrap (L : Int) = (L : Int) := wrap_u64_in (by omega) (by omega)
  have hwr : IntKind.u64.wrap ((L : Int) + 1) = (L : Int) + 1 := wrap_u64_in (by omega) (by omega)
  have hp1 : IntKind.u64.wrap ((p1 : Int) - 1) = (p : Int) := by rw [show (p1 : Int) - 1 = (p : Int) by omega]; exact wrap_u64_in (by omega) (by omega)
  have hmsg : rf.putMsg n tt = { rf.msg0 with kind := 3, dst := (tt : Int), index := p, at_ := (rl.termAt n.log p).1, commit := n.commit, ents := (n.log.drop p).take 20 } := by unfold rf.putMsg; rw [hp]; rfl
  rw [hmsg]
  obtain ⟨q, hq⟩ : ∃ q, min 20 (L - p) = q := ⟨_, rfl⟩
  rw [hL] at h
  have c2 := h.cell 2 _ (stC_low _ _ 2 _ rfl)
  have c3 := h.cell 3 _ (stC_low _ _ 3 _ rfl)
  have c4 := h.cell 4 _ (stC_low _ _ 4 _ rfl)
  have c7 := h.cell 7 _ (stC_low _ _ 7 _ rfl)
  have cN := h.cell (16 + tt) _ (stC_low _ _ _ _ (ndC_next h.ok _ tt hto))
  rw [hnx] at cN
  have HL := Lib.hid hL
  have HH := Lib.hid h
  have Hp := Lib.hid hp
  have HL1 := Lib.hid hl
  have HLog := Lib.hid hlog
  have Hq := Lib.hid hq
  have Hpe := Lib.hid hp1e
  clear hL h hp hmsg hl hlog hnx hq hp1e
  go_enter Try.func17, Try.ntmps17
  go_wp2_with fail
  refine (termAt_any n.term n.vote _ n.log p w HH.out.ents.1 (by have := HLog.out; omega) (by have := HLog.out; have := HL.out; omega)).mono ?_
  rintro e w1 ⟨rfl, hb1⟩
  have hx := (Sx.start HH.out).later hb1
  have hcc : c ≤ maxLen ∧ L ≤ c := by
    obtain ⟨A', c', e, h1, h2, _⟩ := HH.out.ents.1
    injection e with _ _ e
    subst e
    rw [HL.out] at h1
    exact ⟨h2, h1⟩
  obtain ⟨hcm, hLc⟩ := hcc
  unfold maxLen at hcm
  have hps : (p : Int) ≤ (L : Int) := by omega
  have HX := Lib.hid hx
  clear hx hb1 c2 c3 c4 cN c7
  have c7 := HX.out.st.cell 7 _ (stC_low _ _ 7 _ rfl)
  obtain ⟨D, hD⟩ : ∃ D, (if c = p then A else Option.map (fun x => x.add (p * 2)) A) = D := ⟨_, rfl⟩
  go_wp2_with fail
  obtain ⟨M, hM⟩ : ∃ M, L - p = M := ⟨_, rfl⟩
  obtain ⟨cD, hcD⟩ : ∃ x, c - p = x := ⟨_, rfl⟩
  have hdrop : Ents w1 (.slice D M cD) (n.log.drop p) := by
    have h1 := HX.out.st.ents.1
    rw [← hM, ← hcD]
    exact ents_drop h1 p hpL D (fun b o e hlt => by
      subst e
      rw [← hD, if_neg (by omega)]
      simp [addr_add])
  have hqM : min (20 : Int) (M : Int) = (q : Int) := by have := Hq.out; omega
  have hqle : q ≤ M := by have := Hq.out; omega
  have hMc : M ≤ cD := by omega
  have hcD2 : cD ≤ 9223372036854775807 := by omega
  have htake := ents_take hdrop q hqle
  have hkeep : (n.log.drop p).take q = (n.log.drop p).take 20 := by
    have h1 : (n.log.drop p).length = M := by rw [List.length_drop, HL.out]; exact hM
    have h2 := Hq.out
    rw [hM] at h2
    by_cases h3 : 20 ≤ M
    · rw [show q = 20 by omega]
    · rw [List.take_of_length_le (by omega), List.take_of_length_le (by omega)]
  rw [hkeep] at htake
  have hlen : ((n.log.drop p).take 20).length = q := by obtain ⟨_, _, e, _⟩ := htake; injection e with _ e _; exact e.symm
  have hq0 : (0 : Int) ≤ (q : Int) := by omega
  have hqc : (q : Int) ≤ (cD : Int) := by omega
  have hq20 : q ≤ 20 := by have := Hq.out; omega
  rw [hM, hcD]
  have HT := Lib.hid htake
  have HLen := Lib.hid hlen
  clear hdrop htake hkeep hlen hD hM hcD hLc hcm hps hmin hwL hwr
  have hW : Below w1.heap.size w1 w1.drew := below_drewN (Below.refl _ w1) 1
  have MK : Hid (∀ w', Below w1.heap.size w1 w' → w'.cell? ⟨s, 7, none⟩ = some (.int .u64 (n.commit : Int))) := Lib.hid (fun w' h => cell_later h c7)
  clear c7
  go_region_held3 (fun w' => w'.cell? ⟨s, 7, none⟩ = some (.int .u64 (n.commit : Int)))
    (first | exact hc7 | exact MK.out _ hW)
    (first | (go_at_call 30; refine (clone_any D q cD _ _ (HT.out.below hW) (by rw [HLen.out]; omega)).mono ?_; rintro e w6 ⟨A6, c6, rfl, hown, hb6⟩; have hE6 : EntsB base w6 (.slice A6 q c6) ((n.log.drop p).take 20) := (by have h := EntsB.of_owns (base := base) hown; rw [HLen.out] at h; exact h); rw [HLen.out]; have hW := hW.trans (hb6.mono hW.size)) | (go_at_call 29; refine (send_any (base := base) (n := n) (ev := .slice A L c) (ms := ms) { rf.msg0 with kind := 3, dst := (tt : Int), index := p, at_ := (rl.termAt n.log p).1, commit := n.commit, ents := (n.log.drop p).take 20 } (HX.out.later hW).st hE6 (by have := HL1.out; omega)).mono ?_; rintro e w7 ⟨rfl, hst⟩; have hc7 : w7.cell? ⟨s, 7, none⟩ = some (.int .u64 (n.commit : Int)) := (by obtain ⟨_, _, _, _, h, _⟩ := hst; exact h.cell 7 _ (stC_low _ _ 7 _ rfl))))
  all_goals
    go_wp2
    go_end0
    refine ⟨rfl, ?_⟩
    obtain ⟨A7, c7, B7, d7, h1, h2, h3⟩ := hst
    exact ⟨A7, c7, B7, d7, h1, HX.out.keeps.trans ((Keeps.below hW).trans h2), (HX.out.below.trans (hW.mono HX.out.st.baseLe)).trans h3⟩
end Go.Proofs.Ytkoidphhlfjlhaa
