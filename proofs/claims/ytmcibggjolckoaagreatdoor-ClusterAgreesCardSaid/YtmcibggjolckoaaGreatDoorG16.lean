/- KfOthers, KfPut, KfTally: one behind the other. -/
import Derived.Lib.MinMax
import Derived.Test.YtmcibggjolckoaaGreatDoorG15
namespace Go.Proofs.YtmcibggjolckoaaGreatDoor
open Go Go.RowKit Go.Deep
set_option maxRecDepth 100000

set_option maxHeartbeats 4000000 in
theorem others_any {s : Nat} {w : World} (F : Nat) (fst caps : Array Value) (id many : Int) (N : Nat) (hN : min many 7 = (N : Int)) (hN7 : N ≤ 7) (Inv : Nat → World → Prop)
    (hc : ∀ j w, Inv j w → w.cell? ⟨s, 0, none⟩ = some (.int .i64 id) ∧ w.cell? ⟨s, 1, none⟩ = some (.int .i64 many))
    (hskip : ∀ (j : Nat) w, Inv j w → (j : Int) = id → Inv (j + 1) w)
    (eg : ∀ args w, (callFunc F args).run Tryz.prog w = .ok (.enter F args) w)
    (hf : ∀ (j : Nat) w, j < N → (j : Int) ≠ id → Inv j w → Calls Tryz.prog F (fst.push (.int .i64 (j : Int)) ++ caps) w (fun e w2 => e = .returned (.tuple #[]) ∧ Inv (j + 1) w2)) (h0 : Inv 0 w) :
    Calls Tryz.prog 57 #[.pointer (some ⟨s, 0, none⟩), .func (.func F) fst caps] w fun e w' => e = .returned (.tuple #[]) ∧ Inv N w' := by
  obtain ⟨c0, c1⟩ := hc 0 w h0
  have HC := Lib.hid hc
  have HS := Lib.hid hskip
  have HF := Lib.hid hf
  have H0 := Lib.hid h0
  have HN := Lib.hid hN
  clear hc hskip hf h0
  go_enter Tryz.func57, Tryz.ntmps57
  go_upto_region 1 with fail
  clear c0 c1
  go_loopw [11] (fun i wr => ∃ j : Nat, j ≤ N ∧ i = .int .i64 j ∧ Inv j wr) (fun i _ => N - (intOf i).toNat)
  case atStart => exact ⟨0, Nat.zero_le _, rfl, H0.out⟩
  case round =>
    obtain ⟨j, hj, rfl, hI⟩ := hrel
    have HI := Lib.hid hI
    clear hI
    obtain ⟨c0, c1⟩ := HC.out j _ HI.out
    by_cases hlt : j < N
    · by_cases hid : (j : Int) = id
      · have hb : ((j : Int) != id) = false := by simp [hid]
        have HD := Lib.hid hid
        clear hid
        go_wp2
        go_roundw
        case rel => exact ⟨j + 1, by omega, by go_num, HS.out j _ HI.out HD.out⟩
        case measure => simp [intOf]; omega
      · have hb : ((j : Int) != id) = true := by simp [hid]
        have hcall := HF.out j _ hlt hid HI.out
        clear hid
        go_wp2_with fail
        refine hcall.mono ?_
        rintro e w2 ⟨rfl, hI2⟩
        have HI2 := Lib.hid hI2
        clear hI2 hcall c0 c1
        go_wp2_with fail
        go_roundw
        case rel => exact ⟨j + 1, by omega, by go_num, HI2.out⟩
        case measure => simp [intOf]; omega
    · obtain rfl : j = N := by omega
      go_wp2
      go_end0
      exact ⟨rfl, HI.out⟩
def cnt (P : Nat → Bool) (j : Nat) : Nat := ((List.range j).filter P).length
theorem cnt_le (P : Nat → Bool) (j : Nat) : cnt P j ≤ j := by
  have := List.length_filter_le P (List.range j)
  simpa [cnt] using this
theorem cnt_yes {P : Nat → Bool} {j : Nat} (h : P j = true) : cnt P (j + 1) = cnt P j + 1 := by
  unfold cnt; rw [List.range_succ, List.filter_append]; simp [h]
theorem cnt_no {P : Nat → Bool} {j : Nat} (h : P j = false) : cnt P (j + 1) = cnt P j := by
  unfold cnt; rw [List.range_succ, List.filter_append]; simp [h]
set_option maxHeartbeats 4000000 in
theorem majority_any {s : Nat} {w : World} (F : Nat) (caps : Array Value) (many : Int) (N : Nat) (hN : min many 7 = (N : Int)) (hN7 : N ≤ 7) (P : Nat → Bool) (Inv : World → Prop)
    (hc : ∀ w, Inv w → w.cell? ⟨s, 1, none⟩ = some (.int .i64 many))
    (eg : ∀ args w, (callFunc F args).run Tryz.prog w = .ok (.enter F args) w)
    (hf : ∀ (j : Nat) w, j < N → Inv w → Calls Tryz.prog F (#[.int .i64 (j : Int)] ++ caps) w (fun e w2 => e = .returned (.bool (P j)) ∧ Inv w2)) (h0 : Inv w) :
    Calls Tryz.prog 84 #[.pointer (some ⟨s, 0, none⟩), .func (.func F) #[] caps] w fun e w' => e = .returned (.bool (decide (many < 2 * (cnt P N : Int)))) ∧ Inv w' := by
  have c1 := hc w h0
  have HC := Lib.hid hc
  have HF := Lib.hid hf
  have H0 := Lib.hid h0
  have HN := Lib.hid hN
  clear hc hf h0
  go_enter Tryz.func84, Tryz.ntmps84
  go_upto_region 3 with fail
  clear c1
  go_loopw [5, 13] (fun n i wr => ∃ j m : Nat, j ≤ N ∧ i = .int .i64 j ∧ m = cnt P j ∧ n = .int .i64 m ∧ Inv wr) (fun _ i _ => N - (intOf i).toNat)
  case atStart => exact ⟨0, 0, Nat.zero_le _, rfl, rfl, rfl, H0.out⟩
  case round =>
    obtain ⟨j, m, hj, rfl, hm, rfl, hI⟩ := hrel
    have HI := Lib.hid hI
    have hm7 : m ≤ 7 := by have := cnt_le P j; omega
    have HM := Lib.hid hm
    clear hI hm
    have c1 := HC.out _ HI.out
    by_cases hlt : j < N
    · have hcall := HF.out j _ hlt HI.out
      go_wp2_with fail
      refine hcall.mono ?_
      rintro e w2 ⟨rfl, hI2⟩
      have HI2 := Lib.hid hI2
      clear hI2 hcall c1
      cases hp : P j with
      | true =>
        have hs := cnt_yes hp
        rw [← HM.out] at hs
        have HS := Lib.hid hs
        clear hp hs
        go_wp2_with fail
        go_roundw
        case rel => exact ⟨j + 1, m + 1, by omega, by go_num, HS.out.symm, by go_num, HI2.out⟩
        case measure => simp [intOf]; omega
      | false =>
        have hs := cnt_no hp
        rw [← HM.out] at hs
        have HS := Lib.hid hs
        clear hp hs
        go_wp2_with fail
        go_roundw
        case rel => exact ⟨j + 1, m, by omega, by go_num, HS.out.symm, by go_num, HI2.out⟩
        case measure => simp [intOf]; omega
    · obtain rfl : j = N := by omega
      have hw : IntKind.i64.wrap (2 * (m : Int)) = 2 * (m : Int) := by rw [IntKind.wrap_i64]; omega
      go_wp2
      go_ret
      exact ⟨ret_of (congrArg Value.bool (by rw [← HM.out])), HI.out⟩
end Go.Proofs.YtmcibggjolckoaaGreatDoor
namespace Go.Proofs.YtmcibggjolckoaaGreatDoor
open Go Go.RowKit Go.Deep
set_option maxRecDepth 100000

set_option maxHeartbeats 2000000 in
theorem clone_any (A : Option Addr) (k c : Nat) (ls : List rl.Ent) (w : World) (hv : Ents w (.slice A k c) ls) (hl : ls.length ≤ 100000) :
    Calls Tryz.prog 36 #[.slice A k c] w fun e w' => ∃ B d, e = .returned (.slice B ls.length d) ∧ w'.ownsRow w.heap.size 35 2 (.slice B ls.length d) ls.length (entCells ls) ∧ Below w.heap.size w w' := by
  obtain ⟨i0, hi, hz0, hz1, hz2⟩ := info_parts info_lent
  have q22 : ∀ (w : World) (a : Option Addr) (n c n' c' : Nat), (binOp .eql 32 (.slice a n c) (.slice none n' c')).run Tryz.prog w = .ok (.bool a.isNone) w := fun w a n c n' c' => Lib.run_eql_slice_nil w _ _ a n c n' c' Tryz.underlying32
  obtain rfl : k = ls.length := by obtain ⟨_, _, e, _⟩ := hv; injection e
  cases A with
  | none =>
    obtain ⟨A', c', e, hc, _, h0⟩ := hv
    obtain ⟨rfl, rfl⟩ : none = A' ∧ c = c' := by injection e with e1 _ e3; exact ⟨e1, e3⟩
    have hz : ls.length = 0 := by
      rcases Nat.eq_zero_or_pos ls.length with h | h
      · exact h
      · obtain ⟨b, o, e, _⟩ := h0 h; cases e
    obtain rfl : ls = [] := List.eq_nil_of_length_eq_zero hz
    clear h0 e hc hl hz
    go_enter Tryz.func36, Tryz.ntmps36
    go_wp2
    go_ret
    exact ⟨none, 0, rfl, World.ownsRow_nil _ _ _ _, Below.refl _ _⟩
  | some a =>
    obtain ⟨hlen, hcells⟩ := hv.cells
    obtain ⟨n, hn⟩ : ∃ n, ls.length = n := ⟨_, rfl⟩
    obtain ⟨xs, hxs⟩ : ∃ xs, entCells ls = xs := ⟨_, rfl⟩
    have hone : ∀ u ∈ xs, u.oneCell' = true := by rw [← hxs]; exact entCells_one ls
    rw [hxs] at hlen hcells ⊢
    rw [hn] at hlen hcells hl ⊢
    have hown0 := World.ownsRow_made (base := w.heap.size) (e := 35) (size := 2) w #[] 0 (Nat.le_refl _) (by unfold maxLen; omega) rfl
    have hb0 : Below w.heap.size w (w.alloc (.cells #[] 35)) := (Below.refl _ w).alloc (Nat.le_refl _) _
    have hcells2 : 0 < n → ∃ ad, some a = some ad ∧ ∀ j u, xs[j]? = some u → (w.alloc (.cells #[] 35)).cell? (ad.add j) = some u := fun h => by
      obtain ⟨ad, e, hh⟩ := hcells h
      exact ⟨ad, e, fun j u hj => cell_later hb0 (hh j u hj)⟩
    have HB0 := Lib.hid hb0
    have HO := Lib.hid hown0
    have HC := Lib.hid hcells2
    have HL := Lib.hid hlen
    have H1 := Lib.hid hone
    clear hv hcells hcells2 hlen hb0 hown0 hone hn hxs
    go_enter Tryz.func36, Tryz.ntmps36
    go_wp2_with (at_builtin; refine wpList_append_opt _ rfl (.tmp 5) (.tmp 6) 32 rfl w.heap.size 35 i0 _ 2 24 Tryz.underlying32 hi hz0 hz1 hz2 rfl (by decide) (.slice (some ⟨w.heap.size, 0, none⟩) 0 0) 0 [] rfl HO.out (some a) n c xs rfl HL.out HC.out H1.out (by unfold maxLen; omega) (by omega) (by simp) ?_; intro v' w' hown' hg')
    have HOWN := Lib.hid hown'
    have HBF : Hid (Below w.heap.size w w') := Lib.hid (HB0.out.grown hg' (by simp) (fun j hj => by have e : w.heap.size = j := (by injection hj); omega))
    clear hown' hg'
    go_wp2
    go_ret
    rw [Nat.zero_add, List.nil_append] at HOWN
    obtain ⟨B, d, rfl⟩ := owns_slice HOWN.out
    exact ⟨B, d, rfl, HOWN.out, HBF.out⟩
set_option maxHeartbeats 4000000 in
theorem kput_any {base s : Nat} {w : World} {n : rf.Node} {A B : Option Addr} {c d : Nat} {ms : List rf.Msg} (tt : Nat) (h : St base w s n (.slice A n.log.length c) (.slice B ms.length d) ms) (hto : tt < 7) (hl : ms.length ≤ 999) (hlog : n.log.length ≤ 10000) :
    Calls Tryz.prog 58 #[.pointer (some ⟨s, 0, none⟩), .int .i64 (tt : Int)] w fun e w' => e = .returned (.tuple #[]) ∧ StTo base w s n (ms ++ [rf.stamp n (rf.putMsg n tt)]) w' := by
  obtain ⟨L, hL⟩ : ∃ L, n.log.length = L := ⟨_, rfl⟩
  obtain ⟨nx, hnx⟩ : ∃ x, n.next.getD tt 0 = x := ⟨_, rfl⟩
  obtain ⟨p, hp⟩ : ∃ p, rf.nextOf n tt = p + 1 := ⟨rf.nextOf n tt - 1, by unfold rf.nextOf; omega⟩
  have hpL : p ≤ L := by unfold rf.nextOf at hp; omega
  obtain ⟨p1, hp1e⟩ : ∃ p1 : Nat, p + 1 = p1 := ⟨_, rfl⟩
  have hmin : min (max (nx : Int) 1) ((L : Int) + 1) = (p1 : Int) := by unfold rf.nextOf at hp; rw [hnx, hL] at hp; omega
  have hwL : IntKind.u64.wrap (L : Int) = (L : Int) := wrap_u64_in (by omega) (by omega)
  have hwr : IntKind.u64.wrap ((L : Int) + 1) = (L : Int) + 1 := wrap_u64_in (by omega) (by omega)
  have hp1 : IntKind.u64.wrap ((p1 : Int) - 1) = (p : Int) := by rw [show (p1 : Int) - 1 = (p : Int) by omega]; exact wrap_u64_in (by omega) (by omega)
  have hmsg : rf.putMsg n tt = { rf.msg0 with kind := 3, dst := (tt : Int), index := p, at_ := (rl.termAt n.log p).1, commit := n.commit, ents := (n.log.drop p).take 20 } := by unfold rf.putMsg; rw [hp]; rfl
  rw [hmsg]
  obtain ⟨q, hq⟩ : ∃ q, min 20 (L - p) = q := ⟨_, rfl⟩
  rw [hL] at h
  have c2 := h.cell 2 _ (stC_low _ _ 2 _ rfl)
  have c3 := h.cell 3 _ (stC_low _ _ 3 _ rfl)
  have c4 := h.cell 4 _ (stC_low _ _ 4 _ rfl)
  have c7 := h.cell 7 _ (stC_low _ _ 7 _ rfl)
  have cN := h.cell (16 + tt) _ (stC_low _ _ _ _ (ndC_next h.ok _ tt hto))
  rw [hnx] at cN
  have HL := Lib.hid hL
  have HH := Lib.hid h
  have Hp := Lib.hid hp
  have HL1 := Lib.hid hl
  have HLog := Lib.hid hlog
  have Hq := Lib.hid hq
  have Hpe := Lib.hid hp1e
  clear hL h hp hmsg hl hlog hnx hq hp1e
  go_enter Tryz.func58, Tryz.ntmps58
  go_wp2_with fail
  refine (termAt_any n.term n.vote _ n.log p w HH.out.ents.1 (by have := HLog.out; omega) (by have := HLog.out; have := HL.out; omega)).mono ?_
  rintro e w1 ⟨rfl, hb1⟩
  have hx := (Sx.start HH.out).later hb1
  have hcc : c ≤ maxLen ∧ L ≤ c := by
    obtain ⟨A', c', e, h1, h2, _⟩ := HH.out.ents.1
    injection e with _ _ e
    subst e
    rw [HL.out] at h1
    exact ⟨h2, h1⟩
  obtain ⟨hcm, hLc⟩ := hcc
  unfold maxLen at hcm
  have hps : (p : Int) ≤ (L : Int) := by omega
  have HX := Lib.hid hx
  clear hx hb1 c2 c3 c4 cN c7
  have c7 := HX.out.st.cell 7 _ (stC_low _ _ 7 _ rfl)
  obtain ⟨D, hD⟩ : ∃ D, (if c = p then A else Option.map (fun x => x.add (p * 2)) A) = D := ⟨_, rfl⟩
  go_wp2_with fail
  obtain ⟨M, hM⟩ : ∃ M, L - p = M := ⟨_, rfl⟩
  obtain ⟨cD, hcD⟩ : ∃ x, c - p = x := ⟨_, rfl⟩
  have hdrop : Ents w1 (.slice D M cD) (n.log.drop p) := by
    have h1 := HX.out.st.ents.1
    rw [← hM, ← hcD]
    exact ents_drop h1 p hpL D (fun b o e hlt => by
      subst e
      rw [← hD, if_neg (by omega)]
      simp [addr_add])
  have hqM : min (20 : Int) (M : Int) = (q : Int) := by have := Hq.out; omega
  have hqle : q ≤ M := by have := Hq.out; omega
  have hMc : M ≤ cD := by omega
  have hcD2 : cD ≤ 9223372036854775807 := by omega
  have htake := ents_take hdrop q hqle
  have hkeep : (n.log.drop p).take q = (n.log.drop p).take 20 := by
    have h1 : (n.log.drop p).length = M := by rw [List.length_drop, HL.out]; exact hM
    have h2 := Hq.out
    rw [hM] at h2
    by_cases h3 : 20 ≤ M
    · rw [show q = 20 by omega]
    · rw [List.take_of_length_le (by omega), List.take_of_length_le (by omega)]
  rw [hkeep] at htake
  have hlen : ((n.log.drop p).take 20).length = q := by obtain ⟨_, _, e, _⟩ := htake; injection e with _ e _; exact e.symm
  have hq0 : (0 : Int) ≤ (q : Int) := by omega
  have hqc : (q : Int) ≤ (cD : Int) := by omega
  have hq20 : q ≤ 20 := by have := Hq.out; omega
  rw [hM, hcD]
  have HT := Lib.hid htake
  have HLen := Lib.hid hlen
  clear hdrop htake hkeep hlen hD hM hcD hLc hcm hps hmin hwL hwr
  have hW : Below w1.heap.size w1 w1.drew := below_drewN (Below.refl _ w1) 1
  have MK : Hid (∀ w', Below w1.heap.size w1 w' → w'.cell? ⟨s, 7, none⟩ = some (.int .u64 (n.commit : Int))) := Lib.hid (fun w' h => cell_later h c7)
  clear c7
  go_region_held3 (fun w' => w'.cell? ⟨s, 7, none⟩ = some (.int .u64 (n.commit : Int)))
    (first | exact hc7 | exact MK.out _ hW)
    (first | (go_at_call 36; refine (clone_any D q cD _ _ (HT.out.below hW) (by rw [HLen.out]; omega)).mono ?_; rintro e w6 ⟨A6, c6, rfl, hown, hb6⟩; have hE6 : EntsB base w6 (.slice A6 q c6) ((n.log.drop p).take 20) := (by have h := EntsB.of_owns (base := base) hown; rw [HLen.out] at h; exact h); rw [HLen.out]; have hW := hW.trans (hb6.mono hW.size)) | (go_at_call 79; refine (send_any (base := base) (n := n) (ev := .slice A L c) (ms := ms) { rf.msg0 with kind := 3, dst := (tt : Int), index := p, at_ := (rl.termAt n.log p).1, commit := n.commit, ents := (n.log.drop p).take 20 } (HX.out.later hW).st hE6 (by have := HL1.out; omega)).mono ?_; rintro e w7 ⟨rfl, hst⟩; have hc7 : w7.cell? ⟨s, 7, none⟩ = some (.int .u64 (n.commit : Int)) := (by obtain ⟨_, _, _, _, h, _⟩ := hst; exact h.cell 7 _ (stC_low _ _ 7 _ rfl))))
  all_goals
    go_wp2
    go_end0
    refine ⟨rfl, ?_⟩
    obtain ⟨A7, c7, B7, d7, h1, h2, h3⟩ := hst
    exact ⟨A7, c7, B7, d7, h1, HX.out.keeps.trans ((Keeps.below hW).trans h2), (HX.out.below.trans (hW.mono HX.out.st.baseLe)).trans h3⟩
end Go.Proofs.YtmcibggjolckoaaGreatDoor
namespace Go.Proofs.YtmcibggjolckoaaGreatDoor
open Go Go.RowKit Go.Deep
set_option maxRecDepth 100000

def othersTo (n : rf.Node) (j : Nat) : List Nat := (List.range j).filter fun j => (j : Int) != n.id
theorem othersTo_no {n : rf.Node} {j : Nat} (h : (j : Int) = n.id) : othersTo n (j + 1) = othersTo n j := by
  unfold othersTo; rw [List.range_succ, List.filter_append]; simp [h]
theorem othersTo_yes {n : rf.Node} {j : Nat} (h : (j : Int) ≠ n.id) : othersTo n (j + 1) = othersTo n j ++ [j] := by
  unfold othersTo; rw [List.range_succ, List.filter_append]; simp [h]
theorem othersTo_len (n : rf.Node) (j : Nat) : (othersTo n j).length ≤ j := by
  have := List.length_filter_le (fun j : Nat => (j : Int) != n.id) (List.range j)
  simpa [othersTo] using this
/-- for each other node: what it sends -/
theorem sends_any {base s : Nat} {w : World} {n : rf.Node} {ev sv : Value} {ms : List rf.Msg} (F : Nat) (fst caps : Array Value) (f : Nat → rf.Msg) (h : St base w s n ev sv ms) (hm0 : 0 ≤ n.many) (hl : ms.length ≤ 900)
    (eg : ∀ args w, (callFunc F args).run Tryz.prog w = .ok (.enter F args) w)
    (K : World → Prop) (hK : K w)
    (hf : ∀ (j : Nat) (A B : Option Addr) (c d : Nat) (ms' : List rf.Msg) (w1 : World), j < 7 → ms'.length ≤ 950 → K w1 → St base w1 s n (.slice A n.log.length c) (.slice B ms'.length d) ms' →
      Calls Tryz.prog F (fst.push (.int .i64 (j : Int)) ++ caps) w1 (fun e w2 => e = .returned (.tuple #[]) ∧ StTo base w1 s n (ms' ++ [f j]) w2 ∧ K w2)) :
    Calls Tryz.prog 57 #[.pointer (some ⟨s, 0, none⟩), .func (.func F) fst caps] w fun e w' => e = .returned (.tuple #[]) ∧ StTo base w s n (ms ++ (rf.others n).map f) w' ∧ K w' := by
  obtain ⟨N, hN⟩ : ∃ N : Nat, min n.many 7 = (N : Int) := ⟨(min n.many 7).toNat, by omega⟩
  have hN7 : N ≤ 7 := by omega
  have hs : rf.size n = N := by unfold rf.size; omega
  refine (others_any (s := s) F fst caps n.id n.many N hN hN7 (fun j w1 => K w1 ∧ ∃ A B c d, Sx base w w1 s n (.slice A n.log.length c) (.slice B (ms ++ (othersTo n j).map f).length d) (ms ++ (othersTo n j).map f)) ?_ ?_ eg ?_ ?_).mono ?_
  · rintro j w1 ⟨_, A, B, c, d, hx⟩
    exact ⟨hx.st.cell 0 _ (stC_low _ _ 0 _ rfl), hx.st.cell 1 _ (stC_low _ _ 1 _ rfl)⟩
  · rintro j w1 ⟨hk, A, B, c, d, hx⟩ e
    have e2 := othersTo_no e
    exact ⟨hk, A, B, c, d, by rw [e2]; exact hx⟩
  · rintro j w1 hj hne ⟨hk, A, B, c, d, hx⟩
    have hlen := othersTo_len n j
    refine (hf j A B c d _ w1 (by omega) (by rw [List.length_append, List.length_map]; omega) hk hx.st).mono ?_
    rintro e w2 ⟨rfl, hst, hk2⟩
    obtain ⟨A2, c2, B2, d2, hx2⟩ := hx.call hst
    refine ⟨rfl, hk2, A2, B2, c2, d2, ?_⟩
    rw [othersTo_yes hne, List.map_append, ← List.append_assoc]
    exact hx2
  · obtain ⟨A, c, rfl⟩ := h.ents.form
    obtain ⟨B, d, rfl⟩ := h.sent.form
    refine ⟨hK, A, B, c, d, ?_⟩
    simp only [othersTo, List.range_zero, List.filter_nil, List.map_nil, List.append_nil]
    exact Sx.start h
  · rintro e w' ⟨rfl, hk, A, B, c, d, hx⟩
    refine ⟨rfl, ?_, hk⟩
    have : rf.others n = othersTo n N := by unfold rf.others othersTo; rw [hs]
    rw [this]
    exact hx.to
/-- what the closure of tally says of a node -/
theorem tally1_any (s g b : Nat) (k i x : Nat) (w : World) (hk : k < 7) (h1 : w.cell? ⟨b, 0, none⟩ = some (.pointer (some ⟨s, 0, none⟩))) (h2 : w.cell? ⟨g, 0, none⟩ = some (.int .u64 (i : Int))) (h3 : w.cell? ⟨s, 23 + k, none⟩ = some (.int .u64 (x : Int))) :
    Calls Tryz.prog 85 #[.int .i64 (k : Int), .pointer (some ⟨b, 0, none⟩), .pointer (some ⟨g, 0, none⟩)] w fun e w' => e = .returned (.bool (decide (i ≤ x))) ∧ Below w.heap.size w w' := by
  have hd : decide ((i : Int) ≤ (x : Int)) = decide (i ≤ x) := by simp
  have HB : Hid (Below w.heap.size w w.drew) := Lib.hid (below_drewN (Below.refl _ w) 1)
  go_enter Tryz.func85, Tryz.ntmps85
  go_wp2_with fail
  go_region
  all_goals
    go_wp2
    go_ret
    exact ⟨rfl, HB.out⟩
set_option maxHeartbeats 4000000 in
theorem tally_any {base s : Nat} {w : World} {n : rf.Node} {A B : Option Addr} {c d : Nat} {ms : List rf.Msg} (h : St base w s n (.slice A n.log.length c) (.slice B ms.length d) ms) (hm0 : 0 ≤ n.many) (hlog : n.log.length ≤ 10000) :
    Calls Tryz.prog 68 #[.pointer (some ⟨s, 0, none⟩)] w fun e w' => e = .returned (.tuple #[]) ∧ StTo base w s (rf.tally n) ms w' ∧ Only s w w' := by
  obtain ⟨L, hL⟩ : ∃ L, n.log.length = L := ⟨_, rfl⟩
  rw [hL] at h
  obtain ⟨b, hbe⟩ : ∃ b, w.heap.size = b := ⟨_, rfl⟩
  obtain ⟨X, hX⟩ : ∃ X, w.alloc (.cells #[.pointer (some ⟨s, 0, none⟩)] 91) = X := ⟨_, rfl⟩
  have hbX : Below w.heap.size w X := by rw [← hX]; exact (Below.refl _ w).alloc (Nat.le_refl _) _
  have kb : Blk X b [.pointer (some ⟨s, 0, none⟩)] 91 := by rw [← hX, ← hbe]; exact Blk.new w _ _
  have hx := (Sx.start h).later hbX
  have c0 := kb.cell 0 _ rfl
  have c2 := hx.st.cell 2 _ (stC_low _ _ 2 _ rfl)
  have c3 := hx.st.cell 3 _ (stC_low _ _ 3 _ rfl)
  have c4 := hx.st.cell 4 _ (stC_low _ _ 4 _ rfl)
  have HL := Lib.hid hL
  have HX := Lib.hid hX
  have HBX := Lib.hid hbX
  have HKB := Lib.hid kb
  have HSX := Lib.hid hx
  have HLog := Lib.hid hlog
  have HBE := Lib.hid hbe
  clear hL hX kb hx h hbX hlog
  go_enter Tryz.func68, Tryz.ntmps68
  go_upto_region 1 with fail
  rw [HX.out]
  clear hbe HX
  go_wp2_with fail
  refine (last_any n.term n.vote _ n.log X HSX.out.st.ents.1 (by have := HLog.out; omega)).mono ?_
  rintro e w1 ⟨rfl, hb1⟩
  rw [HL.out]
  have hx := HSX.out.later hb1
  have kb := HKB.out.below hb1
  clear c0 c2 c3 c4 HKB HSX
  have HSX := Lib.hid hx
  have HKB := Lib.hid kb
  have HBX := Lib.hid (HBX.out.trans (hb1.mono HBX.out.size))
  clear hx kb hb1
  go_wp2_with fail
  have hT0 : rf.tallyAt n L = rf.tally n := by unfold rf.tally; rw [HL.out]
  have HT0 := Lib.hid hT0
  clear hT0
  go_loopw [4] (fun p wr => ∃ i g : Nat, i ≤ L ∧ p = .pointer (some ⟨g, 0, none⟩) ∧ Blk wr g [.int .u64 (i : Int)] 28 ∧ rf.tallyAt n i = rf.tally n ∧ Below w1.heap.size w1 wr ∧ w1.heap.size ≤ g)
    (fun p wr => match p with | .pointer (some a) => (match wr.cell? a with | some v => (intOf v).toNat | none => 0) | _ => 0)
  case atStart => exact ⟨L, w1.heap.size, Nat.le_refl _, rfl, Blk.new w1 _ _, HT0.out, (Below.refl _ w1).alloc (Nat.le_refl _) _, Nat.le_refl _⟩
  case round =>
    obtain ⟨i, g, hi, rfl, kg, hT, hB, hg⟩ := hrel
    have hx := HSX.out.later hB
    have kb := HKB.out.below hB
    have c0 := kb.cell 0 _ rfl
    have g0 := kg.cell 0 _ rfl
    have gf := kg.free 0
    have c2 := hx.st.cell 2 _ (stC_low _ _ 2 _ rfl)
    have c3 := hx.st.cell 3 _ (stC_low _ _ 3 _ rfl)
    have c4 := hx.st.cell 4 _ (stC_low _ _ 4 _ rfl)
    have c7 := hx.st.cell 7 _ (stC_low _ _ 7 _ rfl)
    by_cases hlt : n.commit < i
    · have hd : decide ((n.commit : Int) < (i : Int)) = true := by simp; exact hlt
      obtain ⟨k, hk⟩ : ∃ k, i = k + 1 := ⟨i - 1, by omega⟩
      have hk1 : IntKind.u64.wrap ((i : Int) - 1) = (k : Int) := by rw [show (i : Int) - 1 = (k : Int) by omega]; exact wrap_u64_in (by omega) (by have := HLog.out; have := HL.out; omega)
      obtain ⟨t, is, ht⟩ : ∃ t is, rl.termAt n.log i = (t, is) := ⟨_, _, rfl⟩
      have hTk : rf.tallyAt n i = (if (t == n.term && rf.majority n (fun k => decide (i ≤ n.mat.getD k 0))) = true then { n with commit := i } else rf.tallyAt n k) := by
        subst hk
        conv => lhs; unfold rf.tallyAt
        rw [if_pos hlt, ht]
      have hx5 := hx.drew
      have kb5 : Blk wr.drew b [.pointer (some ⟨s, 0, none⟩)] 91 := kb
      have kg5 : Blk wr.drew g [.int .u64 (i : Int)] 28 := kg
      have hB5 : Below w1.heap.size w1 wr.drew := below_drewN hB 1
      have HG0 := Lib.hid g0
      have HX5 := Lib.hid hx5
      have HB5 := Lib.hid hB5
      have HKB5 := Lib.hid kb5
      have HKG5 := Lib.hid kg5
      have HT := Lib.hid hT
      have HTK := Lib.hid hTk
      have Hk := Lib.hid hk
      have Ht := Lib.hid ht
      clear hx5 kb5 kg5 hB5 hT hTk hk ht hx kb kg hB
      go_wp2_with fail
      go_region
      obtain ⟨Y, hY⟩ : ∃ Y, wr.drew = Y := ⟨_, rfl⟩
      rw [hY] at HX5 HB5 HKB5 HKG5 ⊢
      clear c0 g0 gf c2 c3 c4 c7 hd hY
      have MK : Hid (∀ w', Below Y.heap.size Y w' → w'.cell? ⟨b, 0, none⟩ = some (.pointer (some ⟨s, 0, none⟩)) ∧ w'.cell? ⟨g, 0, none⟩ = some (.int .u64 (i : Int)) ∧ w'.cell? ⟨s, 2, none⟩ = some (.int .u64 (n.term : Int)) ∧ w'.cell? ⟨s, 3, none⟩ = some (.int .i64 n.vote) ∧ w'.cell? ⟨s, 4, none⟩ = some (.slice A L c)) := Lib.hid (fun w' h => by
        have h1 := HX5.out.later h
        exact ⟨(HKB5.out.below h).cell 0 _ rfl, (HKG5.out.below h).cell 0 _ rfl, h1.st.cell 2 _ (stC_low _ _ 2 _ rfl), h1.st.cell 3 _ (stC_low _ _ 3 _ rfl), h1.st.cell 4 _ (stC_low _ _ 4 _ rfl)⟩)
      have hW : Below Y.heap.size Y Y.drew := below_drewN (Below.refl _ Y) 1
      go_wp2_with fail
      go_region_held3 (fun w' => w'.cell? ⟨b, 0, none⟩ = some (.pointer (some ⟨s, 0, none⟩)) ∧ w'.cell? ⟨g, 0, none⟩ = some (.int .u64 (i : Int)) ∧ w'.cell? ⟨s, 2, none⟩ = some (.int .u64 (n.term : Int)) ∧ w'.cell? ⟨s, 3, none⟩ = some (.int .i64 n.vote) ∧ w'.cell? ⟨s, 4, none⟩ = some (.slice A L c))
        (exact MK.out _ hW)
        (first | (go_at_call 78; refine (termAt_any n.term n.vote _ n.log i _ (HX5.out.later hW).st.ents.1 (by have := HLog.out; omega) (by have := HLog.out; have := HL.out; omega)).mono ?_; rintro e w6 ⟨rfl, hb⟩; rw [Ht.out]; have hW := hW.trans (hb.mono hW.size)))
      have hx6 := HX5.out.later hW
      have hB6 := HB5.out.trans (hW.mono HB5.out.size)
      have kb6 := HKB5.out.below hW
      have kg6 := HKG5.out.below hW
      have c0 := kb6.cell 0 _ rfl
      have g0 := kg6.cell 0 _ rfl
      have c2 := hx6.st.cell 2 _ (stC_low _ _ 2 _ rfl)
      have HX6 := Lib.hid hx6
      have HB6 := Lib.hid hB6
      have HKB6 := Lib.hid kb6
      have HKG6 := Lib.hid kg6
      clear hx6 hB6 kb6 kg6 HX5 HB5 HKB5 HKG5 hW hb MK
      have hnext : ∀ Y2 : World, Below w6.heap.size w6 Y2 → (t == n.term && rf.majority n (fun k => decide (i ≤ n.mat.getD k 0))) = false → ∃ i g' : Nat, i ≤ L ∧ Value.pointer (some ⟨Y2.heap.size, 0, none⟩) = .pointer (some ⟨g', 0, none⟩) ∧ Blk (Y2.alloc (.cells #[.int .u64 (k : Int)] 28)) g' [.int .u64 (i : Int)] 28 ∧ rf.tallyAt n i = rf.tally n ∧ Below w1.heap.size w1 (Y2.alloc (.cells #[.int .u64 (k : Int)] 28)) ∧ w1.heap.size ≤ g' := by
        intro Y2 hY2 hno
        have h2 := HB6.out.trans (hY2.mono HB6.out.size)
        have hTk := HTK.out
        rw [hno, if_neg (by simp)] at hTk
        exact ⟨k, Y2.heap.size, by have := Hk.out; omega, rfl, Blk.new Y2 _ _, by rw [← hTk]; exact HT.out, h2.alloc h2.size _, h2.size⟩
      have HN := Lib.hid hnext
      clear hnext
      have hmeas : ∀ Y2 : World, (match (Value.pointer (some ⟨Y2.heap.size, 0, none⟩)) with | .pointer (some a) => (match (Y2.alloc (.cells #[.int .u64 (k : Int)] 28)).cell? a with | some v => (intOf v).toNat | none => 0) | _ => 0) <
          (match (Value.pointer (some ⟨g, 0, none⟩)) with | .pointer (some a) => (match wr.cell? a with | some v => (intOf v).toNat | none => 0) | _ => 0) := by
        intro Y2
        have e1 := HG0.out
        have e2 : (Y2.alloc (.cells #[.int .u64 (k : Int)] 28)).cell? ⟨Y2.heap.size, 0, none⟩ = some (.int .u64 (k : Int)) := (Blk.new Y2 [.int .u64 (k : Int)] 28).cell 0 _ rfl
        simp only [e1, e2, intOf]
        have := Hk.out
        omega
      have HM := Lib.hid hmeas
      clear hmeas
      by_cases htt : t = n.term
      · have hf : ((t : Int) == (n.term : Int)) = true := by rw [beq_iff_eq]; omega
        obtain ⟨N, hN⟩ : ∃ N : Nat, min n.many 7 = (N : Int) := ⟨(min n.many 7).toNat, by omega⟩
        have hN7 : N ≤ 7 := by omega
        have hs : rf.size n = N := by unfold rf.size; omega
        have hmaj : rf.majority n (fun k => decide (i ≤ n.mat.getD k 0)) = decide (n.many < 2 * (cnt (fun k => decide (i ≤ n.mat.getD k 0)) N : Int)) := by unfold rf.majority rf.count cnt; rw [hs]
        have HMJ := Lib.hid hmaj
        have Htt := Lib.hid htt
        have HN := Lib.hid HN.out
        have HNN := Lib.hid hN
        have HN7 := Lib.hid hN7
        clear hmaj hs htt hN hN7
        go_wp2_with fail
        refine (majority_any (s := s) 85 #[.pointer (some ⟨b, 0, none⟩), .pointer (some ⟨g, 0, none⟩)] n.many N HNN.out HN7.out (fun k => decide (i ≤ n.mat.getD k 0)) (fun w' => Below w6.heap.size w6 w') ?_ (enters_any Tryz.func85 (by kernel_rfl) rfl) ?_ (Below.refl _ _)).mono ?_
        · intro w' h
          exact (HX6.out.later h).st.cell 1 _ (stC_low _ _ 1 _ rfl)
        · intro j w' hj h
          have hx' := HX6.out.later h
          refine (tally1_any s g b j i (n.mat.getD j 0) w' (by have := HN7.out; omega) ((HKB6.out.below h).cell 0 _ rfl) ((HKG6.out.below h).cell 0 _ rfl) (hx'.st.cell _ _ (stC_low _ _ _ _ (ndC_mat hx'.st.ok _ j (by have := HN7.out; omega))))).mono ?_
          rintro e w2 ⟨rfl, h2⟩
          exact ⟨rfl, h.trans (h2.mono h.size)⟩
        rintro e w7 ⟨rfl, h7⟩
        rw [← HMJ.out]
        have hx7 := HX6.out.later h7
        have c0 := (HKB6.out.below h7).cell 0 _ rfl
        have g0 := (HKG6.out.below h7).cell 0 _ rfl
        have f7 := hx7.st.free 7
        have c7 := hx7.st.cell 7 _ (stC_low _ _ 7 _ rfl)
        have H7 := Lib.hid h7
        have HX7 := Lib.hid hx7
        clear h7 hx7 c2
        cases hmm : rf.majority n (fun k => decide (i ≤ n.mat.getD k 0)) with
        | true =>
          have hfin : rf.tally n = { n with commit := i } := by
            rw [← HT.out, HTK.out, hmm, if_pos]
            rw [Htt.out]; simp
          have HFin := Lib.hid hfin
          have hst := HX7.out.store 7 (.int .u64 (i : Int)) (n' := { n with commit := i }) rfl rfl (HX7.out.st.ok.of rfl rfl rfl)
          have HST := Lib.hid hst
          clear hfin hst hmm
          go_wp2
          refine bodyPost_ret (results_none rfl _ _ _) rfl ?_
          rw [HFin.out]
          exact ⟨rfl, HST.out.to, (Only.below (HBX.out.trans ((HB6.out.trans (H7.out.mono HB6.out.size)).mono HBX.out.size))).set _ _⟩
        | false =>
          have hno : (t == n.term && rf.majority n (fun k => decide (i ≤ n.mat.getD k 0))) = false := by rw [hmm]; simp
          have HNO := Lib.hid hno
          clear hno hmm
          go_wp2_with fail
          go_roundw
          case rel => exact HN.out _ H7.out HNO.out
          case measure => exact HM.out _
      · have hf : ((t : Int) == (n.term : Int)) = false := by rw [beq_eq_false_iff_ne]; omega
        have hno : (t == n.term && rf.majority n (fun k => decide (i ≤ n.mat.getD k 0))) = false := by rw [beq_eq_false_iff_ne.2 htt]; rfl
        have HNO := Lib.hid hno
        clear htt hno
        go_wp2_with fail
        go_roundw
        case rel => exact HN.out _ (Below.refl _ _) HNO.out
        case measure => exact HM.out _
    · have hd : decide ((n.commit : Int) < (i : Int)) = false := by simp; omega
      have hfin : rf.tally n = n := by
        rw [← hT]
        cases i with
        | zero => rfl
        | succ i => unfold rf.tallyAt; rw [if_neg hlt]
      have HFin := Lib.hid hfin
      have HFX := Lib.hid hx.drew
      have HFB : Hid (Below w.heap.size w wr.drew) := Lib.hid (below_drewN (HBX.out.trans (hB.mono HBX.out.size)) 1)
      clear hfin hT hx kb kg hB
      go_wp2_with fail
      go_region
      all_goals
        go_wp2
        go_end0
        rw [HFin.out]
        exact ⟨rfl, HFX.out.to, Only.below HFB.out⟩
end Go.Proofs.YtmcibggjolckoaaGreatDoor
