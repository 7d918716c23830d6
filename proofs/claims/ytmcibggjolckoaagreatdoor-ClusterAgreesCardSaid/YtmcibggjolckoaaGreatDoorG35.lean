/- KcPropose1: one behind the other. -/
import Derived.Test.YtmcibggjolckoaaGreatDoorG34
import Derived.Deep.RegionHeld
import Derived.Deep.RegionLaw
import Derived.Deep.RegionHeld3
namespace Go.Proofs.YtmcibggjolckoaaGreatDoor
open Go Go.RowKit Go.Deep
set_option maxRecDepth 100000
theorem propose_small (n : rf.Node) (text : List UInt8)   : (rf.propose n text).2.1.length ≤ 1000 := by
  unfold rf.propose
  split
  · exact Nat.zero_le _
  · split
    · exact Nat.zero_le _
    · have := puts_len (rf.tally (rf.grown n text))
      show (rf.puts (rf.tally (rf.grown n text))).length ≤ 1000
      omega
set_option maxHeartbeats 8000000 in
theorem propose1_not {B M K : Nat} {w0 w : World} {c R : Nat} {C : cl.Clu} {F : Nat → Fp} {k : Nat} {wv : Value} {i : Nat} (h : CluAt B w0 w c R C F k wv) (rd : Ready M K B C i) (ht : TabAt w0) (bx bt ba : Nat) (text : List UInt8) (hbx : Vb w bx [cptr c] 24) (hbt : Vb w bt [.string (crcm.mk text)] 9) (hba : Vb w ba [.int .u64 0] 28) (hba0 : w0.heap.size ≤ ba) (htx : text.length ≤ 100) (hr : (C.p i).x.role ≠ 2) :
    Calls Tryz.prog 33 (#[] ++ #[.pointer (some ⟨(F i).q, 0, none⟩)] ++ #[.pointer (some ⟨bt, 0, none⟩), .pointer (some ⟨ba, 0, none⟩), .pointer (some ⟨bx, 0, none⟩)]) w fun e w' => e = .returned (.int .i64 170) ∧ Below w.heap.size w w' := by
  have hn7 := h.n7
  have hi := rd.lt
  have hlim := cl.propose_lim (x := (C.p i).x) (by have := rd.hK; omega) rd.lim htx
  have hsm := propose_small (C.p i).x text
  have hprop := fun W (hb : Below w.heap.size w W) => propose_any (C.p i).x text (F i).A (F i).c W (((h.peers i hi).ents.re (b := w.heap.size)).later hb).re (h.peers i hi).ok (by rw [rd.many]; omega) (by have := rd.lim.len; have := rd.hM; omega)
  have hpe : rf.propose (C.p i).x text = ((C.p i).x, [], 0, 170) := by unfold rf.propose; rw [if_pos (.inl hr)]
  obtain ⟨x, hx⟩ : ∃ x, (C.p i).x = x := ⟨_, rfl⟩
  obtain ⟨ms, hms⟩ : ∃ ms : List rf.Msg, [] = ms := ⟨_, rfl⟩
  rw [show ((C.p i).x, ([] : List rf.Msg), 0, (170 : Int)) = (x, ms, 0, 170) by rw [hx, hms]] at hpe
  clear hx hms
  rw [hpe] at hprop hlim hsm
  dsimp only at hprop hlim hsm
  have HT := Lib.hid hprop
  have HSZ : Hid ((Tryz.prog.info? 50).map (·.size) = some (ndC (C.p i).x ((F i).ev (C.p i).x)).length) := Lib.hid (by rw [node_size, ndC_len (h.peers i hi).ok])
  have hMK : ∀ w', Below w.heap.size w w' → (w'.rangeAt (F i).q 0 (ndC (C.p i).x ((F i).ev (C.p i).x)) ∧ w'.cell? ⟨bt, 0, none⟩ = some (.string (crcm.mk text))) := fun w' hb => ⟨(h.later hb).ndRange hi, cell_later hb (hbt.cell 0 _ rfl)⟩
  have MK := Lib.hid hMK
  have hCH := fun (W w3 : World) (A : Option Addr) (c' : Nat) (D : Option Addr) (d : Nat) (hbW : Below w.heap.size w W) (hA3 : Apart [ba] W w3) ok hE hS => (change_told (W := w3) (A := A) (c' := c') (D := D) (d := d) ((h.later hbW).alien hA3 fun y hy => by
    obtain rfl : y = ba := by simpa using hy
    exact ⟨hba0, _, _, (hbW.block _ hba.lt).trans hba, by decide⟩) rd ht x ms (hlim.1.mono (Nat.le_refl _) (Nat.le_succ _)) hsm ok hE hS)
  have HCH := Lib.hid hCH
  have HW0 : Hid (w0.heap.size ≤ w.heap.size) := Lib.hid h.bel.size
  have HMP : Hid (∀ i, i < C.n → ∃ M, FMap w (F i).b M) := Lib.hid h.maps
  obtain ⟨ev0, hev0⟩ : ∃ v, (F i).ev (C.p i).x = v := ⟨_, rfl⟩
  obtain ⟨x0, hx0⟩ : ∃ v, (C.p i).x = v := ⟨_, rfl⟩
  obtain ⟨q, hq⟩ : ∃ q, (F i).q = q := ⟨_, rfl⟩
  rw [hev0, hx0, hq] at MK
  rw [hev0, hx0] at HSZ
  rw [show Value.slice (F i).A (C.p i).x.log.length (F i).c = ev0 from hev0, hx0] at HT
  rw [hq] at HCH ⊢
  have HBX := Lib.hid hbx
  have HBA := Lib.hid hba
  have hW : Below w.heap.size w w.drew := below_drewN (Below.refl _ w) 1
  clear hn7 hi hlim hsm h hq hCH hbx hbt hba rd hprop hpe hMK hev0
  unfold cptr at HCH HBX
  rw [show (#[] ++ #[Value.pointer (some ⟨q, 0, none⟩)] ++ #[Value.pointer (some ⟨bt, 0, none⟩), .pointer (some ⟨ba, 0, none⟩), .pointer (some ⟨bx, 0, none⟩)] : Array Value) = #[.pointer (some ⟨q, 0, none⟩), .pointer (some ⟨bt, 0, none⟩), .pointer (some ⟨ba, 0, none⟩), .pointer (some ⟨bx, 0, none⟩)] from rfl]
  go_enter Tryz.func33, Tryz.ntmps33
  go_upto_region 1 with fail
  unfold ndV at HT
  refine wp_region_held_drew (S := (fun w' => w'.rangeAt q 0 (ndC x0 ev0) ∧ w'.cell? ⟨bt, 0, none⟩ = some (.string (crcm.mk text)))) (by kernel_rfl) (MK.out _ hW) (fun hHeld => ?_)
  (refine wpAnyH_take (i := 0) (v := ?_) (opsAt rfl) (by kernel_rfl) (by kernel_rfl) (by kernel_rfl) (fun _ _ _ h => h) (Or.inl ⟨by rfl, ?_⟩) (by assumption) ?_; rotate_left; focus (intro w hSw; (try dsimp only at hSw); go_simp; (try with_reducible rfl); done))
  (try simp only [Act.put, List.setIfInBounds_toArray, List.set_cons_zero, List.set_cons_succ])
  (refine wpAnyH_take (i := 1) (v := ?_) (opsAt rfl) (by kernel_rfl) (by kernel_rfl) (by kernel_rfl) (fun _ _ _ h => h) (Or.inl ⟨by rfl, ?_⟩) (by assumption) ?_; rotate_left; focus (intro w hSw; (try dsimp only at hSw); go_simp; (try with_reducible rfl); done))
  (try simp only [Act.put, List.setIfInBounds_toArray, List.set_cons_zero, List.set_cons_succ])
  (refine wpAnyH_take (i := 2) (v := ?_) (opsAt rfl) (by kernel_rfl) (by kernel_rfl) (by kernel_rfl) (fun _ _ _ h => h) (Or.inl ⟨by rfl, ?_⟩) (by assumption) ?_; rotate_left; focus (intro w hSw; (try dsimp only at hSw); go_simp; (try with_reducible rfl); done))
  (try simp only [Act.put, List.setIfInBounds_toArray, List.set_cons_zero, List.set_cons_succ])
  refine wpAnyH_take (i := 3) (opsAt rfl) (by kernel_rfl) (by kernel_rfl) (by kernel_rfl) (fun _ _ _ h => h) (yieldsIf_load_mid (by rfl) _ _ rfl _ _ rfl _ _ (fun _ h => h.1) Tryz.underlying50 rfl HSZ.out) (by assumption) ?_
  (try simp only [Act.put, List.setIfInBounds_toArray, List.set_cons_zero, List.set_cons_succ])
  (refine wpAnyH_take (i := 4) (v := ?_) (opsAt rfl) (by kernel_rfl) (by kernel_rfl) (by kernel_rfl) (fun _ _ _ h => h) (Or.inl ⟨by rfl, ?_⟩) (by assumption) ?_; rotate_left; focus (intro w hSw; (try dsimp only at hSw); go_simp; (try with_reducible rfl); done))
  (try simp only [Act.put, List.setIfInBounds_toArray, List.set_cons_zero, List.set_cons_succ])
  refine wpAnyH_ready (rs := [5, 11]) (by kernel_rfl) (by simp) ?_
  refine (AllReadyH.cons (opsAt rfl) (fun K hK => ?_) (AllReadyH.cons (opsAt rfl) (fun K hK => ?_) AllReadyH.nil))
  · rw [if_pos (by rfl)]
    go_simp
    go_at_call 34
    refine (HT.out _ hW).mono ?_
    rintro e w1 ⟨nv, sv, rfl, hO⟩
    obtain ⟨A1, c1, D1, d1, rfl, rfl, hE1, hS1, ok1, hb1⟩ := hO
    (try unfold ndV)
    have HOK := Lib.hid ok1
    have HS6 : Hid ((ndC x (.slice A1 x.log.length c1)).toArray.size = 30) := Lib.hid (by rw [List.size_toArray, ndC_len ok1])
    have HLD := Lib.hid (laid_after (w := w) hE1 hS1 (hW.trans (hb1.mono hW.size)) (Nat.le_trans HW0.out hW.size))
    have HZ : Hid (Blk (w1.alloc (.cells #[.int .i64 0, .int .i64 0, .int .u64 0, .int .i64 0, .slice none 0 0, .int .i64 0, .int .i64 0, .int .u64 0, .int .i64 0, .bool false, .bool false, .bool false, .bool false, .bool false, .bool false, .bool false, .int .u64 0, .int .u64 0, .int .u64 0, .int .u64 0, .int .u64 0, .int .u64 0, .int .u64 0, .int .u64 0, .int .u64 0, .int .u64 0, .int .u64 0, .int .u64 0, .int .u64 0, .int .u64 0] 50)) w1.heap.size (ndC zeroN nilV) 50) := Lib.hid (Blk.new w1 _ _)
    have hW := hW.trans (hb1.mono hW.size)
    dsimp only
    refine hK.out _ _ (MK.out _ hW) (fun hHeld => ?_)
    clear hK K
    (try simp only [Act.put, List.setIfInBounds_toArray, List.set_cons_zero, List.set_cons_succ])
    (refine wpAnyH_take (i := 6) (v := ?_) (opsAt rfl) (by kernel_rfl) (by kernel_rfl) (by kernel_rfl) (fun _ _ _ h => h) (Or.inl ⟨by rfl, ?_⟩) (by assumption) ?_; rotate_left; focus (intro w hSw; (try dsimp only at hSw); go_simp; (try with_reducible rfl); done))
    (try simp only [Act.put, List.setIfInBounds_toArray, List.set_cons_zero, List.set_cons_succ])
    (refine wpAnyH_take (i := 7) (v := ?_) (opsAt rfl) (by kernel_rfl) (by kernel_rfl) (by kernel_rfl) (fun _ _ _ h => h) (Or.inl ⟨by rfl, ?_⟩) (by assumption) ?_; rotate_left; focus (intro w hSw; (try dsimp only at hSw); go_simp; (try with_reducible rfl); done))
    (try simp only [Act.put, List.setIfInBounds_toArray, List.set_cons_zero, List.set_cons_succ])
    (refine wpAnyH_take (i := 8) (v := ?_) (opsAt rfl) (by kernel_rfl) (by kernel_rfl) (by kernel_rfl) (fun _ _ _ h => h) (Or.inl ⟨by rfl, ?_⟩) (by assumption) ?_; rotate_left; focus (intro w hSw; (try dsimp only at hSw); go_simp; (try with_reducible rfl); done))
    (try simp only [Act.put, List.setIfInBounds_toArray, List.set_cons_zero, List.set_cons_succ])
    (refine wpAnyH_take (i := 9) (v := ?_) (opsAt rfl) (by kernel_rfl) (by kernel_rfl) (by kernel_rfl) (fun _ _ _ h => h) (Or.inl ⟨by rfl, ?_⟩) (by assumption) ?_; rotate_left; focus (intro w hSw; (try dsimp only at hSw); go_simp; (try with_reducible rfl); done))
    (try simp only [Act.put, List.setIfInBounds_toArray, List.set_cons_zero, List.set_cons_succ])
    (refine wpAnyH_take (i := 10) (v := ?_) (opsAt rfl) (by kernel_rfl) (by kernel_rfl) (by kernel_rfl) (fun _ _ _ h => h) (Or.inl ⟨by rfl, ?_⟩) (by assumption) ?_; rotate_left; focus (intro w hSw; (try dsimp only at hSw); go_simp; (try with_reducible rfl); done))
    (try simp only [Act.put, List.setIfInBounds_toArray, List.set_cons_zero, List.set_cons_succ])
    refine wpAnyH_ready (rs := [11]) (by kernel_rfl) (by simp) ?_
    refine (AllReadyH.cons (opsAt rfl) (fun K hK => ?_) AllReadyH.nil)
    rw [if_pos (by rfl)]
    go_simp
    have hW := hW.trans (((Below.refl _ w1).alloc (Nat.le_refl _) (.cells #[.int .i64 0, .int .i64 0, .int .u64 0, .int .i64 0, .slice none 0 0, .int .i64 0, .int .i64 0, .int .u64 0, .int .i64 0, .bool false, .bool false, .bool false, .bool false, .bool false, .bool false, .bool false, .int .u64 0, .int .u64 0, .int .u64 0, .int .u64 0, .int .u64 0, .int .u64 0, .int .u64 0, .int .u64 0, .int .u64 0, .int .u64 0, .int .u64 0, .int .u64 0, .int .u64 0, .int .u64 0] 50)).mono hW.size)
    (try dsimp only)
    refine hK.out _ _ (MK.out _ hW) (fun hHeld => ?_)
    clear hK K
    (try simp only [Act.put, List.setIfInBounds_toArray, List.set_cons_zero, List.set_cons_succ])
    refine wpAnyH_ready (rs := [12]) (by kernel_rfl) (by simp) ?_
    refine (AllReadyH.cons (opsAt rfl) (fun K hK => ?_) AllReadyH.nil)
    rw [if_pos (by rfl)]
    refine wp_store_row 50 _ _ rfl _ _ rfl rfl _ _ HZ.out (by rw [node_size, HS6.out]) (by rw [HS6.out]; rfl) (ndC_one rfl) ?_
    (try simp only [Act.put])
    refine hK.out _ _ (MK.out _ HLD.out.bel) (fun hHeld => ?_)
    clear hK K
    (try simp only [Act.put, List.setIfInBounds_toArray, List.set_cons_zero, List.set_cons_succ])
    (refine wpAnyH_take (i := 13) (v := ?_) (opsAt rfl) (by kernel_rfl) (by kernel_rfl) (by kernel_rfl) (fun _ _ _ h => h) (Or.inl ⟨by rfl, ?_⟩) (by assumption) ?_; rotate_left; focus (intro w hSw; (try dsimp only at hSw); go_simp; (try with_reducible rfl); done))
    (try simp only [Act.put, List.setIfInBounds_toArray, List.set_cons_zero, List.set_cons_succ])
    (refine wpAnyH_take (i := 14) (v := ?_) (opsAt rfl) (by kernel_rfl) (by kernel_rfl) (by kernel_rfl) (fun _ _ _ h => h) (Or.inl ⟨by rfl, ?_⟩) (by assumption) ?_; rotate_left; focus (intro w hSw; (try dsimp only at hSw); go_simp; (try with_reducible rfl); done))
    (try simp only [Act.put, List.setIfInBounds_toArray, List.set_cons_zero, List.set_cons_succ])
    (refine wpAnyH_take (i := 15) (v := ?_) (opsAt rfl) (by kernel_rfl) (by kernel_rfl) (by kernel_rfl) (fun _ _ _ h => h) (Or.inl ⟨by rfl, ?_⟩) (by assumption) ?_; rotate_left; focus (intro w hSw; (try dsimp only at hSw); go_simp; (try with_reducible rfl); done))
    (try simp only [Act.put, List.setIfInBounds_toArray, List.set_cons_zero, List.set_cons_succ])
    refine wpAnyH_done (by kernel_rfl) ?_ _
    obtain ⟨bn, hbn⟩ : ∃ b, w1.heap.size = b := ⟨_, rfl⟩
    rw [hbn] at HLD ⊢
    obtain ⟨W, hWW⟩ : ∃ W, (w1.alloc (.cells #[.int .i64 0, .int .i64 0, .int .u64 0, .int .i64 0, .slice none 0 0, .int .i64 0, .int .i64 0, .int .u64 0, .int .i64 0, .bool false, .bool false, .bool false, .bool false, .bool false, .bool false, .bool false, .int .u64 0, .int .u64 0, .int .u64 0, .int .u64 0, .int .u64 0, .int .u64 0, .int .u64 0, .int .u64 0, .int .u64 0, .int .u64 0, .int .u64 0, .int .u64 0, .int .u64 0, .int .u64 0] 50)).setRow bn (ndC x (.slice A1 x.log.length c1)).toArray = W := ⟨_, rfl⟩
    rw [hWW] at HLD ⊢
    clear hHeld hW hE1 hS1 hb1 ok1 HZ hbn hWW
    clear HBA HMP HCH HBX
    have HBL := Lib.hid HLD.out.bel
    clear HLD MK
    go_wp2_with fail
    go_ret
    exact ⟨rfl, HBL.out⟩
  · rw [if_pos (by rfl)]
    go_simp
    have hbz := (Below.refl _ w.drew).alloc (Nat.le_refl _) (.cells #[.int .i64 0, .int .i64 0, .int .u64 0, .int .i64 0, .slice none 0 0, .int .i64 0, .int .i64 0, .int .u64 0, .int .i64 0, .bool false, .bool false, .bool false, .bool false, .bool false, .bool false, .bool false, .int .u64 0, .int .u64 0, .int .u64 0, .int .u64 0, .int .u64 0, .int .u64 0, .int .u64 0, .int .u64 0, .int .u64 0, .int .u64 0, .int .u64 0, .int .u64 0, .int .u64 0, .int .u64 0] 50)
    have hZ0 : Blk (w.drew.alloc (.cells #[.int .i64 0, .int .i64 0, .int .u64 0, .int .i64 0, .slice none 0 0, .int .i64 0, .int .i64 0, .int .u64 0, .int .i64 0, .bool false, .bool false, .bool false, .bool false, .bool false, .bool false, .bool false, .int .u64 0, .int .u64 0, .int .u64 0, .int .u64 0, .int .u64 0, .int .u64 0, .int .u64 0, .int .u64 0, .int .u64 0, .int .u64 0, .int .u64 0, .int .u64 0, .int .u64 0, .int .u64 0] 50)) w.drew.heap.size (ndC zeroN nilV) 50 := Blk.new w.drew _ _
    have hW0 := hW
    have hW := hW.trans (hbz.mono hW.size)
    (try dsimp only)
    refine hK.out _ _ (MK.out _ hW) (fun hHeld => ?_)
    clear hK K
    (try simp only [Act.put, List.setIfInBounds_toArray, List.set_cons_zero, List.set_cons_succ])
    refine wpAnyH_ready (rs := [5]) (by kernel_rfl) (by simp) ?_
    refine (AllReadyH.cons (opsAt rfl) (fun K hK => ?_) AllReadyH.nil)
    rw [if_pos (by rfl)]
    go_simp
    go_at_call 34
    refine (HT.out _ hW).mono ?_
    rintro e w1 ⟨nv, sv, rfl, hO⟩
    obtain ⟨A1, c1, D1, d1, rfl, rfl, hE1, hS1, ok1, hb1⟩ := hO
    (try unfold ndV)
    have HOK := Lib.hid ok1
    have HS6 : Hid ((ndC x (.slice A1 x.log.length c1)).toArray.size = 30) := Lib.hid (by rw [List.size_toArray, ndC_len ok1])
    have HZ : Hid (Blk w1 w.heap.size (ndC zeroN nilV) 50) := Lib.hid (hZ0.below hb1)
    have HLD := Lib.hid (laid_before (w := w) (bn := w.heap.size) HZ.out hE1 hS1 (hW.trans (hb1.mono hW.size)) (Nat.le_refl _) (Nat.le_trans HW0.out hW.size))
    have hW := hW.trans (hb1.mono hW.size)
    dsimp only
    refine hK.out _ _ (MK.out _ hW) (fun hHeld => ?_)
    clear hK K
    (try simp only [Act.put, List.setIfInBounds_toArray, List.set_cons_zero, List.set_cons_succ])
    (refine wpAnyH_take (i := 6) (v := ?_) (opsAt rfl) (by kernel_rfl) (by kernel_rfl) (by kernel_rfl) (fun _ _ _ h => h) (Or.inl ⟨by rfl, ?_⟩) (by assumption) ?_; rotate_left; focus (intro w hSw; (try dsimp only at hSw); go_simp; (try with_reducible rfl); done))
    (try simp only [Act.put, List.setIfInBounds_toArray, List.set_cons_zero, List.set_cons_succ])
    (refine wpAnyH_take (i := 7) (v := ?_) (opsAt rfl) (by kernel_rfl) (by kernel_rfl) (by kernel_rfl) (fun _ _ _ h => h) (Or.inl ⟨by rfl, ?_⟩) (by assumption) ?_; rotate_left; focus (intro w hSw; (try dsimp only at hSw); go_simp; (try with_reducible rfl); done))
    (try simp only [Act.put, List.setIfInBounds_toArray, List.set_cons_zero, List.set_cons_succ])
    (refine wpAnyH_take (i := 8) (v := ?_) (opsAt rfl) (by kernel_rfl) (by kernel_rfl) (by kernel_rfl) (fun _ _ _ h => h) (Or.inl ⟨by rfl, ?_⟩) (by assumption) ?_; rotate_left; focus (intro w hSw; (try dsimp only at hSw); go_simp; (try with_reducible rfl); done))
    (try simp only [Act.put, List.setIfInBounds_toArray, List.set_cons_zero, List.set_cons_succ])
    (refine wpAnyH_take (i := 9) (v := ?_) (opsAt rfl) (by kernel_rfl) (by kernel_rfl) (by kernel_rfl) (fun _ _ _ h => h) (Or.inl ⟨by rfl, ?_⟩) (by assumption) ?_; rotate_left; focus (intro w hSw; (try dsimp only at hSw); go_simp; (try with_reducible rfl); done))
    (try simp only [Act.put, List.setIfInBounds_toArray, List.set_cons_zero, List.set_cons_succ])
    (refine wpAnyH_take (i := 10) (v := ?_) (opsAt rfl) (by kernel_rfl) (by kernel_rfl) (by kernel_rfl) (fun _ _ _ h => h) (Or.inl ⟨by rfl, ?_⟩) (by assumption) ?_; rotate_left; focus (intro w hSw; (try dsimp only at hSw); go_simp; (try with_reducible rfl); done))
    (try simp only [Act.put, List.setIfInBounds_toArray, List.set_cons_zero, List.set_cons_succ])
    refine wpAnyH_ready (rs := [12]) (by kernel_rfl) (by simp) ?_
    refine (AllReadyH.cons (opsAt rfl) (fun K hK => ?_) AllReadyH.nil)
    rw [if_pos (by rfl)]
    refine wp_store_row 50 _ _ rfl _ _ rfl rfl _ _ HZ.out (by rw [node_size, HS6.out]) (by rw [HS6.out]; rfl) (ndC_one rfl) ?_
    (try simp only [Act.put])
    refine hK.out _ _ (MK.out _ HLD.out.bel) (fun hHeld => ?_)
    clear hK K
    (try simp only [Act.put, List.setIfInBounds_toArray, List.set_cons_zero, List.set_cons_succ])
    (refine wpAnyH_take (i := 13) (v := ?_) (opsAt rfl) (by kernel_rfl) (by kernel_rfl) (by kernel_rfl) (fun _ _ _ h => h) (Or.inl ⟨by rfl, ?_⟩) (by assumption) ?_; rotate_left; focus (intro w hSw; (try dsimp only at hSw); go_simp; (try with_reducible rfl); done))
    (try simp only [Act.put, List.setIfInBounds_toArray, List.set_cons_zero, List.set_cons_succ])
    (refine wpAnyH_take (i := 14) (v := ?_) (opsAt rfl) (by kernel_rfl) (by kernel_rfl) (by kernel_rfl) (fun _ _ _ h => h) (Or.inl ⟨by rfl, ?_⟩) (by assumption) ?_; rotate_left; focus (intro w hSw; (try dsimp only at hSw); go_simp; (try with_reducible rfl); done))
    (try simp only [Act.put, List.setIfInBounds_toArray, List.set_cons_zero, List.set_cons_succ])
    (refine wpAnyH_take (i := 15) (v := ?_) (opsAt rfl) (by kernel_rfl) (by kernel_rfl) (by kernel_rfl) (fun _ _ _ h => h) (Or.inl ⟨by rfl, ?_⟩) (by assumption) ?_; rotate_left; focus (intro w hSw; (try dsimp only at hSw); go_simp; (try with_reducible rfl); done))
    (try simp only [Act.put, List.setIfInBounds_toArray, List.set_cons_zero, List.set_cons_succ])
    refine wpAnyH_done (by kernel_rfl) ?_ _
    obtain ⟨W, hWW⟩ : ∃ W, w1.setRow w.heap.size (ndC x (.slice A1 x.log.length c1)).toArray = W := ⟨_, rfl⟩
    rw [hWW] at HLD ⊢
    clear hHeld hW hW0 hbz hZ0 hE1 hS1 hb1 ok1 HZ hWW
    clear HBA HMP HCH HBX
    have HBL := Lib.hid HLD.out.bel
    clear HLD MK
    go_wp2_with fail
    go_ret
    exact ⟨rfl, HBL.out⟩
set_option maxHeartbeats 8000000 in
theorem propose1_led {B M K : Nat} {w0 w : World} {c R : Nat} {C : cl.Clu} {F : Nat → Fp} {k : Nat} {wv : Value} {i : Nat} (h : CluAt B w0 w c R C F k wv) (rd : Ready M K B C i) (ht : TabAt w0) (bx bt ba : Nat) (text : List UInt8) (hbx : Vb w bx [cptr c] 24) (hbt : Vb w bt [.string (crcm.mk text)] 9) (hba : Vb w ba [.int .u64 0] 28) (hba0 : w0.heap.size ≤ ba) (htx : text.length ≤ 100) (hr : (C.p i).x.role = 2) :
    Calls Tryz.prog 33 (#[] ++ #[.pointer (some ⟨(F i).q, 0, none⟩)] ++ #[.pointer (some ⟨bt, 0, none⟩), .pointer (some ⟨ba, 0, none⟩), .pointer (some ⟨bx, 0, none⟩)]) w fun e w' => ∃ z, e = .returned (.int .i64 z) ∧ ∃ W, Below w.heap.size w W ∧ Turned B w0 c R C F k i (rf.propose (C.p i).x text).1 (rf.propose (C.p i).x text).2.1 z (W.setCell ⟨ba, 0, none⟩ (.int .u64 (((C.p i).x.log.length + 1 : Nat) : Int))) w' ∧ Vb w' ba [.int .u64 (((C.p i).x.log.length + 1 : Nat) : Int)] 28 := by
  have hn7 := h.n7
  have hi := rd.lt
  have hlim := cl.propose_lim (x := (C.p i).x) (by have := rd.hK; omega) rd.lim htx
  have hsm := propose_small (C.p i).x text
  have hprop := fun W (hb : Below w.heap.size w W) => propose_any (C.p i).x text (F i).A (F i).c W (((h.peers i hi).ents.re (b := w.heap.size)).later hb).re (h.peers i hi).ok (by rw [rd.many]; omega) (by have := rd.lim.len; have := rd.hM; omega)
  have hpe : rf.propose (C.p i).x text = ((rf.add (C.p i).x text).1, (rf.add (C.p i).x text).2, (C.p i).x.log.length + 1, 0) := by unfold rf.propose; rw [if_neg (by have := rd.id; omega), if_neg (by omega)]
  obtain ⟨x, hx⟩ : ∃ x, (rf.add (C.p i).x text).1 = x := ⟨_, rfl⟩
  obtain ⟨ms, hms⟩ : ∃ ms, (rf.add (C.p i).x text).2 = ms := ⟨_, rfl⟩
  rw [hx, hms] at hpe
  rw [hpe]
  dsimp only
  clear hx hms
  rw [hpe] at hprop hlim hsm
  dsimp only at hprop hlim hsm
  have HT := Lib.hid hprop
  have HSZ : Hid ((Tryz.prog.info? 50).map (·.size) = some (ndC (C.p i).x ((F i).ev (C.p i).x)).length) := Lib.hid (by rw [node_size, ndC_len (h.peers i hi).ok])
  have hMK : ∀ w', Below w.heap.size w w' → (w'.rangeAt (F i).q 0 (ndC (C.p i).x ((F i).ev (C.p i).x)) ∧ w'.cell? ⟨bt, 0, none⟩ = some (.string (crcm.mk text))) := fun w' hb => ⟨(h.later hb).ndRange hi, cell_later hb (hbt.cell 0 _ rfl)⟩
  have MK := Lib.hid hMK
  have hCH := fun (W w3 : World) (A : Option Addr) (c' : Nat) (D : Option Addr) (d : Nat) (hbW : Below w.heap.size w W) (hA3 : Apart [ba] W w3) ok hE hS => (change_told (W := w3) (A := A) (c' := c') (D := D) (d := d) ((h.later hbW).alien hA3 fun y hy => by
    obtain rfl : y = ba := by simpa using hy
    exact ⟨hba0, _, _, (hbW.block _ hba.lt).trans hba, by decide⟩) rd ht x ms (hlim.1.mono (Nat.le_refl _) (Nat.le_succ _)) hsm ok hE hS)
  have HCH := Lib.hid hCH
  have HW0 : Hid (w0.heap.size ≤ w.heap.size) := Lib.hid h.bel.size
  have HMP : Hid (∀ i, i < C.n → ∃ M, FMap w (F i).b M) := Lib.hid h.maps
  obtain ⟨ev0, hev0⟩ : ∃ v, (F i).ev (C.p i).x = v := ⟨_, rfl⟩
  obtain ⟨x0, hx0⟩ : ∃ v, (C.p i).x = v := ⟨_, rfl⟩
  obtain ⟨q, hq⟩ : ∃ q, (F i).q = q := ⟨_, rfl⟩
  rw [hev0, hx0, hq] at MK
  rw [hev0, hx0] at HSZ
  rw [show Value.slice (F i).A (C.p i).x.log.length (F i).c = ev0 from hev0, hx0] at HT
  rw [hq] at HCH ⊢
  have HBX := Lib.hid hbx
  have HBA := Lib.hid hba
  have hW : Below w.heap.size w w.drew := below_drewN (Below.refl _ w) 1
  rw [hx0]
  obtain ⟨N, hN⟩ : ∃ N, x0.log.length + 1 = N := ⟨_, rfl⟩
  rw [hN] at HT ⊢
  clear hn7 hi hlim hsm h hq hN hCH hbx hbt hba rd hprop hpe hMK hev0
  unfold cptr at HCH HBX
  rw [show (#[] ++ #[Value.pointer (some ⟨q, 0, none⟩)] ++ #[Value.pointer (some ⟨bt, 0, none⟩), .pointer (some ⟨ba, 0, none⟩), .pointer (some ⟨bx, 0, none⟩)] : Array Value) = #[.pointer (some ⟨q, 0, none⟩), .pointer (some ⟨bt, 0, none⟩), .pointer (some ⟨ba, 0, none⟩), .pointer (some ⟨bx, 0, none⟩)] from rfl]
  go_enter Tryz.func33, Tryz.ntmps33
  go_upto_region 1 with fail
  unfold ndV at HT
  refine wp_region_held_drew (S := (fun w' => w'.rangeAt q 0 (ndC x0 ev0) ∧ w'.cell? ⟨bt, 0, none⟩ = some (.string (crcm.mk text)))) (by kernel_rfl) (MK.out _ hW) (fun hHeld => ?_)
  (refine wpAnyH_take (i := 0) (v := ?_) (opsAt rfl) (by kernel_rfl) (by kernel_rfl) (by kernel_rfl) (fun _ _ _ h => h) (Or.inl ⟨by rfl, ?_⟩) (by assumption) ?_; rotate_left; focus (intro w hSw; (try dsimp only at hSw); go_simp; (try with_reducible rfl); done))
  (try simp only [Act.put, List.setIfInBounds_toArray, List.set_cons_zero, List.set_cons_succ])
  (refine wpAnyH_take (i := 1) (v := ?_) (opsAt rfl) (by kernel_rfl) (by kernel_rfl) (by kernel_rfl) (fun _ _ _ h => h) (Or.inl ⟨by rfl, ?_⟩) (by assumption) ?_; rotate_left; focus (intro w hSw; (try dsimp only at hSw); go_simp; (try with_reducible rfl); done))
  (try simp only [Act.put, List.setIfInBounds_toArray, List.set_cons_zero, List.set_cons_succ])
  (refine wpAnyH_take (i := 2) (v := ?_) (opsAt rfl) (by kernel_rfl) (by kernel_rfl) (by kernel_rfl) (fun _ _ _ h => h) (Or.inl ⟨by rfl, ?_⟩) (by assumption) ?_; rotate_left; focus (intro w hSw; (try dsimp only at hSw); go_simp; (try with_reducible rfl); done))
  (try simp only [Act.put, List.setIfInBounds_toArray, List.set_cons_zero, List.set_cons_succ])
  refine wpAnyH_take (i := 3) (opsAt rfl) (by kernel_rfl) (by kernel_rfl) (by kernel_rfl) (fun _ _ _ h => h) (yieldsIf_load_mid (by rfl) _ _ rfl _ _ rfl _ _ (fun _ h => h.1) Tryz.underlying50 rfl HSZ.out) (by assumption) ?_
  (try simp only [Act.put, List.setIfInBounds_toArray, List.set_cons_zero, List.set_cons_succ])
  (refine wpAnyH_take (i := 4) (v := ?_) (opsAt rfl) (by kernel_rfl) (by kernel_rfl) (by kernel_rfl) (fun _ _ _ h => h) (Or.inl ⟨by rfl, ?_⟩) (by assumption) ?_; rotate_left; focus (intro w hSw; (try dsimp only at hSw); go_simp; (try with_reducible rfl); done))
  (try simp only [Act.put, List.setIfInBounds_toArray, List.set_cons_zero, List.set_cons_succ])
  refine wpAnyH_ready (rs := [5, 11]) (by kernel_rfl) (by simp) ?_
  refine (AllReadyH.cons (opsAt rfl) (fun K hK => ?_) (AllReadyH.cons (opsAt rfl) (fun K hK => ?_) AllReadyH.nil))
  · rw [if_pos (by rfl)]
    go_simp
    go_at_call 34
    refine (HT.out _ hW).mono ?_
    rintro e w1 ⟨nv, sv, rfl, hO⟩
    obtain ⟨A1, c1, D1, d1, rfl, rfl, hE1, hS1, ok1, hb1⟩ := hO
    (try unfold ndV)
    have HOK := Lib.hid ok1
    have HS6 : Hid ((ndC x (.slice A1 x.log.length c1)).toArray.size = 30) := Lib.hid (by rw [List.size_toArray, ndC_len ok1])
    have HLD := Lib.hid (laid_after (w := w) hE1 hS1 (hW.trans (hb1.mono hW.size)) (Nat.le_trans HW0.out hW.size))
    have HZ : Hid (Blk (w1.alloc (.cells #[.int .i64 0, .int .i64 0, .int .u64 0, .int .i64 0, .slice none 0 0, .int .i64 0, .int .i64 0, .int .u64 0, .int .i64 0, .bool false, .bool false, .bool false, .bool false, .bool false, .bool false, .bool false, .int .u64 0, .int .u64 0, .int .u64 0, .int .u64 0, .int .u64 0, .int .u64 0, .int .u64 0, .int .u64 0, .int .u64 0, .int .u64 0, .int .u64 0, .int .u64 0, .int .u64 0, .int .u64 0] 50)) w1.heap.size (ndC zeroN nilV) 50) := Lib.hid (Blk.new w1 _ _)
    have hW := hW.trans (hb1.mono hW.size)
    dsimp only
    refine hK.out _ _ (MK.out _ hW) (fun hHeld => ?_)
    clear hK K
    (try simp only [Act.put, List.setIfInBounds_toArray, List.set_cons_zero, List.set_cons_succ])
    (refine wpAnyH_take (i := 6) (v := ?_) (opsAt rfl) (by kernel_rfl) (by kernel_rfl) (by kernel_rfl) (fun _ _ _ h => h) (Or.inl ⟨by rfl, ?_⟩) (by assumption) ?_; rotate_left; focus (intro w hSw; (try dsimp only at hSw); go_simp; (try with_reducible rfl); done))
    (try simp only [Act.put, List.setIfInBounds_toArray, List.set_cons_zero, List.set_cons_succ])
    (refine wpAnyH_take (i := 7) (v := ?_) (opsAt rfl) (by kernel_rfl) (by kernel_rfl) (by kernel_rfl) (fun _ _ _ h => h) (Or.inl ⟨by rfl, ?_⟩) (by assumption) ?_; rotate_left; focus (intro w hSw; (try dsimp only at hSw); go_simp; (try with_reducible rfl); done))
    (try simp only [Act.put, List.setIfInBounds_toArray, List.set_cons_zero, List.set_cons_succ])
    (refine wpAnyH_take (i := 8) (v := ?_) (opsAt rfl) (by kernel_rfl) (by kernel_rfl) (by kernel_rfl) (fun _ _ _ h => h) (Or.inl ⟨by rfl, ?_⟩) (by assumption) ?_; rotate_left; focus (intro w hSw; (try dsimp only at hSw); go_simp; (try with_reducible rfl); done))
    (try simp only [Act.put, List.setIfInBounds_toArray, List.set_cons_zero, List.set_cons_succ])
    (refine wpAnyH_take (i := 9) (v := ?_) (opsAt rfl) (by kernel_rfl) (by kernel_rfl) (by kernel_rfl) (fun _ _ _ h => h) (Or.inl ⟨by rfl, ?_⟩) (by assumption) ?_; rotate_left; focus (intro w hSw; (try dsimp only at hSw); go_simp; (try with_reducible rfl); done))
    (try simp only [Act.put, List.setIfInBounds_toArray, List.set_cons_zero, List.set_cons_succ])
    (refine wpAnyH_take (i := 10) (v := ?_) (opsAt rfl) (by kernel_rfl) (by kernel_rfl) (by kernel_rfl) (fun _ _ _ h => h) (Or.inl ⟨by rfl, ?_⟩) (by assumption) ?_; rotate_left; focus (intro w hSw; (try dsimp only at hSw); go_simp; (try with_reducible rfl); done))
    (try simp only [Act.put, List.setIfInBounds_toArray, List.set_cons_zero, List.set_cons_succ])
    refine wpAnyH_ready (rs := [11]) (by kernel_rfl) (by simp) ?_
    refine (AllReadyH.cons (opsAt rfl) (fun K hK => ?_) AllReadyH.nil)
    rw [if_pos (by rfl)]
    go_simp
    have hW := hW.trans (((Below.refl _ w1).alloc (Nat.le_refl _) (.cells #[.int .i64 0, .int .i64 0, .int .u64 0, .int .i64 0, .slice none 0 0, .int .i64 0, .int .i64 0, .int .u64 0, .int .i64 0, .bool false, .bool false, .bool false, .bool false, .bool false, .bool false, .bool false, .int .u64 0, .int .u64 0, .int .u64 0, .int .u64 0, .int .u64 0, .int .u64 0, .int .u64 0, .int .u64 0, .int .u64 0, .int .u64 0, .int .u64 0, .int .u64 0, .int .u64 0, .int .u64 0] 50)).mono hW.size)
    (try dsimp only)
    refine hK.out _ _ (MK.out _ hW) (fun hHeld => ?_)
    clear hK K
    (try simp only [Act.put, List.setIfInBounds_toArray, List.set_cons_zero, List.set_cons_succ])
    refine wpAnyH_ready (rs := [12]) (by kernel_rfl) (by simp) ?_
    refine (AllReadyH.cons (opsAt rfl) (fun K hK => ?_) AllReadyH.nil)
    rw [if_pos (by rfl)]
    refine wp_store_row 50 _ _ rfl _ _ rfl rfl _ _ HZ.out (by rw [node_size, HS6.out]) (by rw [HS6.out]; rfl) (ndC_one rfl) ?_
    (try simp only [Act.put])
    refine hK.out _ _ (MK.out _ HLD.out.bel) (fun hHeld => ?_)
    clear hK K
    (try simp only [Act.put, List.setIfInBounds_toArray, List.set_cons_zero, List.set_cons_succ])
    (refine wpAnyH_take (i := 13) (v := ?_) (opsAt rfl) (by kernel_rfl) (by kernel_rfl) (by kernel_rfl) (fun _ _ _ h => h) (Or.inl ⟨by rfl, ?_⟩) (by assumption) ?_; rotate_left; focus (intro w hSw; (try dsimp only at hSw); go_simp; (try with_reducible rfl); done))
    (try simp only [Act.put, List.setIfInBounds_toArray, List.set_cons_zero, List.set_cons_succ])
    (refine wpAnyH_take (i := 14) (v := ?_) (opsAt rfl) (by kernel_rfl) (by kernel_rfl) (by kernel_rfl) (fun _ _ _ h => h) (Or.inl ⟨by rfl, ?_⟩) (by assumption) ?_; rotate_left; focus (intro w hSw; (try dsimp only at hSw); go_simp; (try with_reducible rfl); done))
    (try simp only [Act.put, List.setIfInBounds_toArray, List.set_cons_zero, List.set_cons_succ])
    (refine wpAnyH_take (i := 15) (v := ?_) (opsAt rfl) (by kernel_rfl) (by kernel_rfl) (by kernel_rfl) (fun _ _ _ h => h) (Or.inl ⟨by rfl, ?_⟩) (by assumption) ?_; rotate_left; focus (intro w hSw; (try dsimp only at hSw); go_simp; (try with_reducible rfl); done))
    (try simp only [Act.put, List.setIfInBounds_toArray, List.set_cons_zero, List.set_cons_succ])
    refine wpAnyH_done (by kernel_rfl) ?_ _
    obtain ⟨bn, hbn⟩ : ∃ b, w1.heap.size = b := ⟨_, rfl⟩
    rw [hbn] at HLD ⊢
    obtain ⟨W, hWW⟩ : ∃ W, (w1.alloc (.cells #[.int .i64 0, .int .i64 0, .int .u64 0, .int .i64 0, .slice none 0 0, .int .i64 0, .int .i64 0, .int .u64 0, .int .i64 0, .bool false, .bool false, .bool false, .bool false, .bool false, .bool false, .bool false, .int .u64 0, .int .u64 0, .int .u64 0, .int .u64 0, .int .u64 0, .int .u64 0, .int .u64 0, .int .u64 0, .int .u64 0, .int .u64 0, .int .u64 0, .int .u64 0, .int .u64 0, .int .u64 0] 50)).setRow bn (ndC x (.slice A1 x.log.length c1)).toArray = W := ⟨_, rfl⟩
    rw [hWW] at HLD ⊢
    clear hHeld hW hE1 hS1 hb1 ok1 HZ hbn hWW
    obtain ⟨w3, hw3⟩ : ∃ w3, W.setCell ⟨ba, 0, none⟩ (.int .u64 ((N : Nat) : Int)) = w3 := ⟨_, rfl⟩
    have hvba : Vb W ba [.int .u64 0] 28 := (HLD.out.bel.block _ HBA.out.lt).trans HBA.out
    have hA3 : Apart [ba] W w3 := by rw [← hw3]; exact Apart.setCell W ba 0 _
    have hb3 : Vb w3 ba [.int .u64 ((N : Nat) : Int)] 28 := by rw [← hw3]; exact hvba.set 0 _
    have hno : ∀ y ∈ [ba], NotEnt W y := fun y hy => by
      obtain rfl : y = ba := by simpa using hy
      exact notEnt_of hvba (by decide)
    have hnm : ∀ y ∈ [ba], ∀ cur, W.heap[y]? ≠ some (.cells cur 83 (0, 0)) := fun y hy cur e => by
      obtain rfl : y = ba := by simpa using hy
      unfold Vb at hvba
      rw [e] at hvba
      injection hvba with hvba
      injection hvba with _ hvba _
      exact absurd hvba (by decide)
    have hcall := HCH.out W w3 A1 c1 D1 d1 HLD.out.bel hA3 HOK.out (HLD.out.ents.apart hA3 hno) (HLD.out.way.apart hA3 hno hnm)
    have hblk : Blk w3 bn (ndC x (.slice A1 x.log.length c1)) 50 := Vb.apart HLD.out.blk hA3 (fun hx => ne_of_type (vs := ndC x (.slice A1 x.log.length c1)) HLD.out.blk hvba (by decide) (by simpa using hx))
    have hbx3 := (Vb.apart ((HLD.out.bel.block _ HBX.out.lt).trans HBX.out) hA3 (fun hx => ne_of_type HBX.out HBA.out (by decide) (by simpa using hx))).cell 0 _ rfl
    have hcb := hvba.cell 0 _ rfl
    have hfb := hvba.free 0
    have HCALL := Lib.hid hcall
    have HBK := Lib.hid hblk
    have HBL := Lib.hid HLD.out.bel
    have HB3 := Lib.hid hb3
    have HMW : Hid (∀ i, i < C.n → ∃ M, FMap w3 (F i).b M) := Lib.hid fun j hj => by
      obtain ⟨M, hM⟩ := HMP.out j hj
      refine ⟨M, ?_⟩
      obtain ⟨es, cl, h1, h2⟩ := hM
      have hlt := (Array.getElem?_eq_some_iff.1 h1).1
      refine ⟨es, cl, ?_, h2⟩
      rw [hA3.block _ (Nat.lt_of_lt_of_le hlt HLD.out.bel.size) (fun hx => ?_), HLD.out.bel.block _ hlt]
      · exact h1
      · have e : (F j).b = ba := by simpa using hx
        exact ne_map HBA.out ⟨es, cl, h1, h2⟩ e.symm
    clear hcall hblk hb3 hA3 hvba hno hnm HCH HLD HMP HBX HBA MK
    go_upto_region 5 with fail
    (try rw [hw3])
    clear hcb hfb
    go_wp2_with (first | (refine wpList_load_row rfl 50 _ rfl bn rfl _ _ _ _ HBK.out Tryz.underlying50 rfl (by rw [node_size, HS6.out]) ?_) | (go_at_call 35; refine HCALL.out.mono ?_; rintro e w5 ⟨z, rfl, hT⟩; have HTT := Lib.hid hT; clear hT))
    go_ret
    refine ⟨z, rfl, W, HBL.out, ?_, ?_⟩
    · rw [hw3]; exact HTT.out
    · obtain ⟨_, _, _, _, _, hst⟩ := HTT.out
      exact HB3.out.stay hst (by decide) HMW.out
  · rw [if_pos (by rfl)]
    go_simp
    have hbz := (Below.refl _ w.drew).alloc (Nat.le_refl _) (.cells #[.int .i64 0, .int .i64 0, .int .u64 0, .int .i64 0, .slice none 0 0, .int .i64 0, .int .i64 0, .int .u64 0, .int .i64 0, .bool false, .bool false, .bool false, .bool false, .bool false, .bool false, .bool false, .int .u64 0, .int .u64 0, .int .u64 0, .int .u64 0, .int .u64 0, .int .u64 0, .int .u64 0, .int .u64 0, .int .u64 0, .int .u64 0, .int .u64 0, .int .u64 0, .int .u64 0, .int .u64 0] 50)
    have hZ0 : Blk (w.drew.alloc (.cells #[.int .i64 0, .int .i64 0, .int .u64 0, .int .i64 0, .slice none 0 0, .int .i64 0, .int .i64 0, .int .u64 0, .int .i64 0, .bool false, .bool false, .bool false, .bool false, .bool false, .bool false, .bool false, .int .u64 0, .int .u64 0, .int .u64 0, .int .u64 0, .int .u64 0, .int .u64 0, .int .u64 0, .int .u64 0, .int .u64 0, .int .u64 0, .int .u64 0, .int .u64 0, .int .u64 0, .int .u64 0] 50)) w.drew.heap.size (ndC zeroN nilV) 50 := Blk.new w.drew _ _
    have hW0 := hW
    have hW := hW.trans (hbz.mono hW.size)
    (try dsimp only)
    refine hK.out _ _ (MK.out _ hW) (fun hHeld => ?_)
    clear hK K
    (try simp only [Act.put, List.setIfInBounds_toArray, List.set_cons_zero, List.set_cons_succ])
    refine wpAnyH_ready (rs := [5]) (by kernel_rfl) (by simp) ?_
    refine (AllReadyH.cons (opsAt rfl) (fun K hK => ?_) AllReadyH.nil)
    rw [if_pos (by rfl)]
    go_simp
    go_at_call 34
    refine (HT.out _ hW).mono ?_
    rintro e w1 ⟨nv, sv, rfl, hO⟩
    obtain ⟨A1, c1, D1, d1, rfl, rfl, hE1, hS1, ok1, hb1⟩ := hO
    (try unfold ndV)
    have HOK := Lib.hid ok1
    have HS6 : Hid ((ndC x (.slice A1 x.log.length c1)).toArray.size = 30) := Lib.hid (by rw [List.size_toArray, ndC_len ok1])
    have HZ : Hid (Blk w1 w.heap.size (ndC zeroN nilV) 50) := Lib.hid (hZ0.below hb1)
    have HLD := Lib.hid (laid_before (w := w) (bn := w.heap.size) HZ.out hE1 hS1 (hW.trans (hb1.mono hW.size)) (Nat.le_refl _) (Nat.le_trans HW0.out hW.size))
    have hW := hW.trans (hb1.mono hW.size)
    dsimp only
    refine hK.out _ _ (MK.out _ hW) (fun hHeld => ?_)
    clear hK K
    (try simp only [Act.put, List.setIfInBounds_toArray, List.set_cons_zero, List.set_cons_succ])
    (refine wpAnyH_take (i := 6) (v := ?_) (opsAt rfl) (by kernel_rfl) (by kernel_rfl) (by kernel_rfl) (fun _ _ _ h => h) (Or.inl ⟨by rfl, ?_⟩) (by assumption) ?_; rotate_left; focus (intro w hSw; (try dsimp only at hSw); go_simp; (try with_reducible rfl); done))
    (try simp only [Act.put, List.setIfInBounds_toArray, List.set_cons_zero, List.set_cons_succ])
    (refine wpAnyH_take (i := 7) (v := ?_) (opsAt rfl) (by kernel_rfl) (by kernel_rfl) (by kernel_rfl) (fun _ _ _ h => h) (Or.inl ⟨by rfl, ?_⟩) (by assumption) ?_; rotate_left; focus (intro w hSw; (try dsimp only at hSw); go_simp; (try with_reducible rfl); done))
    (try simp only [Act.put, List.setIfInBounds_toArray, List.set_cons_zero, List.set_cons_succ])
    (refine wpAnyH_take (i := 8) (v := ?_) (opsAt rfl) (by kernel_rfl) (by kernel_rfl) (by kernel_rfl) (fun _ _ _ h => h) (Or.inl ⟨by rfl, ?_⟩) (by assumption) ?_; rotate_left; focus (intro w hSw; (try dsimp only at hSw); go_simp; (try with_reducible rfl); done))
    (try simp only [Act.put, List.setIfInBounds_toArray, List.set_cons_zero, List.set_cons_succ])
    (refine wpAnyH_take (i := 9) (v := ?_) (opsAt rfl) (by kernel_rfl) (by kernel_rfl) (by kernel_rfl) (fun _ _ _ h => h) (Or.inl ⟨by rfl, ?_⟩) (by assumption) ?_; rotate_left; focus (intro w hSw; (try dsimp only at hSw); go_simp; (try with_reducible rfl); done))
    (try simp only [Act.put, List.setIfInBounds_toArray, List.set_cons_zero, List.set_cons_succ])
    (refine wpAnyH_take (i := 10) (v := ?_) (opsAt rfl) (by kernel_rfl) (by kernel_rfl) (by kernel_rfl) (fun _ _ _ h => h) (Or.inl ⟨by rfl, ?_⟩) (by assumption) ?_; rotate_left; focus (intro w hSw; (try dsimp only at hSw); go_simp; (try with_reducible rfl); done))
    (try simp only [Act.put, List.setIfInBounds_toArray, List.set_cons_zero, List.set_cons_succ])
    refine wpAnyH_ready (rs := [12]) (by kernel_rfl) (by simp) ?_
    refine (AllReadyH.cons (opsAt rfl) (fun K hK => ?_) AllReadyH.nil)
    rw [if_pos (by rfl)]
    refine wp_store_row 50 _ _ rfl _ _ rfl rfl _ _ HZ.out (by rw [node_size, HS6.out]) (by rw [HS6.out]; rfl) (ndC_one rfl) ?_
    (try simp only [Act.put])
    refine hK.out _ _ (MK.out _ HLD.out.bel) (fun hHeld => ?_)
    clear hK K
    (try simp only [Act.put, List.setIfInBounds_toArray, List.set_cons_zero, List.set_cons_succ])
    (refine wpAnyH_take (i := 13) (v := ?_) (opsAt rfl) (by kernel_rfl) (by kernel_rfl) (by kernel_rfl) (fun _ _ _ h => h) (Or.inl ⟨by rfl, ?_⟩) (by assumption) ?_; rotate_left; focus (intro w hSw; (try dsimp only at hSw); go_simp; (try with_reducible rfl); done))
    (try simp only [Act.put, List.setIfInBounds_toArray, List.set_cons_zero, List.set_cons_succ])
    (refine wpAnyH_take (i := 14) (v := ?_) (opsAt rfl) (by kernel_rfl) (by kernel_rfl) (by kernel_rfl) (fun _ _ _ h => h) (Or.inl ⟨by rfl, ?_⟩) (by assumption) ?_; rotate_left; focus (intro w hSw; (try dsimp only at hSw); go_simp; (try with_reducible rfl); done))
    (try simp only [Act.put, List.setIfInBounds_toArray, List.set_cons_zero, List.set_cons_succ])
    (refine wpAnyH_take (i := 15) (v := ?_) (opsAt rfl) (by kernel_rfl) (by kernel_rfl) (by kernel_rfl) (fun _ _ _ h => h) (Or.inl ⟨by rfl, ?_⟩) (by assumption) ?_; rotate_left; focus (intro w hSw; (try dsimp only at hSw); go_simp; (try with_reducible rfl); done))
    (try simp only [Act.put, List.setIfInBounds_toArray, List.set_cons_zero, List.set_cons_succ])
    refine wpAnyH_done (by kernel_rfl) ?_ _
    obtain ⟨W, hWW⟩ : ∃ W, w1.setRow w.heap.size (ndC x (.slice A1 x.log.length c1)).toArray = W := ⟨_, rfl⟩
    rw [hWW] at HLD ⊢
    clear hHeld hW hW0 hbz hZ0 hE1 hS1 hb1 ok1 HZ hWW
    obtain ⟨w3, hw3⟩ : ∃ w3, W.setCell ⟨ba, 0, none⟩ (.int .u64 ((N : Nat) : Int)) = w3 := ⟨_, rfl⟩
    have hvba : Vb W ba [.int .u64 0] 28 := (HLD.out.bel.block _ HBA.out.lt).trans HBA.out
    have hA3 : Apart [ba] W w3 := by rw [← hw3]; exact Apart.setCell W ba 0 _
    have hb3 : Vb w3 ba [.int .u64 ((N : Nat) : Int)] 28 := by rw [← hw3]; exact hvba.set 0 _
    have hno : ∀ y ∈ [ba], NotEnt W y := fun y hy => by
      obtain rfl : y = ba := by simpa using hy
      exact notEnt_of hvba (by decide)
    have hnm : ∀ y ∈ [ba], ∀ cur, W.heap[y]? ≠ some (.cells cur 83 (0, 0)) := fun y hy cur e => by
      obtain rfl : y = ba := by simpa using hy
      unfold Vb at hvba
      rw [e] at hvba
      injection hvba with hvba
      injection hvba with _ hvba _
      exact absurd hvba (by decide)
    have hcall := HCH.out W w3 A1 c1 D1 d1 HLD.out.bel hA3 HOK.out (HLD.out.ents.apart hA3 hno) (HLD.out.way.apart hA3 hno hnm)
    have hblk : Blk w3 w.heap.size (ndC x (.slice A1 x.log.length c1)) 50 := Vb.apart HLD.out.blk hA3 (fun hx => ne_of_type (vs := ndC x (.slice A1 x.log.length c1)) HLD.out.blk hvba (by decide) (by simpa using hx))
    have hbx3 := (Vb.apart ((HLD.out.bel.block _ HBX.out.lt).trans HBX.out) hA3 (fun hx => ne_of_type HBX.out HBA.out (by decide) (by simpa using hx))).cell 0 _ rfl
    have hcb := hvba.cell 0 _ rfl
    have hfb := hvba.free 0
    have HCALL := Lib.hid hcall
    have HBK := Lib.hid hblk
    have HBL := Lib.hid HLD.out.bel
    have HB3 := Lib.hid hb3
    have HMW : Hid (∀ i, i < C.n → ∃ M, FMap w3 (F i).b M) := Lib.hid fun j hj => by
      obtain ⟨M, hM⟩ := HMP.out j hj
      refine ⟨M, ?_⟩
      obtain ⟨es, cl, h1, h2⟩ := hM
      have hlt := (Array.getElem?_eq_some_iff.1 h1).1
      refine ⟨es, cl, ?_, h2⟩
      rw [hA3.block _ (Nat.lt_of_lt_of_le hlt HLD.out.bel.size) (fun hx => ?_), HLD.out.bel.block _ hlt]
      · exact h1
      · have e : (F j).b = ba := by simpa using hx
        exact ne_map HBA.out ⟨es, cl, h1, h2⟩ e.symm
    clear hcall hblk hb3 hA3 hvba hno hnm HCH HLD HMP HBX HBA MK
    go_upto_region 5 with fail
    (try rw [hw3])
    clear hcb hfb
    go_wp2_with (first | (refine wpList_load_row rfl 50 _ rfl w.heap.size rfl _ _ _ _ HBK.out Tryz.underlying50 rfl (by rw [node_size, HS6.out]) ?_) | (go_at_call 35; refine HCALL.out.mono ?_; rintro e w5 ⟨z, rfl, hT⟩; have HTT := Lib.hid hT; clear hT))
    go_ret
    refine ⟨z, rfl, W, HBL.out, ?_, ?_⟩
    · rw [hw3]; exact HTT.out
    · obtain ⟨_, _, _, _, _, hst⟩ := HTT.out
      exact HB3.out.stay hst (by decide) HMW.out
end Go.Proofs.YtmcibggjolckoaaGreatDoor
