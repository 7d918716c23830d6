/- KcPropose, KcDeliver1, KcDelete: one behind the other. -/
import Derived.Test.YtmcibggjolckoaaGreatDoorG35
import Derived.Test.YtmcibggjolckoaaGreatDoorG34
import Derived.Deep.RegionHeld
import Derived.Deep.RegionLaw
import Derived.Deep.RegionHeld3
import Derived.Test.YtmcibggjolckoaaGreatDoorG32
namespace Go.Proofs.YtmcibggjolckoaaGreatDoor
open Go Go.RowKit Go.Deep
set_option maxRecDepth 100000
theorem Stay.put {F : Nat → Fp} {n : Nat} {w w' : World} (h : Stay F n w w') {b j : Nat} {v : Value} (hb : w.heap.size ≤ b) : Stay F n w (w'.setCell ⟨b, j, none⟩ v) := by
  have hA := Apart.setCell w' b j v
  refine ⟨hA.os.trans h.os, hA.tape.trans h.tape, hA.output.trans h.output, Nat.le_trans h.size hA.size, fun x o hx hm hn => ?_⟩
  have hlt : x < w.heap.size := (Array.getElem?_eq_some_iff.1 hx).1
  rw [hA.block x (Nat.lt_of_lt_of_le hlt h.size) (fun hxs => ?_)]
  · exact h.block x o hx hm hn
  · have : x = b := by simpa using hxs
    omega
theorem results_cell_plain {P : Program} {fn : Func} {p u : Tmp} {ty : TypeId} (h : fn.results = #[.cell p ty, .tmp u]) (tmps : Array Value) (w : World) (a : Addr) (v : Value) (hp : tmps.getD p undef = .pointer (some a)) (hv : w.cell? a = some v) (hagg : ∀ w, (isAgg ty).run P w = .ok false w) :
    (results fn tmps).run P w = .ok (.tuple #[v, tmps.getD u undef]) w := by
  have hp' : tmps[p]?.getD undef = .pointer (some a) := by simpa using hp
  simp [results, h, hp', asAddr, loadVar, hagg, hv]
theorem agg_u64 (w : World) : (isAgg 28).run Tryz.prog w = .ok false w := by rfl
section
variable {B M K : Nat} {w0 w : World} {c R : Nat} {C : cl.Clu} {F : Nat → Fp} {k : Nat} {wv : Value}
set_option maxHeartbeats 4000000 in
/-- Propose, where 'on' is told -/
theorem propose_bad {i : Int} {z : Int} (hz0 : z ≠ 0) (text : List UInt8) (h : CluAt B w0 w c R C F k wv)
    (hon : ∀ (X : World) (bx bt ba : Nat), Below w.heap.size w X → CluAt B w0 X c R C F k wv → Vb X bx [cptr c] 24 → Vb X bt [.string (crcm.mk text)] 9 → Vb X ba [.int .u64 0] 28 → w.heap.size ≤ ba → Calls Tryz.prog 32 #[cptr c, .int .i64 i, .func (.func 33) #[] #[.pointer (some ⟨bt, 0, none⟩), .pointer (some ⟨ba, 0, none⟩), .pointer (some ⟨bx, 0, none⟩)]] X fun e w' => e = .returned (.int .i64 z) ∧ Below X.heap.size X w') :
    Calls Tryz.prog 13 #[cptr c, .int .i64 i, .string (crcm.mk text)] w fun e w' => e = .returned (.tuple #[.int .u64 0, .int .i64 z]) ∧ Below w.heap.size w w' := by
  obtain ⟨X0, bx, hX0, hbx, hb0, k0⟩ := box_blk w [cptr c] 24
  obtain ⟨X1, bt, hX1, hbt, hb1, k1⟩ := box_blk X0 [.string (crcm.mk text)] 9
  obtain ⟨X, ba, hX, hba, hb2, k2⟩ := box_blk X1 [.int .u64 0] 28
  obtain rfl : bt = bx + 1 := by rw [← hbt, ← hX0, ← hbx]; simp
  obtain rfl : ba = bx + 1 + 1 := by rw [← hba, ← hX1, ← hbt]; simp
  have hb01 := hb0.trans (hb1.mono hb0.size)
  have hbX := hb01.trans (hb2.mono hb01.size)
  have v0 : Vb X bx [cptr c] 24 := (k0.below hb1).below hb2
  have v1 : Vb X (bx + 1) [.string (crcm.mk text)] 9 := k1.below hb2
  have v2 : Vb X (bx + 1 + 1) [.int .u64 0] 28 := k2
  have HON := Lib.hid (hon X bx (bx + 1) (bx + 1 + 1) hbX (h.later hbX) v0 v1 v2 (by omega))
  have c0 := v0.cell 0 _ rfl
  have HV2 := Lib.hid v2
  have HX0 := Lib.hid hX0
  have HX1 := Lib.hid hX1
  have HX := Lib.hid hX
  have HBX := Lib.hid hbx
  have HB := Lib.hid hbX
  have HLE : Hid (w.heap.size ≤ bx + 1 + 1) := Lib.hid (by omega)
  have hzb : (z == 0) = false := by simpa using hz0
  clear h hon hX0 hX1 hX hbx hb0 hb1 hb2 hb01 hbX k0 k1 k2 v0 v1 v2 hbt hba hz0
  unfold cptr at HON c0 ⊢
  unfold cptr at HX0
  go_enter Tryz.func13, Tryz.ntmps13
  go_upto_region 1 with fail
  rw [HX0.out, HBX.out, HX1.out, HX.out]
  go_upto_region 3 with (go_at_call 32; refine HON.out.mono ?_; rintro e w2 ⟨rfl, hb1⟩; have c6 := cell_later hb1 (HV2.out.cell 0 _ rfl); have f6 := Blk.free ((hb1.block _ HV2.out.lt).trans HV2.out) 0; have HB1 := Lib.hid hb1; clear hb1)
  go_wp2_with fail
  refine bodyPost_ret (results_cell_plain rfl _ _ ⟨bx + 1 + 1, 0, none⟩ (.int .u64 0) rfl (((HV2.out.apart (Apart.of_below HB1.out []) (fun hx => by cases hx)).set 0 (.int .u64 0)).cell 0 _ rfl) agg_u64) rfl ?_
  refine ⟨rfl, HB.out.trans ((HB1.out.mono HB.out.size).trans ?_)⟩
  exact Apart.below (Apart.setCell w2 (bx + 1 + 1) 0 (.int .u64 0)) w.heap.size (Nat.le_trans HB.out.size HB1.out.size) (fun y hy => by
    have e : y = bx + 1 + 1 := by simpa using hy
    have := HLE.out
    omega)
theorem propose_no {i : Int} {z : Int} (hz0 : z ≠ 0) (text : List UInt8) (h : CluAt B w0 w c R C F k wv) (hz : ∀ fv w, CluAt B w0 w c R C F k wv → Calls Tryz.prog 32 #[cptr c, .int .i64 i, fv] w fun e w' => e = .returned (.int .i64 z) ∧ Below w.heap.size w w') :
    Calls Tryz.prog 13 #[cptr c, .int .i64 i, .string (crcm.mk text)] w fun e w' => e = .returned (.tuple #[.int .u64 0, .int .i64 z]) ∧ Below w.heap.size w w' :=
  propose_bad hz0 text h fun X _ _ _ _ hX _ _ _ _ => hz _ X hX
theorem propose_not {i : Nat} (text : List UInt8) (htx : text.length ≤ 100) (h : CluAt B w0 w c R C F k wv) (rd : Ready M K B C i) (ht : TabAt w0) (hr : (C.p i).x.role ≠ 2) :
    Calls Tryz.prog 13 #[cptr c, .int .i64 (i : Int), .string (crcm.mk text)] w fun e w' => e = .returned (.tuple #[.int .u64 0, .int .i64 170]) ∧ Below w.heap.size w w' :=
  propose_bad (by decide) text h fun X bx bt ba hb hX v0 v1 v2 hge =>
    (on_up (w := X) 33 #[.pointer (some ⟨bt, 0, none⟩), .pointer (some ⟨ba, 0, none⟩), .pointer (some ⟨bx, 0, none⟩)] (fun z w1 w2 => z = 170 ∧ Below w1.heap.size w1 w2) hX rd.lt rd.up (fun _ _ => rfl) (fun w1 hb1 =>
      (propose1_not (hX.later hb1) rd ht bx bt ba text ((hb1.block _ v0.lt).trans v0) ((hb1.block _ v1.lt).trans v1) ((hb1.block _ v2.lt).trans v2) (Nat.le_trans h.bel.size hge) htx hr).mono (by rintro e w2 ⟨rfl, h2⟩; exact ⟨170, rfl, rfl, h2⟩))).mono (by
      rintro e w2 ⟨z, w1, rfl, hb1, rfl, h2⟩
      exact ⟨rfl, hb1.trans (h2.mono hb1.size)⟩)
set_option maxHeartbeats 4000000 in
theorem propose_led {i : Nat} (text : List UInt8) (htx : text.length ≤ 100) (h : CluAt B w0 w c R C F k wv) (rd : Ready M K B C i) (ht : TabAt w0) (hr : (C.p i).x.role = 2) :
    Calls Tryz.prog 13 #[cptr c, .int .i64 (i : Int), .string (crcm.mk text)] w fun e w' => ∃ z : Int, e = .returned (.tuple #[.int .u64 (if z = 0 then (((C.p i).x.log.length + 1 : Nat) : Int) else 0), .int .i64 z]) ∧ Turned B w0 c R C F k i (rf.propose (C.p i).x text).1 (rf.propose (C.p i).x text).2.1 z w w' := by
  obtain ⟨X0, bx, hX0, hbx, hb0, k0⟩ := box_blk w [cptr c] 24
  obtain ⟨X1, bt, hX1, hbt, hb1, k1⟩ := box_blk X0 [.string (crcm.mk text)] 9
  obtain ⟨X, ba, hX, hba, hb2, k2⟩ := box_blk X1 [.int .u64 0] 28
  obtain rfl : bt = bx + 1 := by rw [← hbt, ← hX0, ← hbx]; simp
  obtain rfl : ba = bx + 1 + 1 := by rw [← hba, ← hX1, ← hbt]; simp
  have hb01 := hb0.trans (hb1.mono hb0.size)
  have hbX := hb01.trans (hb2.mono hb01.size)
  have v0 : Vb X bx [cptr c] 24 := (k0.below hb1).below hb2
  have v1 : Vb X (bx + 1) [.string (crcm.mk text)] 9 := k1.below hb2
  have v2 : Vb X (bx + 1 + 1) [.int .u64 0] 28 := k2
  have hbase := h.bel.size
  have hon := on_up (w := X) 33 #[.pointer (some ⟨bx + 1, 0, none⟩), .pointer (some ⟨bx + 1 + 1, 0, none⟩), .pointer (some ⟨bx, 0, none⟩)] (fun z w1 w2 => ∃ W, Below w1.heap.size w1 W ∧ Turned B w0 c R C F k i (rf.propose (C.p i).x text).1 (rf.propose (C.p i).x text).2.1 z (W.setCell ⟨bx + 1 + 1, 0, none⟩ (.int .u64 (((C.p i).x.log.length + 1 : Nat) : Int))) w2 ∧ Vb w2 (bx + 1 + 1) [.int .u64 (((C.p i).x.log.length + 1 : Nat) : Int)] 28) (h.later hbX) rd.lt rd.up (fun _ _ => rfl) (fun w1 hb1 =>
      propose1_led ((h.later hbX).later hb1) rd ht bx (bx + 1) (bx + 1 + 1) text ((hb1.block _ v0.lt).trans v0) ((hb1.block _ v1.lt).trans v1) ((hb1.block _ v2.lt).trans v2) (by omega) htx hr)
  obtain ⟨N, hN⟩ : ∃ N, (C.p i).x.log.length + 1 = N := ⟨_, rfl⟩
  obtain ⟨x, hx⟩ : ∃ x, (rf.propose (C.p i).x text).1 = x := ⟨_, rfl⟩
  obtain ⟨ms, hms⟩ : ∃ x, (rf.propose (C.p i).x text).2.1 = x := ⟨_, rfl⟩
  rw [hN, hx, hms] at hon ⊢
  have HON := Lib.hid hon
  have c0 := v0.cell 0 _ rfl
  have HV2 := Lib.hid v2
  have HX0 := Lib.hid hX0
  have HX1 := Lib.hid hX1
  have HX := Lib.hid hX
  have HBX := Lib.hid hbx
  have HB := Lib.hid hbX
  have HLE : Hid (w.heap.size ≤ bx + 1 + 1) := Lib.hid (by omega)
  have HLE0 : Hid (w0.heap.size ≤ bx + 1 + 1) := Lib.hid (by omega)
  clear h hon hX0 hX1 hX hbx hb0 hb1 hb2 hb01 hbX k0 k1 k2 v0 v1 v2 hbt hba rd hN hx hms hr hbase
  unfold cptr at HON c0 ⊢
  unfold cptr at HX0
  go_enter Tryz.func13, Tryz.ntmps13
  go_upto_region 1 with fail
  rw [HX0.out, HBX.out, HX1.out, HX.out]
  go_upto_region 2 with (go_at_call 32; refine HON.out.mono ?_; rintro e w2 ⟨z, w1, rfl, hb1, W, hbW, hT, hv⟩; have HTT := Lib.hid hT; have HB1 := Lib.hid (hb1.trans (hbW.mono hb1.size)); have HV := Lib.hid hv; clear hb1 hbW hT hv)
  have hfin : ∀ v : Int, Turned B w0 c R C F k i x ms z w (w2.setCell ⟨bx + 1 + 1, 0, none⟩ (.int .u64 v)) := by
    intro v
    obtain ⟨C', F', wv', h1, h2, h3⟩ := HTT.out
    have hA := Apart.setCell w2 (bx + 1 + 1) 0 (.int .u64 v)
    refine ⟨C', F', wv', h1.alien hA fun y hy => ?_, h2, ?_⟩
    · obtain rfl : y = bx + 1 + 1 := by simpa using hy
      exact ⟨HLE0.out, _, _, HV.out, by decide⟩
    · exact Stay.put ((Stay.put ((Stay.of_below HB.out).trans (Stay.of_below HB1.out)) HLE.out).trans h3) HLE.out
  have c6 := HV.out.cell 0 _ rfl
  have f6 := Blk.free HV.out 0
  have HFIN := Lib.hid hfin
  clear hfin
  by_cases hz : z = 0
  · subst hz
    go_wp2_with fail
    refine bodyPost_ret (results_cell_plain rfl _ _ ⟨bx + 1 + 1, 0, none⟩ (.int .u64 (N : Int)) rfl ((HV.out.set 0 (.int .u64 (N : Int))).cell 0 _ rfl) agg_u64) rfl ?_
    exact ⟨0, by rw [if_pos rfl]; rfl, HFIN.out _⟩
  · have hzb : (z == 0) = false := by simpa using hz
    go_wp2_with fail
    refine bodyPost_ret (results_cell_plain rfl _ _ ⟨bx + 1 + 1, 0, none⟩ (.int .u64 0) rfl ((HV.out.set 0 (.int .u64 0)).cell 0 _ rfl) agg_u64) rfl ?_
    exact ⟨z, by rw [if_neg hz]; rfl, HFIN.out _⟩
end
end Go.Proofs.YtmcibggjolckoaaGreatDoor
namespace Go.Proofs.YtmcibggjolckoaaGreatDoor
open Go Go.RowKit Go.Deep
set_option maxRecDepth 100000
set_option maxHeartbeats 8000000 in
theorem deliver1_any {B M K : Nat} {w0 w : World} {c R : Nat} {C : cl.Clu} {F : Nat → Fp} {k : Nat} {wv : Value} {i : Nat} (h : CluAt B w0 w c R C F k wv) (rd : Ready M K B C i) (ht : TabAt w0) (bx bm : Nat) (m : rf.Msg) (A2 : Option Addr) (c2 : Nat) (hbx : Vb w bx [cptr c] 24) (hbm : Vb w bm (msgC m (.slice A2 m.ents.length c2)) 83) (hE2 : EntsB 0 w (.slice A2 m.ents.length c2) m.ents) (hlm : cl.MsgLim M K m) :
    Calls Tryz.prog 49 (#[] ++ #[.pointer (some ⟨(F i).q, 0, none⟩)] ++ #[.pointer (some ⟨bm, 0, none⟩), .pointer (some ⟨bx, 0, none⟩)]) w fun e w' => ∃ z, e = .returned (.int .i64 z) ∧ Turned B w0 c R C F k i (rf.step (C.p i).x m).1 (rf.step (C.p i).x m).2 z w w' := by
  have hn7 := h.n7
  have hi := rd.lt
  have hlim := cl.step_lim (x := (C.p i).x) (m := m) (by have := rd.hK; omega) rd.lim hlm
  have hsm := step_small (C.p i).x m
  have hstep := fun W (hb : Below w.heap.size w W) => step_any (C.p i).x m (F i).A (F i).c A2 m.ents.length c2 W (((h.peers i hi).ents.re (b := w.heap.size)).later hb).re ((hE2.re (b := w.heap.size)).later hb).re (h.peers i hi).ok (by rw [rd.many]; omega) (by rw [rd.id]; omega) (by rw [rd.id]; omega) (by have := rd.lim.len; have := rd.hM; omega) (by have := hlm.end_; have := rd.hM; omega) (by have := hlm.ix; have := rd.hM; omega)
  obtain ⟨x, hx⟩ : ∃ x, (rf.step (C.p i).x m).1 = x := ⟨_, rfl⟩
  obtain ⟨ms, hms⟩ : ∃ ms, (rf.step (C.p i).x m).2 = ms := ⟨_, rfl⟩
  unfold cl.BothLim at hlim
  rw [hx, hms] at hstep
  rw [hx] at hlim
  rw [hms] at hsm
  rw [hx, hms]
  have HT := Lib.hid hstep
  have HSZ : Hid ((Tryz.prog.info? 50).map (·.size) = some (ndC (C.p i).x ((F i).ev (C.p i).x)).length) := Lib.hid (by rw [node_size, ndC_len (h.peers i hi).ok])
  obtain ⟨em, hem⟩ : ∃ v, Value.slice A2 m.ents.length c2 = v := ⟨_, rfl⟩
  rw [hem] at hbm
  have HSM : Hid ((Tryz.prog.info? 83).map (·.size) = some (msgC m em).length) := Lib.hid (by rw [msg_size]; rfl)
  have hMK : ∀ w', Below w.heap.size w w' → (w'.rangeAt (F i).q 0 (ndC (C.p i).x ((F i).ev (C.p i).x)) ∧ w'.rangeAt bm 0 (msgC m em)) := fun w' hb => ⟨(h.later hb).ndRange hi, fun t u ht => by rw [Nat.zero_add]; exact cell_later hb (hbm.cell t u ht)⟩
  have MK := Lib.hid hMK
  have hCH := fun (W : World) (A : Option Addr) (c' : Nat) (D : Option Addr) (d : Nat) (hbW : Below w.heap.size w W) ok hE hS => (change_told (W := W) (A := A) (c' := c') (D := D) (d := d) (h.later hbW) rd ht x ms (hlim.1.mono (Nat.le_succ _) (Nat.le_succ _)) (by omega) ok hE hS)
  have HCH := Lib.hid hCH
  have HW0 : Hid (w0.heap.size ≤ w.heap.size) := Lib.hid h.bel.size
  obtain ⟨ev0, hev0⟩ : ∃ v, (F i).ev (C.p i).x = v := ⟨_, rfl⟩
  obtain ⟨x0, hx0⟩ : ∃ v, (C.p i).x = v := ⟨_, rfl⟩
  obtain ⟨q, hq⟩ : ∃ q, (F i).q = q := ⟨_, rfl⟩
  rw [hev0, hx0, hq] at MK
  rw [hev0, hx0] at HSZ
  rw [show Value.slice (F i).A (C.p i).x.log.length (F i).c = ev0 from hev0, hx0, hem] at HT
  rw [hq] at HCH ⊢
  have HBX := Lib.hid hbx
  have hW : Below w.heap.size w w.drew := below_drewN (Below.refl _ w) 1
  clear hn7 hi hlim hsm h hq hCH hbx hbm rd hstep hx hms hx0 hMK hev0 hE2 hlm hem
  unfold cptr at HCH HBX
  rw [show (#[] ++ #[Value.pointer (some ⟨q, 0, none⟩)] ++ #[Value.pointer (some ⟨bm, 0, none⟩), .pointer (some ⟨bx, 0, none⟩)] : Array Value) = #[.pointer (some ⟨q, 0, none⟩), .pointer (some ⟨bm, 0, none⟩), .pointer (some ⟨bx, 0, none⟩)] from rfl]
  go_enter Tryz.func49, Tryz.ntmps49
  go_upto_region 1 with fail
  unfold ndV msgV at HT
  refine wp_region_held_drew (S := (fun w' => w'.rangeAt q 0 (ndC x0 ev0) ∧ w'.rangeAt bm 0 (msgC m em))) (by kernel_rfl) (MK.out _ hW) (fun hHeld => ?_)
  (refine wpAnyH_take (i := 0) (v := ?_) (opsAt rfl) (by kernel_rfl) (by kernel_rfl) (by kernel_rfl) (fun _ _ _ h => h) (Or.inl ⟨by rfl, ?_⟩) (by assumption) ?_; rotate_left; focus (intro w hSw; (try dsimp only at hSw); go_simp; (try with_reducible rfl); done))
  (try simp only [Act.put, List.setIfInBounds_toArray, List.set_cons_zero, List.set_cons_succ])
  (refine wpAnyH_take (i := 1) (v := ?_) (opsAt rfl) (by kernel_rfl) (by kernel_rfl) (by kernel_rfl) (fun _ _ _ h => h) (Or.inl ⟨by rfl, ?_⟩) (by assumption) ?_; rotate_left; focus (intro w hSw; (try dsimp only at hSw); go_simp; (try with_reducible rfl); done))
  (try simp only [Act.put, List.setIfInBounds_toArray, List.set_cons_zero, List.set_cons_succ])
  (refine wpAnyH_take (i := 2) (v := ?_) (opsAt rfl) (by kernel_rfl) (by kernel_rfl) (by kernel_rfl) (fun _ _ _ h => h) (Or.inl ⟨by rfl, ?_⟩) (by assumption) ?_; rotate_left; focus (intro w hSw; (try dsimp only at hSw); go_simp; (try with_reducible rfl); done))
  (try simp only [Act.put, List.setIfInBounds_toArray, List.set_cons_zero, List.set_cons_succ])
  refine wpAnyH_take (i := 3) (opsAt rfl) (by kernel_rfl) (by kernel_rfl) (by kernel_rfl) (fun _ _ _ h => h) (yieldsIf_load_mid (by rfl) _ _ rfl _ _ rfl _ _ (fun _ h => h.1) Tryz.underlying50 rfl HSZ.out) (by assumption) ?_
  (try simp only [Act.put, List.setIfInBounds_toArray, List.set_cons_zero, List.set_cons_succ])
  refine wpAnyH_take (i := 4) (opsAt rfl) (by kernel_rfl) (by kernel_rfl) (by kernel_rfl) (fun _ _ _ h => h) (yieldsIf_load_mid (by rfl) _ _ rfl _ _ rfl _ _ (fun _ h => h.2) Tryz.underlying83 rfl HSM.out) (by assumption) ?_
  (try simp only [Act.put, List.setIfInBounds_toArray, List.set_cons_zero, List.set_cons_succ])
  refine wpAnyH_ready (rs := [5, 9]) (by kernel_rfl) (by simp) ?_
  refine (AllReadyH.cons (opsAt rfl) (fun K hK => ?_) (AllReadyH.cons (opsAt rfl) (fun K hK => ?_) AllReadyH.nil))
  · rw [if_pos (by rfl)]
    go_simp
    go_at_call 50
    refine (HT.out _ hW).mono ?_
    rintro e w1 ⟨nv, sv, rfl, hO⟩
    obtain ⟨A1, c1, D1, d1, rfl, rfl, hE1, hS1, ok1, hb1⟩ := hO
    (try unfold ndV)
    have HOK := Lib.hid ok1
    have HS6 : Hid ((ndC x (.slice A1 x.log.length c1)).toArray.size = 30) := Lib.hid (by rw [List.size_toArray, ndC_len ok1])
    have HLD := Lib.hid (laid_after (w := w) hE1 hS1 (hW.trans (hb1.mono hW.size)) (Nat.le_trans HW0.out hW.size))
    have HZ : Hid (Blk (w1.alloc (.cells #[.int .i64 0, .int .i64 0, .int .u64 0, .int .i64 0, .slice none 0 0, .int .i64 0, .int .i64 0, .int .u64 0, .int .i64 0, .bool false, .bool false, .bool false, .bool false, .bool false, .bool false, .bool false, .int .u64 0, .int .u64 0, .int .u64 0, .int .u64 0, .int .u64 0, .int .u64 0, .int .u64 0, .int .u64 0, .int .u64 0, .int .u64 0, .int .u64 0, .int .u64 0, .int .u64 0, .int .u64 0] 50)) w1.heap.size (ndC zeroN nilV) 50) := Lib.hid (Blk.new w1 _ _)
    have hW := hW.trans (hb1.mono hW.size)
    dsimp only
    refine hK.out _ _ (MK.out _ hW) (fun hHeld => ?_)
    clear hK K
    (try simp only [Act.put, List.setIfInBounds_toArray, List.set_cons_zero, List.set_cons_succ])
    (refine wpAnyH_take (i := 6) (v := ?_) (opsAt rfl) (by kernel_rfl) (by kernel_rfl) (by kernel_rfl) (fun _ _ _ h => h) (Or.inl ⟨by rfl, ?_⟩) (by assumption) ?_; rotate_left; focus (intro w hSw; (try dsimp only at hSw); go_simp; (try with_reducible rfl); done))
    (try simp only [Act.put, List.setIfInBounds_toArray, List.set_cons_zero, List.set_cons_succ])
    (refine wpAnyH_take (i := 7) (v := ?_) (opsAt rfl) (by kernel_rfl) (by kernel_rfl) (by kernel_rfl) (fun _ _ _ h => h) (Or.inl ⟨by rfl, ?_⟩) (by assumption) ?_; rotate_left; focus (intro w hSw; (try dsimp only at hSw); go_simp; (try with_reducible rfl); done))
    (try simp only [Act.put, List.setIfInBounds_toArray, List.set_cons_zero, List.set_cons_succ])
    (refine wpAnyH_take (i := 8) (v := ?_) (opsAt rfl) (by kernel_rfl) (by kernel_rfl) (by kernel_rfl) (fun _ _ _ h => h) (Or.inl ⟨by rfl, ?_⟩) (by assumption) ?_; rotate_left; focus (intro w hSw; (try dsimp only at hSw); go_simp; (try with_reducible rfl); done))
    (try simp only [Act.put, List.setIfInBounds_toArray, List.set_cons_zero, List.set_cons_succ])
    refine wpAnyH_ready (rs := [9]) (by kernel_rfl) (by simp) ?_
    refine (AllReadyH.cons (opsAt rfl) (fun K hK => ?_) AllReadyH.nil)
    rw [if_pos (by rfl)]
    go_simp
    have hW := hW.trans (((Below.refl _ w1).alloc (Nat.le_refl _) (.cells #[.int .i64 0, .int .i64 0, .int .u64 0, .int .i64 0, .slice none 0 0, .int .i64 0, .int .i64 0, .int .u64 0, .int .i64 0, .bool false, .bool false, .bool false, .bool false, .bool false, .bool false, .bool false, .int .u64 0, .int .u64 0, .int .u64 0, .int .u64 0, .int .u64 0, .int .u64 0, .int .u64 0, .int .u64 0, .int .u64 0, .int .u64 0, .int .u64 0, .int .u64 0, .int .u64 0, .int .u64 0] 50)).mono hW.size)
    (try dsimp only)
    refine hK.out _ _ (MK.out _ hW) (fun hHeld => ?_)
    clear hK K
    (try simp only [Act.put, List.setIfInBounds_toArray, List.set_cons_zero, List.set_cons_succ])
    refine wpAnyH_ready (rs := [10]) (by kernel_rfl) (by simp) ?_
    refine (AllReadyH.cons (opsAt rfl) (fun K hK => ?_) AllReadyH.nil)
    rw [if_pos (by rfl)]
    refine wp_store_row 50 _ _ rfl _ _ rfl rfl _ _ HZ.out (by rw [node_size, HS6.out]) (by rw [HS6.out]; rfl) (ndC_one rfl) ?_
    (try simp only [Act.put])
    refine hK.out _ _ (MK.out _ HLD.out.bel) (fun hHeld => ?_)
    clear hK K
    (try simp only [Act.put, List.setIfInBounds_toArray, List.set_cons_zero, List.set_cons_succ])
    (refine wpAnyH_take (i := 11) (v := ?_) (opsAt rfl) (by kernel_rfl) (by kernel_rfl) (by kernel_rfl) (fun _ _ _ h => h) (Or.inl ⟨by rfl, ?_⟩) (by assumption) ?_; rotate_left; focus (intro w hSw; (try dsimp only at hSw); go_simp; (try with_reducible rfl); done))
    (try simp only [Act.put, List.setIfInBounds_toArray, List.set_cons_zero, List.set_cons_succ])
    refine wpAnyH_done (by kernel_rfl) ?_ _
    obtain ⟨bn, hbn⟩ : ∃ b, w1.heap.size = b := ⟨_, rfl⟩
    rw [hbn] at HLD ⊢
    obtain ⟨W, hWW⟩ : ∃ W, (w1.alloc (.cells #[.int .i64 0, .int .i64 0, .int .u64 0, .int .i64 0, .slice none 0 0, .int .i64 0, .int .i64 0, .int .u64 0, .int .i64 0, .bool false, .bool false, .bool false, .bool false, .bool false, .bool false, .bool false, .int .u64 0, .int .u64 0, .int .u64 0, .int .u64 0, .int .u64 0, .int .u64 0, .int .u64 0, .int .u64 0, .int .u64 0, .int .u64 0, .int .u64 0, .int .u64 0, .int .u64 0, .int .u64 0] 50)).setRow bn (ndC x (.slice A1 x.log.length c1)).toArray = W := ⟨_, rfl⟩
    rw [hWW] at HLD ⊢
    clear hHeld hW hE1 hS1 hb1 ok1 HZ hbn hWW
    have hc1 := HBX.out.cell 0 _ rfl
    have hc2 := cell_later HLD.out.bel hc1
    have hcall := HCH.out W A1 c1 D1 d1 HLD.out.bel HOK.out HLD.out.ents HLD.out.way
    have HCALL := Lib.hid hcall
    have HBK := Lib.hid HLD.out.blk
    have HBL := Lib.hid HLD.out.bel
    clear hcall HLD HCH hc1 HBX MK
    go_wp2_with (first | (refine wpList_load_row rfl 50 _ rfl bn rfl _ _ _ _ HBK.out Tryz.underlying50 rfl (by rw [node_size, HS6.out]) ?_) | (go_at_call 35; refine HCALL.out.mono ?_; rintro e w5 ⟨z, rfl, hT⟩; have HTT := Lib.hid hT; clear hT))
    go_ret
    exact ⟨z, rfl, HTT.out.from_ (Stay.of_below HBL.out)⟩
  · rw [if_pos (by rfl)]
    go_simp
    have hbz := (Below.refl _ w.drew).alloc (Nat.le_refl _) (.cells #[.int .i64 0, .int .i64 0, .int .u64 0, .int .i64 0, .slice none 0 0, .int .i64 0, .int .i64 0, .int .u64 0, .int .i64 0, .bool false, .bool false, .bool false, .bool false, .bool false, .bool false, .bool false, .int .u64 0, .int .u64 0, .int .u64 0, .int .u64 0, .int .u64 0, .int .u64 0, .int .u64 0, .int .u64 0, .int .u64 0, .int .u64 0, .int .u64 0, .int .u64 0, .int .u64 0, .int .u64 0] 50)
    have hZ0 : Blk (w.drew.alloc (.cells #[.int .i64 0, .int .i64 0, .int .u64 0, .int .i64 0, .slice none 0 0, .int .i64 0, .int .i64 0, .int .u64 0, .int .i64 0, .bool false, .bool false, .bool false, .bool false, .bool false, .bool false, .bool false, .int .u64 0, .int .u64 0, .int .u64 0, .int .u64 0, .int .u64 0, .int .u64 0, .int .u64 0, .int .u64 0, .int .u64 0, .int .u64 0, .int .u64 0, .int .u64 0, .int .u64 0, .int .u64 0] 50)) w.drew.heap.size (ndC zeroN nilV) 50 := Blk.new w.drew _ _
    have hW0 := hW
    have hW := hW.trans (hbz.mono hW.size)
    (try dsimp only)
    refine hK.out _ _ (MK.out _ hW) (fun hHeld => ?_)
    clear hK K
    (try simp only [Act.put, List.setIfInBounds_toArray, List.set_cons_zero, List.set_cons_succ])
    refine wpAnyH_ready (rs := [5]) (by kernel_rfl) (by simp) ?_
    refine (AllReadyH.cons (opsAt rfl) (fun K hK => ?_) AllReadyH.nil)
    rw [if_pos (by rfl)]
    go_simp
    go_at_call 50
    refine (HT.out _ hW).mono ?_
    rintro e w1 ⟨nv, sv, rfl, hO⟩
    obtain ⟨A1, c1, D1, d1, rfl, rfl, hE1, hS1, ok1, hb1⟩ := hO
    (try unfold ndV)
    have HOK := Lib.hid ok1
    have HS6 : Hid ((ndC x (.slice A1 x.log.length c1)).toArray.size = 30) := Lib.hid (by rw [List.size_toArray, ndC_len ok1])
    have HZ : Hid (Blk w1 w.heap.size (ndC zeroN nilV) 50) := Lib.hid (hZ0.below hb1)
    have HLD := Lib.hid (laid_before (w := w) (bn := w.heap.size) HZ.out hE1 hS1 (hW.trans (hb1.mono hW.size)) (Nat.le_refl _) (Nat.le_trans HW0.out hW.size))
    have hW := hW.trans (hb1.mono hW.size)
    dsimp only
    refine hK.out _ _ (MK.out _ hW) (fun hHeld => ?_)
    clear hK K
    (try simp only [Act.put, List.setIfInBounds_toArray, List.set_cons_zero, List.set_cons_succ])
    (refine wpAnyH_take (i := 6) (v := ?_) (opsAt rfl) (by kernel_rfl) (by kernel_rfl) (by kernel_rfl) (fun _ _ _ h => h) (Or.inl ⟨by rfl, ?_⟩) (by assumption) ?_; rotate_left; focus (intro w hSw; (try dsimp only at hSw); go_simp; (try with_reducible rfl); done))
    (try simp only [Act.put, List.setIfInBounds_toArray, List.set_cons_zero, List.set_cons_succ])
    (refine wpAnyH_take (i := 7) (v := ?_) (opsAt rfl) (by kernel_rfl) (by kernel_rfl) (by kernel_rfl) (fun _ _ _ h => h) (Or.inl ⟨by rfl, ?_⟩) (by assumption) ?_; rotate_left; focus (intro w hSw; (try dsimp only at hSw); go_simp; (try with_reducible rfl); done))
    (try simp only [Act.put, List.setIfInBounds_toArray, List.set_cons_zero, List.set_cons_succ])
    (refine wpAnyH_take (i := 8) (v := ?_) (opsAt rfl) (by kernel_rfl) (by kernel_rfl) (by kernel_rfl) (fun _ _ _ h => h) (Or.inl ⟨by rfl, ?_⟩) (by assumption) ?_; rotate_left; focus (intro w hSw; (try dsimp only at hSw); go_simp; (try with_reducible rfl); done))
    (try simp only [Act.put, List.setIfInBounds_toArray, List.set_cons_zero, List.set_cons_succ])
    refine wpAnyH_ready (rs := [10]) (by kernel_rfl) (by simp) ?_
    refine (AllReadyH.cons (opsAt rfl) (fun K hK => ?_) AllReadyH.nil)
    rw [if_pos (by rfl)]
    refine wp_store_row 50 _ _ rfl _ _ rfl rfl _ _ HZ.out (by rw [node_size, HS6.out]) (by rw [HS6.out]; rfl) (ndC_one rfl) ?_
    (try simp only [Act.put])
    refine hK.out _ _ (MK.out _ HLD.out.bel) (fun hHeld => ?_)
    clear hK K
    (try simp only [Act.put, List.setIfInBounds_toArray, List.set_cons_zero, List.set_cons_succ])
    (refine wpAnyH_take (i := 11) (v := ?_) (opsAt rfl) (by kernel_rfl) (by kernel_rfl) (by kernel_rfl) (fun _ _ _ h => h) (Or.inl ⟨by rfl, ?_⟩) (by assumption) ?_; rotate_left; focus (intro w hSw; (try dsimp only at hSw); go_simp; (try with_reducible rfl); done))
    (try simp only [Act.put, List.setIfInBounds_toArray, List.set_cons_zero, List.set_cons_succ])
    refine wpAnyH_done (by kernel_rfl) ?_ _
    obtain ⟨W, hWW⟩ : ∃ W, w1.setRow w.heap.size (ndC x (.slice A1 x.log.length c1)).toArray = W := ⟨_, rfl⟩
    rw [hWW] at HLD ⊢
    clear hHeld hW hW0 hbz hZ0 hE1 hS1 hb1 ok1 HZ hWW
    have hc1 := HBX.out.cell 0 _ rfl
    have hc2 := cell_later HLD.out.bel hc1
    have hcall := HCH.out W A1 c1 D1 d1 HLD.out.bel HOK.out HLD.out.ents HLD.out.way
    have HCALL := Lib.hid hcall
    have HBK := Lib.hid HLD.out.blk
    have HBL := Lib.hid HLD.out.bel
    clear hcall HLD HCH hc1 HBX MK
    go_wp2_with (first | (refine wpList_load_row rfl 50 _ rfl w.heap.size rfl _ _ _ _ HBK.out Tryz.underlying50 rfl (by rw [node_size, HS6.out]) ?_) | (go_at_call 35; refine HCALL.out.mono ?_; rintro e w5 ⟨z, rfl, hT⟩; have HTT := Lib.hid hT; clear hT))
    go_ret
    exact ⟨z, rfl, HTT.out.from_ (Stay.of_below HBL.out)⟩
end Go.Proofs.YtmcibggjolckoaaGreatDoor
namespace Go.Proofs.YtmcibggjolckoaaGreatDoor
open Go Go.RowKit Go.Deep
set_option maxRecDepth 100000
def zeroM : Value := .agg #[.int .i64 0, .int .i64 0, .int .i64 0, .int .u64 0, .int .u64 0, .int .u64 0, .int .u64 0, .slice none 0 0, .bool false]
/-- 'clear(s)' of one element of many cells -/
theorem run_clear_one {P : Program} (w : World) (t e ty : TypeId) (z : Value) (ht : P.underlying t = some (.slice e)) (hv : ∀ w, (zeroValue e).run P w = .ok z w) (h1 : ∀ u ∈ z.cells.toList, u.oneCell' = true) (b o c : Nat)
    (hc : ∀ j, j < z.cells.toList.length → (w.cell? ⟨b, o + j, none⟩).isSome = true) (hf : ∀ j, j < z.cells.toList.length → w.frozen? ⟨b, o + j, none⟩ = false) :
    (Builtin.clear_ #[t] ty #[.slice (some ⟨b, o, none⟩) 1 c]).run P w = .ok (.tuple #[]) (w.setCells b o z.cells.toList) := by
  have hzc : (Builtin.zeroCells z.cells 1).toList = z.cells.toList := by
    simp only [Builtin.zeroCells]
    apply List.ext_getElem
    · simp
    · intro i h1 h2
      have h3 : i < z.cells.size := by simpa using h2
      simp [Nat.mod_eq_of_lt h3, h3]
  have hst := run_storeCells_cells (P := P) b o z.cells.toList 0 w (by simpa using hc) (by simpa using hf) h1
  simp only [Nat.add_zero] at hst
  simp [Builtin.clear_, run_underlying ht, hv, hzc, hst]
theorem zero_msg (w : World) : (zeroValue 83).run Tryz.prog w = .ok zeroM w := by rfl
set_option maxHeartbeats 4000000 in
/-- message i is taken out of a row -/
theorem mdelete_any (base g n cap i : Nat) (xs : List Value) (w : World) (hown : w.ownsRow base 83 9 (.slice (some ⟨g, 0, none⟩) n cap) n xs) (hi : i < n) (hone : ∀ u ∈ xs, u.oneCell' = true) (hn : n ≤ 100000) :
    Calls Tryz.prog 61 #[.slice (some ⟨g, 0, none⟩) n cap, .int .i64 (i : Int), .int .i64 ((i : Int) + 1)] w fun e w' => e = .returned (.slice (some ⟨g, 0, none⟩) (n - 1) cap) ∧ w'.ownsRow base 83 9 (.slice (some ⟨g, 0, none⟩) (n - 1) cap) (n - 1) (xs.take (i * 9) ++ xs.drop ((i + 1) * 9)) ∧ Apart [g] w w' := by
  obtain ⟨i0, hinf, hz0, hz1, hz2⟩ := info_parts info_msg
  obtain ⟨hxl, hown2⟩ := hown
  rcases hown2 with ⟨e, _⟩ | ⟨g', cap', cur, e, hbase, hh, hnc, hcm, hcs, htake⟩
  · cases e
  injection e with e1 _ e3
  injection e1 with e1
  injection e1 with e1
  subst e1 e3
  obtain ⟨j, hj⟩ : ∃ j, i + 1 = j := ⟨_, rfl⟩
  rw [show ((i : Int) + 1) = ((j : Nat) : Int) by omega]
  have hlt : i < j := by omega
  have hjn : j ≤ n := by omega
  obtain ⟨news, hnews⟩ : ∃ news, news = xs.drop (j * 9) := ⟨_, rfl⟩
  have hlen : news.length = (n - j) * 9 := by rw [hnews, List.length_drop, hxl]; omega
  have hul : cur.toList.length = cap * 9 := by rw [Array.length_toList]; exact hcs
  have hv : Vb w.drew g cur.toList 83 := by
    unfold Vb
    rw [Array.toArray_toList]
    exact hh
  have hget : ∀ t u, news[t]? = some u → w.drew.cell? ⟨g, j * 9 + t, none⟩ = some u := fun t u ht => by
    refine hv.cell _ _ ?_
    rw [hnews, List.getElem?_drop, ← htake, List.getElem?_take] at ht
    split at ht
    · exact ht
    · cases ht
  obtain ⟨A, hA, hsrc⟩ : ∃ A : Addr, (if cap = j then some (⟨g, 0, none⟩ : Addr) else some ⟨g, j * 9, none⟩) = some A ∧ Hid (∀ t u, news[t]? = some u → w.drew.cell? (A.add t) = some u) := by
    by_cases h : cap = j
    · refine ⟨⟨g, 0, none⟩, by simp [h], fun t u hu => ?_⟩
      have h0 : news.length = 0 := by rw [hlen, show n - j = 0 by omega, Nat.zero_mul]
      rw [List.length_eq_zero_iff.1 h0] at hu
      simp at hu
    · refine ⟨⟨g, j * 9, none⟩, by simp [h], fun t u hu => ?_⟩
      rw [addr_add]
      exact hget t u hu
  have s1 : Hid (news.length = (n - j) * 9) := Lib.hid hlen
  have s2 : Hid (∀ u ∈ news, u.oneCell' = true) := Lib.hid fun u hu => hone u (by rw [hnews] at hu; exact List.mem_of_mem_drop hu)
  have s3 : Hid (∀ t, t < news.length → (w.drew.cell? ⟨g, 0 + i * 9 + t, none⟩).isSome = true ∧ w.drew.frozen? ⟨g, 0 + i * 9 + t, none⟩ = false) := Lib.hid fun t ht => by
    rw [hlen] at ht
    refine ⟨?_, hv.free _⟩
    rw [hv.cell (0 + i * 9 + t) _ (List.getElem?_eq_getElem (by rw [hul]; omega))]
    rfl
  obtain ⟨W1, hW1⟩ : ∃ W1, W1 = w.drew.setCells g (0 + i * 9) news := ⟨_, rfl⟩
  have hv1 : Vb W1 g (cur.toList.take (i * 9) ++ news ++ cur.toList.drop (i * 9 + news.length)) 83 := by
    rw [hW1, Nat.zero_add]
    exact Vb.cellsAt news (i * 9) _ _ hv (by rw [hul, hlen]; omega)
  have hl1 : (cur.toList.take (i * 9) ++ news ++ cur.toList.drop (i * 9 + news.length)).length = cap * 9 := by
    rw [List.length_append, List.length_append, List.length_take, List.length_drop, hul, hlen]; omega
  have hzl : zeroM.cells.toList.length = 9 := by rfl
  have hcl : ∀ ty, (Builtin.clear_ #[61] ty #[.slice (some ⟨g, (i + (n - j)) * 9, none⟩) (n - (i + (n - j))) (cap - (i + (n - j)))]).run Tryz.prog W1 = .ok (.tuple #[]) (W1.setCells g ((i + (n - j)) * 9) zeroM.cells.toList) := fun ty => by
    rw [show n - (i + (n - j)) = 1 by omega]
    refine run_clear_one W1 _ _ ty _ Tryz.underlying61 zero_msg (by decide) g _ _ (fun t ht => ?_) (fun t _ => hv1.free _)
    rw [hzl] at ht
    rw [hv1.cell ((i + (n - j)) * 9 + t) _ (List.getElem?_eq_getElem (by rw [hl1]; omega))]
    rfl
  have hv2 := Vb.cellsAt zeroM.cells.toList ((i + (n - j)) * 9) _ _ hv1 (by rw [hl1, hzl]; omega)
  have hfin : (W1.setCells g ((i + (n - j)) * 9) zeroM.cells.toList).ownsRow base 83 9 (.slice (some ⟨g, 0, none⟩) (n - 1) cap) (n - 1) (xs.take (i * 9) ++ xs.drop ((i + 1) * 9)) ∧ Apart [g] w (W1.setCells g ((i + (n - j)) * 9) zeroM.cells.toList) := by
    constructor
    · refine ⟨by rw [List.length_append, List.length_take, List.length_drop, hxl]; omega, .inr ⟨g, cap, _, rfl, hbase, hv2, by omega, hcm, ?_, ?_⟩⟩
      · rw [List.size_toArray, List.length_append, List.length_append, List.length_take, List.length_drop, hl1, hzl]; omega
      · have e1 : i + (n - j) = n - 1 := by omega
        have e2 : (cur.toList.take (i * 9) ++ news).length = (n - 1) * 9 := by rw [List.length_append, List.length_take, hul, hlen]; omega
        rw [e1, List.append_assoc, List.take_append_of_le_length (by rw [List.length_take, hl1]; omega), List.take_take, Nat.min_self, List.take_append_of_le_length (by omega), ← e2, List.take_length, hnews, ← htake, List.take_take, ← hj, Nat.min_eq_left (by omega)]
    · have h1 : Apart [g] w W1 := by
        rw [hW1]
        have h0 : Apart [g] w w.drew := ⟨rfl, rfl, rfl, Nat.le_refl _, fun _ _ _ => rfl⟩
        exact h0.trans (apart_cells g news (0 + i * 9) w.drew)
      exact h1.trans (apart_cells g _ _ _)
  have hW : Hid (W1 = w.drew.setCells g (0 + i * 9) news) := Lib.hid hW1
  have HFIN := Lib.hid hfin
  have hic : i ≤ cap := by omega
  have hjc : j ≤ cap := by omega
  have hin : i ≤ n := by omega
  have HJ := Lib.hid hj
  clear hW1 hv1 hv hv2 hget hnews hlen hul hfin hl1 hzl hxl hbase hh hcs htake hone hj hi
  go_enter Tryz.func61, Tryz.ntmps61
  go_wp2_with fail
  go_region_law (refine step_append_room rfl (.tmp 22) (.tmp 25) 61 rfl 83 i0 9 Tryz.underlying61 hinf hz1 g 0 i cap (by simp [Act.eval, Act.put]) A (n - j) (cap - j) news (by simp [Act.eval, Act.put]) s1.out hsrc.out s2.out (by omega) s3.out ?_; rw [← hW.out])
  obtain ⟨m, hm⟩ : ∃ m, i + (n - j) = m := ⟨_, rfl⟩
  rw [hm] at hcl HFIN ⊢
  obtain ⟨zs, hzs⟩ : ∃ zs, zeroM.cells.toList = zs := ⟨_, rfl⟩
  rw [hzs] at hcl HFIN
  clear hzs
  have hmn : (m : Int) ≤ (n : Int) := by omega
  have hnc2 : (n : Int) ≤ (cap : Int) := by omega
  have hm0 : (0 : Int) ≤ (m : Int) := by omega
  have hne : ¬ cap = m := by have := HJ.out; omega
  have HM : Hid (m = n - 1) := Lib.hid (by have := HJ.out; omega)
  clear hA hsrc s1 s2 s3 hW hlt hjn hic hjc hin hm hcm hnc hn hinf hz0 hz1 hz2
  go_wp2
  go_ret
  exact ⟨by rw [HM.out]; rfl, HFIN.out⟩
end Go.Proofs.YtmcibggjolckoaaGreatDoor
