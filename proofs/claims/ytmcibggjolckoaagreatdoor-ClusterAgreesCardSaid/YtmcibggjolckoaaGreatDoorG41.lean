/- KcNew, KcSys: one behind the other. -/
import Derived.Test.YtmcibggjolckoaaGreatDoorG40
import Derived.Deep.DeepCutAuto
import Derived.Deep.RegionLaw
import Derived.Test.YtmcibggjolckoaaGreatDoorG34
import Derived.Test.YtmcibggjolckoaaGreatDoorG36
import Derived.Test.YtmcibggjolckoaaGreatDoorG37
import Derived.Test.YtmcibggjolckoaaGreatDoorG38
import Derived.Test.YtmcibggjolckoaaGreatDoorG39
namespace Go.Proofs.YtmcibggjolckoaaGreatDoor
open Go Go.RowKit Go.Deep
set_option maxRecDepth 100000
theorem info_peer : (Tryz.prog.info? 64).map (fun i => (i.zero, i.size, i.bytes)) = some (some (.pointer none), 1, 8) := by kernel_rfl
def rawF (q p b cap : Nat) : Fp := ⟨q, p, b, 0, 0, none, 0, .pointer none, [], ⟨cap, [], false, 0, 0⟩⟩
/-- the cells of a node newly made -/
def pcells (p : Nat) : Array Value := (peerC zeroN (rawF 0 p 0 0) false).toArray
theorem pcells_eq (q p b cap : Nat) : (peerC zeroN (rawF q p b cap) false).toArray = pcells p := rfl
theorem Born.more {w0 w w1 w3 : World} {c cap j p b k : Nat} {F : Nat → Fp} {A A5 : Option Addr} {c5 : Nat} (h : Born w0 w c cap j F (.slice A j k)) (hb1 : Below w.heap.size w w1) (hp : w.heap.size ≤ p) (hbb : w.heap.size ≤ b) (hd : Dk w1 p b ⟨cap, [], false, 0, 0⟩) (hcap : cap ≤ 10000000)
    (ho : w3.ownsRow w0.heap.size 64 1 (.slice A5 (j + 1) c5) (j + 1) (((List.range j).map fun i => Value.pointer (some ⟨(F i).q, 0, none⟩)) ++ [.pointer (some ⟨w1.heap.size, 0, none⟩)]))
    (hg : ((w1.alloc (.cells (peerC zeroN (rawF w1.heap.size p b cap) false).toArray 67)).alloc (.cells #[.pointer (some ⟨w1.heap.size, 0, none⟩)] 64)).grownBy w3 (Value.slice A j k).ownBlock) :
    (w3.cell? ⟨c, 0, none⟩ = some (.slice A j k) ∧ w3.frozen? ⟨c, 0, none⟩ = false) ∧ Born w0 (w3.setCell ⟨c, 0, none⟩ (.slice A5 (j + 1) c5)) c cap (j + 1) (cl.upd F j (rawF w1.heap.size p b cap)) (.slice A5 (j + 1) c5) := by
  obtain ⟨q, hq⟩ : ∃ q, w1.heap.size = q := ⟨_, rfl⟩
  obtain ⟨X, hX⟩ : ∃ X, w1.alloc (.cells (peerC zeroN (rawF q p b cap) false).toArray 67) = X := ⟨_, rfl⟩
  obtain ⟨Y, hY⟩ : ∃ Y, X.alloc (.cells #[.pointer (some ⟨q, 0, none⟩)] 64) = Y := ⟨_, rfl⟩
  rw [hq, hX, hY] at hg
  rw [hq] at ho ⊢
  have hbX : Below w1.heap.size w1 X := by rw [← hX]; exact (Below.refl _ w1).alloc (Nat.le_refl _) _
  have hbY : Below X.heap.size X Y := by rw [← hY]; exact (Below.refl _ X).alloc (Nat.le_refl _) _
  have hvX : Vb X q (peerC zeroN (rawF q p b cap) false) 67 := by rw [← hX, ← hq]; exact Vb.new w1 _ _
  have hb1Y : Below w1.heap.size w1 Y := hbX.trans (hbY.mono hbX.size)
  have hbw : Below w.heap.size w Y := hb1.trans (hb1Y.mono hb1.size)
  have hbase := h.bel.size
  -- the old row
  have hS : ∀ y ∈ (Value.slice A j k).ownBlock.toList, w0.heap.size ≤ y ∧ ∃ cur, Y.heap[y]? = some (.cells cur 64 (0, 0)) := fun y hy => by
    rcases h.row.2 with ⟨e, _⟩ | ⟨g, _, cur, e, hb, hh, _⟩
    · rw [e] at hy; cases hy
    · rw [e] at hy
      obtain rfl : y = g := by simpa [Value.ownBlock] using hy
      refine ⟨hb, cur, ?_⟩
      rw [hbw.block _ (Array.getElem?_eq_some_iff.1 hh).1]
      exact hh
  have hty : ∀ y vs t, Vb Y y vs t → t ≠ 64 → y ∉ (Value.slice A j k).ownBlock.toList := fun y vs t hv ht hy => by
    obtain ⟨_, cur, e⟩ := hS y hy
    have hv2 : Vb Y y cur.toList 64 := by unfold Vb; rw [Array.toArray_toList]; exact e
    exact ne_of_type hv hv2 ht rfl
  have hmp : ∀ y M, FMap Y y M → y ∉ (Value.slice A j k).ownBlock.toList := fun y M hm hy => by
    obtain ⟨_, cur, e⟩ := hS y hy
    have hv2 : Vb Y y cur.toList 64 := by unfold Vb; rw [Array.toArray_toList]; exact e
    exact ne_map hv2 hm rfl
  have hA := apart_grown hg
  have hcY : Vb Y c [.slice A j k, .slice none 0 0] 63 := (hbw.block _ h.blk.lt).trans h.blk
  have hc3 := hcY.apart hA (hty _ _ _ hcY (by decide))
  have hA2 := Apart.setCell w3 c 0 (.slice A5 (j + 1) c5)
  have hgeS : ∀ y ∈ (Value.slice A j k).ownBlock.toList, w0.heap.size ≤ y := fun y hy => (hS y hy).1
  have hgeC : ∀ y ∈ [c], w0.heap.size ≤ y := fun y hy => by
    obtain rfl : y = c := by simpa using hy
    exact h.hc
  have hlw : ∀ y, y < w.heap.size → y < w3.heap.size := fun y hy => Nat.lt_of_lt_of_le hy (Nat.le_trans hbw.size hA.size)
  have hB3 : Below w0.heap.size w0 w3 := (h.bel.trans (hbw.mono hbase)).trans (hA.below _ (Nat.le_trans hbase hbw.size) hgeS)
  have hdY : Ldk w0 Y p b ⟨cap, [], false, 0, 0⟩ := by
    have h0 : Ldk w0 w1 p b ⟨cap, [], false, 0, 0⟩ := ⟨h.bel.trans (hb1.mono hbase), hd, Nat.le_trans hbase hp, Nat.le_trans hbase hbb, ok_empty cap hcap 0, hcap⟩
    exact h0.later hb1Y
  have hqw : w.heap.size ≤ q := by rw [← hq]; exact hb1.size
  have hvY : Vb Y q (peerC zeroN (rawF q p b cap) false) 67 := (hbY.block _ hvX.lt).trans hvX
  have hpl : p < w1.heap.size := hd.blk.lt
  have hbl : b < w1.heap.size := hd.map.lt
  have hnew : Raw w0 Y cap (rawF q p b cap) := ⟨hvY, hdY, by show w0.heap.size ≤ q; omega, by show q < Y.heap.size; exact hvY.lt, by show p < Y.heap.size; have := hb1Y.size; omega, by show b < Y.heap.size; have := hb1Y.size; omega⟩
  have step : ∀ f, Raw w0 Y cap f → Raw w0 (w3.setCell ⟨c, 0, none⟩ (.slice A5 (j + 1) c5)) cap f := fun f hr => by
    have h3 := hr.apart hA hgeS (hty _ _ _ hr.blk (by decide)) (hty _ _ _ hr.disk.dk.blk (by decide)) (hmp _ _ hr.disk.dk.map)
    exact h3.apart hA2 hgeC (fun hx => ne_of_type h3.blk hc3 (by decide) (by simpa using hx)) (fun hx => ne_of_type h3.disk.dk.blk hc3 (by decide) (by simpa using hx)) (fun hx => ne_map hc3 h3.disk.dk.map (by simpa using hx : (f.b = c)).symm)
  refine ⟨⟨hc3.cell 0 _ rfl, Blk.free hc3 0⟩, hB3.trans (hA2.below _ hB3.size hgeC), hc3.set 0 _, h.hc, ?_, fun i hi => ?_, fun i l hi hl hne => ?_⟩
  · have e : ((List.range (j + 1)).map fun i => Value.pointer (some ⟨(cl.upd F j (rawF q p b cap) i).q, 0, none⟩)) = ((List.range j).map fun i => Value.pointer (some ⟨(F i).q, 0, none⟩)) ++ [.pointer (some ⟨q, 0, none⟩)] := by
      rw [List.range_succ, List.map_append, List.map_cons, List.map_nil, cl.upd_same]
      refine congrArg (· ++ _) (List.map_congr_left fun i hi => ?_)
      rw [cl.upd_other _ _ (by have := List.mem_range.1 hi; omega)]
    rw [e]
    refine owns_apart ho hA2 fun g hg2 hgc => ?_
    obtain rfl : g = c := by simpa using hgc
    rcases ho.2 with ⟨e, _⟩ | ⟨g2, _, cur, e, _, hh, _⟩
    · rw [e] at hg2; cases hg2
    · rw [e] at hg2
      obtain rfl : g2 = g := by simpa [Value.ownBlock] using hg2
      have hv2 : Vb w3 g2 cur.toList 64 := by unfold Vb; rw [Array.toArray_toList]; exact hh
      exact ne_of_type hv2 hc3 (by decide) rfl
  · by_cases hij : i = j
    · subst hij
      rw [cl.upd_same]
      exact step _ hnew
    · rw [cl.upd_other _ _ hij]
      exact step _ ((h.raw i (by omega)).later hbw)
  · have hfar : ∀ i, i < j → (F i).q < w.heap.size ∧ (F i).p < w.heap.size ∧ (F i).b < w.heap.size := fun i hi => (h.raw i hi).lt
    by_cases hij : i = j
    · subst hij
      have hli : l ≠ i := fun e => hne e.symm
      rw [cl.upd_same, cl.upd_other _ _ hli]
      obtain ⟨t1, t2, t3⟩ := hfar l (by omega)
      exact ⟨by show q ≠ _; omega, by show p ≠ _; omega, by show b ≠ _; omega⟩
    · rw [cl.upd_other _ _ hij]
      by_cases hlj : l = j
      · subst hlj
        rw [cl.upd_same]
        obtain ⟨t1, t2, t3⟩ := hfar i (by omega)
        exact ⟨by show _ ≠ q; omega, by show _ ≠ p; omega, by show _ ≠ b; omega⟩
      · rw [cl.upd_other _ _ hlj]
        exact h.sep i l (by omega) (by omega) hne
theorem new_bad (many cap : Int) (w : World) (h : ¬ (1 ≤ many ∧ many ≤ 7)) :
    Calls Tryz.prog 11 #[.int .i64 many, .int .i64 cap] w fun e w' => e = .returned (.tuple #[.pointer none, .int .i64 1]) ∧ w = w' := by
  by_cases h1 : many < 1
  · have e1 : decide (many < 1) = true := decide_eq_true h1
    clear h
    go_enter Tryz.func11, Tryz.ntmps11
    go_wp2_with fail
    go_ret2
    exact ⟨rfl, rfl⟩
  · have e1 : decide (many < 1) = false := decide_eq_false h1
    have e2 : decide (7 < many) = true := decide_eq_true (by omega)
    clear h
    go_enter Tryz.func11, Tryz.ntmps11
    go_wp2_with fail
    go_ret2
    exact ⟨rfl, rfl⟩
set_option maxHeartbeats 8000000 in
theorem new_any_clu {B : Nat} (n cap : Nat) (w : World) (h1 : 1 ≤ n) (h7 : n ≤ 7) (hcap : cap ≤ 10000000) (hB : 2 * B ≤ cap) (ht : TabAt w) :
    Calls Tryz.prog 11 #[.int .i64 (n : Int), .int .i64 (cap : Int)] w fun e w' => ∃ c R k F, e = .returned (.tuple #[cptr c, .int .i64 0]) ∧ CluAt B w w' c R (cl.fresh n) F k (.slice none 0 0) ∧ ∀ i, i < n → (F i).d.left = 0 := by
  obtain ⟨i0, hi0, hz0, hz1, hz2⟩ := info_parts info_peer
  obtain ⟨X, c, hX, hc, hbX, kb⟩ := box_blk w [.slice none 0 0, .slice none 0 0] 63
  have hborn : Born w X c cap 0 (fun _ => rawF 0 0 0 0) (.slice none 0 0) := ⟨hbX, kb, by omega, World.ownsRow_nil _ _ _ _, fun i hi => absurd hi (Nat.not_lt_zero _), fun i l hi => absurd hi (Nat.not_lt_zero _)⟩
  have HBN := Lib.hid hborn
  have HX := Lib.hid hX
  have HC := Lib.hid hc
  have HT := Lib.hid ht
  have HB := Lib.hid hB
  have HCAP := Lib.hid hcap
  have H17 := Lib.hid (And.intro h1 h7)
  have e1 : decide ((n : Int) < 1) = false := decide_eq_false (by omega)
  have e2 : decide (7 < (n : Int)) = false := decide_eq_false (by omega)
  clear hborn hX hc hbX kb ht hB hcap h1 h7
  go_enter Tryz.func11, Tryz.ntmps11
  go_upto_region 5 with fail
  rw [HX.out, HC.out]
  go_loopw [18] (fun i wr => ∃ (j : Nat) (F : Nat → Fp) (v : Value), j ≤ n ∧ i = .int .i64 j ∧ Born w wr c cap j F v) (fun i _ => n - (intOf i).toNat)
  case atStart => exact ⟨0, _, _, Nat.zero_le _, rfl, HBN.out⟩
  case round =>
    obtain ⟨j, F, v, hj, rfl, hI⟩ := hrel
    obtain ⟨A, k, rfl⟩ := owns_slice hI.row
    have c0 := hI.blk.cell 0 _ rfl
    have HI := Lib.hid hI
    have HJ := Lib.hid hj
    have hwj : IntKind.i64.wrap ((j : Int) + 1) = (j : Int) + 1 := wrap_i64_in (by omega) (by have := H17.out.2; omega)
    clear hI hj
    by_cases hlt : j < n
    · have hltI : (j : Int) < (n : Int) := by omega
      have HLT := Lib.hid hlt
      obtain ⟨xs, hxs⟩ : ∃ xs, ((List.range j).map fun i => Value.pointer (some ⟨(F i).q, 0, none⟩)) = xs := ⟨_, rfl⟩
      have hrow := HI.out.row
      rw [hxs] at hrow
      have HR := Lib.hid hrow
      have HXS := Lib.hid hxs
      have hge := HI.out.bel.size
      have HGE := Lib.hid hge
      clear hlt hrow hxs hge
      go_upto_region 6 with fail
      have hnew := fun W => vd_new cap W (by have := HCAP.out; omega)
      unfold dptr at hnew
      have HNEW := Lib.hid hnew
      have hW : Below wr.heap.size wr wr.drew := below_drewN (Below.refl _ wr) 1
      clear hnew
      go_region_law (first | (refine step_append_own rfl (.tmp 24) (.tmp 29) 60 rfl w.heap.size 64 i0 _ 1 8 Tryz.underlying60 hi0 hz0 hz1 hz2 rfl (by decide) (.slice A j k) j xs (by simp [Act.eval]) ?_ ⟨w1.heap.size + 1, 0, none⟩ 1 1 [.pointer (some ⟨w1.heap.size, 0, none⟩)] (by simp [Act.eval]) rfl ?_ (by intro u hu; simp at hu; subst hu; rfl) ?_ ?_ ?_ ?_; exact World.ownsRow.alloc (World.ownsRow.alloc (owns_below HR.out hbw) _) _; (have hc9 := cells_newL (w1.alloc (.cells #[.int .i64 0, .int .i64 0, .int .u64 0, .int .i64 0, .slice none 0 0, .int .i64 0, .int .i64 0, .int .u64 0, .int .i64 0, .bool false, .bool false, .bool false, .bool false, .bool false, .bool false, .bool false, .int .u64 0, .int .u64 0, .int .u64 0, .int .u64 0, .int .u64 0, .int .u64 0, .int .u64 0, .int .u64 0, .int .u64 0, .int .u64 0, .int .u64 0, .int .u64 0, .int .u64 0, .int .u64 0, .pointer (some ⟨p, 0, none⟩), .pointer none, .bool false] 67)) [.pointer (some ⟨w1.heap.size, 0, none⟩)] 64; rw [show (w1.alloc (.cells #[.int .i64 0, .int .i64 0, .int .u64 0, .int .i64 0, .slice none 0 0, .int .i64 0, .int .i64 0, .int .u64 0, .int .i64 0, .bool false, .bool false, .bool false, .bool false, .bool false, .bool false, .bool false, .int .u64 0, .int .u64 0, .int .u64 0, .int .u64 0, .int .u64 0, .int .u64 0, .int .u64 0, .int .u64 0, .int .u64 0, .int .u64 0, .int .u64 0, .int .u64 0, .int .u64 0, .int .u64 0, .pointer (some ⟨p, 0, none⟩), .pointer none, .bool false] 67)).heap.size = w1.heap.size + 1 by simp] at hc9; exact hc9); (have := H17.out.2; have := HLT.out; unfold maxLen; omega); (have := H17.out.2; have := HLT.out; omega); (have := hbw.size; have := HGE.out; simp; omega); intro v' w3 hown' hgrow'; obtain ⟨A5, c5, rfl⟩ := owns_slice hown'; have hfin := HI.out.more hbw hp1 hbb1 hd1 HCAP.out (by rw [HXS.out]; exact hown') hgrow'; have c9 := hfin.1.1; have f9 := hfin.1.2; have HF := Lib.hid hfin.2; clear hfin hown' hgrow') | (go_simp; go_at_call 31; refine (HNEW.out _).mono ?_; rintro e w1 ⟨p, b, rfl, hp1, hbb1, hd1, hb1⟩; have hbw := hW.trans (hb1.mono hW.size); have c01 := cell_later hbw c0; have c02 := cell_later ((Below.refl _ w1).alloc (Nat.le_refl _) (.cells #[.int .i64 0, .int .i64 0, .int .u64 0, .int .i64 0, .slice none 0 0, .int .i64 0, .int .i64 0, .int .u64 0, .int .i64 0, .bool false, .bool false, .bool false, .bool false, .bool false, .bool false, .bool false, .int .u64 0, .int .u64 0, .int .u64 0, .int .u64 0, .int .u64 0, .int .u64 0, .int .u64 0, .int .u64 0, .int .u64 0, .int .u64 0, .int .u64 0, .int .u64 0, .int .u64 0, .int .u64 0, .pointer (some ⟨p, 0, none⟩), .pointer none, .bool false] 67)) c01; have c03 := cell_later ((Below.refl _ (w1.alloc (.cells #[.int .i64 0, .int .i64 0, .int .u64 0, .int .i64 0, .slice none 0 0, .int .i64 0, .int .i64 0, .int .u64 0, .int .i64 0, .bool false, .bool false, .bool false, .bool false, .bool false, .bool false, .bool false, .int .u64 0, .int .u64 0, .int .u64 0, .int .u64 0, .int .u64 0, .int .u64 0, .int .u64 0, .int .u64 0, .int .u64 0, .int .u64 0, .int .u64 0, .int .u64 0, .int .u64 0, .int .u64 0, .pointer (some ⟨p, 0, none⟩), .pointer none, .bool false] 67))).alloc (Nat.le_refl _) (.cells #[.pointer (some ⟨w1.heap.size, 0, none⟩)] 64)) c02))
      all_goals
        clear c0 c01 c02 c03 c9 f9 hW hbw hb1 hd1 hp1 hbb1
        go_wp2_with fail
        go_roundw
        case rel => exact ⟨j + 1, _, _, HLT.out, by go_num, HF.out⟩
        case measure => have := HLT.out; simp [intOf]; omega
    · obtain rfl : j = n := by have := HJ.out; omega
      obtain ⟨R, k2, hv, hhalf⟩ := HI.out.half (B := B) (by have := H17.out.1; omega)
      have HH := Lib.hid hhalf
      clear hhalf hv c0
      go_upto_region 9 with fail
      have HN := H17
      obtain ⟨N, hN⟩ : ∃ N, j = N := ⟨_, rfl⟩
      have HNN := Lib.hid hN
      rw [hN] at HH HN ⊢
      clear hwj HI HJ hlt e1 e2 H17 hN
      go_loopw [35] (fun i wx => ∃ (m : Nat) (F' : Nat → Fp), m ≤ N ∧ i = .int .i64 m ∧ Half B w wx c R N k2 cap m F') (fun i _ => N - (intOf i).toNat)
      case atStart => exact ⟨0, _, Nat.zero_le _, rfl, HH.out⟩
      case round =>
        obtain ⟨m, F', hm, rfl, hI⟩ := hrel
        have HI := Lib.hid hI
        have HM := Lib.hid hm
        have hwm : IntKind.i64.wrap ((m : Int) + 1) = (m : Int) + 1 := wrap_i64_in (by omega) (by have := HN.out.2; omega)
        clear hI hm
        by_cases hlt : m < N
        · have hltI : (m : Int) < (N : Int) := by omega
          have HLT := Lib.hid hlt
          have hcall := HI.out.next hlt HN.out.2 HCAP.out HB.out HT.out
          unfold cptr at hcall
          have HCALL := Lib.hid hcall
          clear hlt hcall
          go_wp2_with (go_at_call 22; refine HCALL.out.mono ?_; rintro e w2 ⟨rfl, F2, hI2⟩; have HI2 := Lib.hid hI2; clear hI2)
          go_roundw
          case rel => exact ⟨m + 1, F2, HLT.out, by go_num, HI2.out⟩
          case measure => have := HLT.out; simp [intOf]; omega
        · obtain rfl : m = N := by have := HM.out; omega
          have hdone := HI.out.done HN.out.2
          have HD := Lib.hid hdone
          clear hdone
          go_wp2_with fail
          go_ret2
          rw [HNN.out]
          exact ⟨c, R, k2, F', rfl, HD.out.1, HD.out.2⟩
end Go.Proofs.YtmcibggjolckoaaGreatDoor
namespace Go.Proofs.YtmcibggjolckoaaGreatDoor
open Go Go.RowKit Go.Deep
set_option maxRecDepth 100000
/-- the maps of the disks -/
def bsF (bs : Nat → Nat) : Nat → Fp := fun i => ⟨0, 0, bs i, 0, 0, none, 0, .pointer none, [], ⟨0, [], false, 0, 0⟩⟩
structure Sys (B : Nat) (w0 : World) (c n M : Nat) (bs : Nat → Nat) (C : cl.Clu) (g : cl.Gh) (w : World) : Prop where
  cn : C.n = n
  lim : cl.Lim M M C
  inv : cl.Inv C g
  w200 : C.way.length ≤ 200
  at_ : ∃ R k F wv, CluAt B w0 w c R C F k wv ∧ ∀ i, i < n → (F i).b = bs i
def Bd (B M : Nat) : Prop := M + 1 ≤ 9990 ∧ 206 * (M + 2) ≤ B
def Next (B : Nat) (w0 : World) (c n M : Nat) (bs : Nat → Nat) (C : cl.Clu) (g : cl.Gh) (w w' : World) : Prop :=
  ∃ C' g', Sys B w0 c n M bs C' g' w' ∧ cl.Le C.sts g C'.sts g' ∧ Stay (bsF bs) n w w'
section
variable {B : Nat} {w0 : World} {c n M : Nat} {bs : Nat → Nat} {C : cl.Clu} {g : cl.Gh} {w : World}
theorem Sys.mono {M' : Nat} (h : Sys B w0 c n M bs C g w) (hM : M ≤ M') : Sys B w0 c n M' bs C g w := ⟨h.cn, h.lim.mono hM hM, h.inv, h.w200, h.at_⟩
theorem Sys.later {w' : World} (h : Sys B w0 c n M bs C g w) (hb : Below w.heap.size w w') : Sys B w0 c n M bs C g w' := by
  obtain ⟨R, k, F, wv, h1, h2⟩ := h.at_
  exact ⟨h.cn, h.lim, h.inv, h.w200, R, k, F, wv, h1.later hb, h2⟩
theorem Sys.same {w' : World} {M' : Nat} (h : Sys B w0 c n M bs C g w) (hM : M ≤ M') (hb : Below w.heap.size w w') : Next B w0 c n M' bs C g w w' := ⟨C, g, (h.mono hM).later hb, cl.Le.refl _ _, Stay.of_below hb⟩
theorem Sys.stay {F : Nat → Fp} (hF : ∀ i, i < n → (F i).b = bs i) {w w' : World} (h : Stay F n w w') : Stay (bsF bs) n w w' := h.fp fun i hi => (hF i hi).symm
theorem Sys.ready (h : Sys B w0 c n M bs C g w) (hb : Bd B M) {i : Nat} (hi : i < n) (hu : (C.p i).up = true) : Ready M M B C i := by
  have hi' : i < C.n := by rw [h.cn]; exact hi
  have u := h.inv.up i hi' hu
  exact ⟨hi', hu, u.st, u.id, u.many, h.lim.up i hi' hu, h.w200, hb.1, by have := hb.1; omega, hb.2⟩
theorem Next.trans {M1 : Nat} {C1 : cl.Clu} {g1 : cl.Gh} {w1 w2 : World} (hl : cl.Le C.sts g C1.sts g1) (hs : Stay (bsF bs) n w w1) (h : Next B w0 c n M1 bs C1 g1 w1 w2) : Next B w0 c n M1 bs C g w w2 := by
  obtain ⟨C2, g2, k1, k2, k3⟩ := h
  exact ⟨C2, g2, k1, hl.trans k2, hs.trans k3⟩
theorem last_len (l : List rf.Msg) : (cl.last l).length ≤ 200 := by
  unfold cl.last
  rw [List.length_drop]; omega
/-- a turn of one node -/
theorem turned_next {C0 : cl.Clu} {R k i : Nat} {F : Nat → Fp} {x : rf.Node} {ms : List rf.Msg} {z : Int} {M' : Nat} {w' : World} (hn : C.n = n) (hn0 : C0.n = n) (hF : ∀ i, i < n → (F i).b = bs i) (hi : i < n) (hI : cl.Inv C0 g) (hL : cl.Lim M M C) (hM : M ≤ M') (h200 : C.way.length ≤ 200)
    (hOn : ∀ C', cl.After C i x ms C' → cl.Onward C0 C') (hb : cl.BothLim M' M' (x, ms)) (h : Turned B w0 c R C F k i x ms z w w') : Next B w0 c n M' bs C0 g w w' := by
  obtain ⟨C', F', wv', h1, ⟨hfp, ho⟩, h3⟩ := h
  have hA : cl.After C i x ms C' ∧ C'.way.length ≤ 200 := by
    rcases ho with ⟨_, e⟩ | ⟨_, _, s, hs, e⟩
    · rw [e]; exact ⟨.ok, last_len _⟩
    · rcases hs with hs | hs
      · rw [e, hs]; exact ⟨.old _, h200⟩
      · rw [e, hs]; exact ⟨.new _, h200⟩
  obtain ⟨hnn, hon⟩ := hOn C' hA.1
  obtain ⟨g', hI', hle⟩ := hon g hI
  refine ⟨C', g', ⟨hnn.trans hn0, hA.1.lim hL hM hM hb, hI', hA.2, R, k, F', wv', h1, fun j hj => ?_⟩, hle, ?_⟩
  · by_cases hji : j = i
    · subst hji; rw [hfp.b]; exact hF _ hj
    · rw [hfp.other _ hji]; exact hF _ hj
  · rw [hn] at h3; exact Sys.stay hF h3
theorem tick_next {i : Nat} (h : Sys B w0 c n M bs C g w) (hb : Bd B M) (ht : TabAt w0) (hi : i < n) :
    Calls Tryz.prog 26 #[cptr c, .int .i64 (i : Int)] w fun e w' => ∃ z : Int, e = .returned (.int .i64 z) ∧ Next B w0 c n (M + 1) bs C g w w' := by
  obtain ⟨R, k, F, wv, h1, hF⟩ := h.at_
  have hi' : i < C.n := by rw [h.cn]; exact hi
  cases hu : (C.p i).up with
  | true =>
    have rd := h.ready hb hi hu
    refine (tick_up h1 rd ht).mono ?_
    rintro e w' ⟨z, rfl, hT⟩
    have hid := rd.id
    have h7 := h1.n7
    exact ⟨z, rfl, turned_next h.cn h.cn hF hi h.inv h.lim (Nat.le_succ M) h.w200 (fun C' hA => cl.onward_tick h.lim rd.hK h7 hi' hu hA) (cl.tick_lim rd.hK rd.lim (by omega) (by omega)) hT⟩
  | false =>
    refine (tick_no h1 (fun fv w hw => on_down fv hw hi' hu)).mono ?_
    rintro e w' ⟨rfl, hb'⟩
    exact ⟨6, rfl, h.same (Nat.le_succ M) hb'⟩
theorem deliver_next {j : Nat} (h : Sys B w0 c n M bs C g w) (hb : Bd B M) (ht : TabAt w0) :
    Calls Tryz.prog 30 #[cptr c, .int .i64 (j : Int)] w fun e w' => ∃ z : Int, e = .returned (.int .i64 z) ∧ Next B w0 c n M bs C g w w' := by
  obtain ⟨R, k, F, wv, h1, hF⟩ := h.at_
  by_cases hj : j < C.way.length
  · have hm : C.way[j]? = some C.way[j] := List.getElem?_eq_getElem hj
    obtain ⟨m, hmm⟩ : ∃ m, C.way[j] = m := ⟨_, rfl⟩
    rw [hmm] at hm
    have hmem : m ∈ C.way := List.mem_of_getElem? hm
    obtain ⟨_, d, _, hd, _, hdn, _⟩ := (h.inv.way m hmem).dom
    have hwe : ∀ m ∈ cl.off C.way j, m ∈ C.way := fun m hm => cl.off_mem hm
    have hoff : (cl.off C.way j).length ≤ 200 := by have := cl.off_len hj; have := h.w200; omega
    cases hu : (C.p d).up with
    | true =>
      have hdn2 : d < n := by rw [← h.cn]; exact hdn
      have rd := h.ready hb hdn2 hu
      have hml := h.lim.way m hmem
      refine (deliver_up h1 hm hd rd ht hml).mono ?_
      rintro e w' ⟨z, rfl, hT⟩
      exact ⟨z, rfl, turned_next (C := { C with way := cl.off C.way j }) h.cn h.cn hF hdn2 h.inv (cl.lim_way h.lim hwe) (Nat.le_refl M) hoff (fun C' hA => cl.onward_step h1.n7 hdn hu hmem hwe hA) (cl.step_lim (by have := hb.1; omega) rd.lim hml) hT⟩
    | false =>
      refine (deliver_down h1 hm hd hdn hu (by have := h.w200; omega)).mono ?_
      rintro e w' ⟨rfl, wv', h2, h3⟩
      obtain ⟨g', hI', hle⟩ := (cl.onward_way (w := cl.off C.way j) hwe).2 g h.inv
      rw [h.cn] at h3
      exact ⟨6, rfl, { C with way := cl.off C.way j }, g', ⟨h.cn, cl.lim_way h.lim hwe, hI', hoff, R, k, F, wv', h2, hF⟩, hle, Sys.stay hF h3⟩
  · refine (deliver_no h1 (by omega)).mono ?_
    rintro e w' ⟨rfl, hb'⟩
    exact ⟨1, rfl, h.same (Nat.le_refl M) hb'⟩
theorem drop_next {j : Nat} (h : Sys B w0 c n M bs C g w) :
    Calls Tryz.prog 29 #[cptr c, .int .i64 (j : Int)] w fun e w' => ∃ z : Int, e = .returned (.int .i64 z) ∧ Next B w0 c n M bs C g w w' := by
  obtain ⟨R, k, F, wv, h1, hF⟩ := h.at_
  by_cases hj : j < C.way.length
  · have hwe : ∀ m ∈ cl.off C.way j, m ∈ C.way := fun m hm => cl.off_mem hm
    refine (drop_yes h1 hj (by have := h.w200; omega)).mono ?_
    rintro e w' ⟨rfl, wv', h2, h3⟩
    obtain ⟨g', hI', hle⟩ := (cl.onward_way (w := cl.off C.way j) hwe).2 g h.inv
    rw [h.cn] at h3
    exact ⟨0, rfl, { C with way := cl.off C.way j }, g', ⟨h.cn, cl.lim_way h.lim hwe, hI', by have := cl.off_len hj; have := h.w200; show (cl.off C.way j).length ≤ 200; omega, R, k, F, wv', h2, hF⟩, hle, Sys.stay hF h3⟩
  · refine (drop_no h1 (by omega)).mono ?_
    rintro e w' ⟨rfl, hb'⟩
    exact ⟨1, rfl, h.same (Nat.le_refl M) hb'⟩
theorem double_next {j : Nat} (h : Sys B w0 c n M bs C g w) :
    Calls Tryz.prog 28 #[cptr c, .int .i64 (j : Int)] w fun e w' => ∃ z : Int, e = .returned (.int .i64 z) ∧ Next B w0 c n M bs C g w w' := by
  obtain ⟨R, k, F, wv, h1, hF⟩ := h.at_
  by_cases hj : j < C.way.length
  · have hm : C.way[j]? = some C.way[j] := List.getElem?_eq_getElem hj
    obtain ⟨m, hmm⟩ : ∃ m, C.way[j] = m := ⟨_, rfl⟩
    rw [hmm] at hm
    have hmem : m ∈ C.way := List.mem_of_getElem? hm
    have hwe : ∀ y ∈ cl.last (C.way ++ [m]), y ∈ C.way := fun y hy => by
      rcases List.mem_append.1 (cl.mem_last hy) with h1 | h1
      · exact h1
      · rw [List.mem_singleton.1 h1]; exact hmem
    refine (double_yes h1 hm (by have := h.w200; omega)).mono ?_
    rintro e w' ⟨rfl, wv', h2, h3⟩
    obtain ⟨g', hI', hle⟩ := (cl.onward_way (w := cl.last (C.way ++ [m])) hwe).2 g h.inv
    rw [h.cn] at h3
    exact ⟨0, rfl, { C with way := cl.last (C.way ++ [m]) }, g', ⟨h.cn, cl.lim_way h.lim hwe, hI', last_len _, R, k, F, wv', h2, hF⟩, hle, Sys.stay hF h3⟩
  · refine (double_no h1 (by omega)).mono ?_
    rintro e w' ⟨rfl, rfl⟩
    exact ⟨1, rfl, h.same (Nat.le_refl M) (Below.refl _ _)⟩
theorem propose_next {i : Nat} (text : List UInt8) (htx : text.length ≤ 100) (h : Sys B w0 c n M bs C g w) (hb : Bd B M) (ht : TabAt w0) (hi : i < n) :
    Calls Tryz.prog 13 #[cptr c, .int .i64 (i : Int), .string (crcm.mk text)] w fun e w' => ∃ v z : Int, e = .returned (.tuple #[.int .u64 v, .int .i64 z]) ∧ Next B w0 c n (M + 1) bs C g w w' := by
  obtain ⟨R, k, F, wv, h1, hF⟩ := h.at_
  have hi' : i < C.n := by rw [h.cn]; exact hi
  cases hu : (C.p i).up with
  | true =>
    have rd := h.ready hb hi hu
    by_cases hr : (C.p i).x.role = 2
    · refine (propose_led text htx h1 rd ht hr).mono ?_
      rintro e w' ⟨z, rfl, hT⟩
      have hlm := cl.propose_lim (by have := hb.1; omega) rd.lim htx
      exact ⟨_, z, rfl, turned_next h.cn h.cn hF hi h.inv h.lim (Nat.le_succ M) h.w200 (fun C' hA => cl.onward_propose h1.n7 hi' hu hA) ⟨hlm.1.mono (Nat.le_refl _) (Nat.le_succ _), fun m hm => (hlm.2 m hm).mono (Nat.le_refl _) (Nat.le_succ _)⟩ hT⟩
    · refine (propose_not text htx h1 rd ht hr).mono ?_
      rintro e w' ⟨rfl, hb'⟩
      exact ⟨0, 170, rfl, h.same (Nat.le_succ M) hb'⟩
  | false =>
    refine (propose_no (by decide) text h1 (fun fv w hw => on_down fv hw hi' hu)).mono ?_
    rintro e w' ⟨rfl, hb'⟩
    exact ⟨0, 6, rfl, h.same (Nat.le_succ M) hb'⟩
theorem upd_b {F : Nat → Fp} {i : Nat} {f : Fp} (hF : ∀ i, i < n → (F i).b = bs i) (e : f.b = (F i).b) : ∀ j, j < n → (cl.upd F i f j).b = bs j := fun j hj => by
  by_cases hji : j = i
  · subst hji; rw [cl.upd_same, e]; exact hF _ hj
  · rw [cl.upd_other _ _ hji]; exact hF _ hj
theorem fell_next {R k i : Nat} {F : Nat → Fp} {wv : Value} {keep : Int} {w' : World} (h : Sys B w0 c n M bs C g w) (hF : ∀ i, i < n → (F i).b = bs i) (hf : Fell B w0 c R C F k wv i keep w w') : Next B w0 c n M bs C g w w' := by
  obtain ⟨g', hI', hle⟩ := (cl.onward_fall (C := C) (i := i) zeroN).2 g h.inv
  have h3 := hf.2
  rw [h.cn] at h3
  exact ⟨cl.fallen C i (C.p i).s zeroN, g', ⟨h.cn, cl.lim_fall h.lim _, hI', h.w200, R, k, _, wv, hf.1, upd_b hF rfl⟩, hle, Sys.stay hF h3⟩
theorem crash_next {i : Nat} (keep : Int) (h : Sys B w0 c n M bs C g w) (hi : i < n) :
    Calls Tryz.prog 23 #[cptr c, .int .i64 (i : Int), .int .i64 keep] w fun e w' => ∃ z : Int, e = .returned (.int .i64 z) ∧ Next B w0 c n M bs C g w w' := by
  obtain ⟨R, k, F, wv, h1, hF⟩ := h.at_
  have hi' : i < C.n := by rw [h.cn]; exact hi
  cases hu : (C.p i).up with
  | true =>
    refine (crash_up keep h1 hi' hu).mono ?_
    rintro e w' ⟨rfl, hf⟩
    exact ⟨0, rfl, fell_next h hF hf⟩
  | false =>
    refine (crash_no keep h1 (fun fv w hw => on_down fv hw hi' hu)).mono ?_
    rintro e w' ⟨rfl, hb'⟩
    exact ⟨6, rfl, h.same (Nat.le_refl M) hb'⟩
theorem fuse_next {i : Nat} (m keep : Int) (hm : m ≤ 9223372036854775807) (h : Sys B w0 c n M bs C g w) (hi : i < n) :
    Calls Tryz.prog 21 #[cptr c, .int .i64 (i : Int), .int .i64 m, .int .i64 keep] w fun e w' => ∃ z : Int, e = .returned (.int .i64 z) ∧ Next B w0 c n M bs C g w w' := by
  obtain ⟨R, k, F, wv, h1, hF⟩ := h.at_
  have hi' : i < C.n := by rw [h.cn]; exact hi
  cases hu : (C.p i).up with
  | true =>
    refine (fuse_up m keep h1 hi' hu hm).mono ?_
    rintro e w' ⟨rfl, hf⟩
    have h3 := hf.2
    rw [h.cn] at h3
    exact ⟨0, rfl, C, g, ⟨h.cn, h.lim, h.inv, h.w200, R, k, _, wv, hf.1, upd_b hF rfl⟩, cl.Le.refl _ _, Sys.stay hF h3⟩
  | false =>
    refine (fuse_no m keep h1 (fun fv w hw => on_down fv hw hi' hu)).mono ?_
    rintro e w' ⟨rfl, hb'⟩
    exact ⟨6, rfl, h.same (Nat.le_refl M) hb'⟩
theorem start_next {i : Nat} (h : Sys B w0 c n M bs C g w) (ht : TabAt w0) (hi : i < n) :
    Calls Tryz.prog 22 #[cptr c, .int .i64 (i : Int)] w fun e w' => ∃ z : Int, e = .returned (.int .i64 z) ∧ Next B w0 c n M bs C g w w' := by
  obtain ⟨R, k, F, wv, h1, hF⟩ := h.at_
  have hi' : i < C.n := by rw [h.cn]; exact hi
  cases hu : (C.p i).up with
  | true =>
    refine (start_up h1 hi' hu).mono ?_
    rintro e w' ⟨rfl, hb'⟩
    exact ⟨5, rfl, h.same (Nat.le_refl M) hb'⟩
  | false =>
    refine (start_yes h1 hi' hu ht).mono ?_
    rintro e w' ⟨rfl, F', h2, hfp, _, h3⟩
    obtain ⟨g', hI', hle⟩ := (cl.onward_start (C := C) (i := i)).2 g h.inv
    rw [h.cn] at h3
    refine ⟨0, rfl, cl.started C i, g', ⟨h.cn, cl.lim_start h.lim hi', hI', h.w200, R, k, F', wv, h2, fun j hj => ?_⟩, hle, Sys.stay hF h3⟩
    by_cases hji : j = i
    · subst hji; rw [hfp.b]; exact hF _ hj
    · rw [hfp.other _ hji]; exact hF _ hj
theorem round_next (h : Sys B w0 c n M bs C g w) (hb : Bd B (M + n)) (ht : TabAt w0) :
    Calls Tryz.prog 12 #[cptr c] w fun e w' => e = .returned (.tuple #[]) ∧ Next B w0 c n (M + n) bs C g w w' := by
  obtain ⟨R, k, F, wv, h1, hF⟩ := h.at_
  have c0 := h1.c0
  rw [h.cn] at c0
  have h7 := h1.n7
  rw [h.cn] at h7
  have hbm : ∀ j, j ≤ n → Bd B (M + j) := fun j hj => ⟨by have := hb.1; omega, by have := hb.2; have : 206 * (M + j + 2) ≤ 206 * (M + n + 2) := Nat.mul_le_mul_left _ (by omega); omega⟩
  refine round_any (fun j w' => Next B w0 c n (M + j) bs C g w w') (fun _ w' => Next B w0 c n (M + n) bs C g w w') (fun w' => Next B w0 c n (M + n) bs C g w w') h7 c0 (h.same (Nat.le_refl _) (Below.refl _ _)) (fun j w1 hj hT => ?_) (fun _ hT => hT) (fun j w1 hj hT => ?_) (fun _ hT => hT)
  · obtain ⟨C1, g1, s1, l1, t1⟩ := hT
    refine (tick_next s1 (hbm j (by omega)) ht hj).mono ?_
    rintro e w2 ⟨z, rfl, hN⟩
    exact ⟨z, rfl, Next.trans l1 t1 hN⟩
  · obtain ⟨C1, g1, s1, l1, t1⟩ := hT
    refine (deliver_next (j := 0) s1 hb ht).mono ?_
    rintro e w2 ⟨z, rfl, hN⟩
    exact ⟨z, rfl, fun _ => Next.trans l1 t1 hN, fun _ => Next.trans l1 t1 hN⟩
end
end Go.Proofs.YtmcibggjolckoaaGreatDoor
