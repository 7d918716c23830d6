/- law17's RaftPure: walked. -/
import Derived.Test.YtkoidphhlfjlhaaRfShown17
import Derived.Test.YtkoidphhlfjlhaaRfBounds
namespace Go.Proofs.Ytkoidphhlfjlhaa
open Go Go.RowKit Go.Deep
set_option maxRecDepth 100000

/-- what a call told is laid into a new variable -/
theorem NBox.laid {w : World} {n : rf.Node} {A : Option Addr} {c : Nat} (he : Ents w (.slice A n.log.length c) n.log) (ok : NOk n) :
    NBox ((w.alloc (.cells #[.int .i64 0, .int .i64 0, .int .u64 0, .int .i64 0, .slice none 0 0, .int .i64 0, .int .i64 0, .int .u64 0, .int .i64 0, .bool false, .bool false, .bool false, .bool false, .bool false, .bool false, .bool false, .int .u64 0, .int .u64 0, .int .u64 0, .int .u64 0, .int .u64 0, .int .u64 0, .int .u64 0, .int .u64 0, .int .u64 0, .int .u64 0, .int .u64 0, .int .u64 0, .int .u64 0, .int .u64 0] 33)).setRow w.heap.size (ndC n (.slice A n.log.length c)).toArray) w.heap.size n A c ∧ Below w.heap.size w ((w.alloc (.cells #[.int .i64 0, .int .i64 0, .int .u64 0, .int .i64 0, .slice none 0 0, .int .i64 0, .int .i64 0, .int .u64 0, .int .i64 0, .bool false, .bool false, .bool false, .bool false, .bool false, .bool false, .bool false, .int .u64 0, .int .u64 0, .int .u64 0, .int .u64 0, .int .u64 0, .int .u64 0, .int .u64 0, .int .u64 0, .int .u64 0, .int .u64 0, .int .u64 0, .int .u64 0, .int .u64 0, .int .u64 0] 33)).setRow w.heap.size (ndC n (.slice A n.log.length c)).toArray) :=
  ⟨NBox.fill (Blk.new w (ndC zeroN nilV) _) (ndC_no zeroN none 0 0) (he.below ((Below.refl _ w).alloc (Nat.le_refl _) _)) ok, ((Below.refl _ w).alloc (Nat.le_refl _) _).trans (below_setRow _ _ _ (Nat.le_refl _))⟩
/-- the document's node in a variable -/
structure RBox (w : World) (g : Nat) (n : rf.Node) (A : Option Addr) (c : Nat) : Prop where
  blk : Blk w g (ndC n (.slice A n.log.length c)) 44
  ents : Ents w (.slice A n.log.length c) n.log
theorem RBox.later {w w' : World} {g : Nat} {n : rf.Node} {A : Option Addr} {c : Nat} (h : RBox w g n A c) (hb : Below w.heap.size w w') : RBox w' g n A c := ⟨h.blk.below hb, h.ents.below hb⟩
theorem RBox.laid {w : World} {n : rf.Node} {A : Option Addr} {c : Nat} (he : Ents w (.slice A n.log.length c) n.log) :
    RBox ((w.alloc (.cells #[.int .i64 0, .int .i64 0, .int .u64 0, .int .i64 0, .slice none 0 0, .int .i64 0, .int .i64 0, .int .u64 0, .int .i64 0, .bool false, .bool false, .bool false, .bool false, .bool false, .bool false, .bool false, .int .u64 0, .int .u64 0, .int .u64 0, .int .u64 0, .int .u64 0, .int .u64 0, .int .u64 0, .int .u64 0, .int .u64 0, .int .u64 0, .int .u64 0, .int .u64 0, .int .u64 0, .int .u64 0] 44)).setRow w.heap.size (ndC n (.slice A n.log.length c)).toArray) w.heap.size n A c ∧ Below w.heap.size w ((w.alloc (.cells #[.int .i64 0, .int .i64 0, .int .u64 0, .int .i64 0, .slice none 0 0, .int .i64 0, .int .i64 0, .int .u64 0, .int .i64 0, .bool false, .bool false, .bool false, .bool false, .bool false, .bool false, .bool false, .int .u64 0, .int .u64 0, .int .u64 0, .int .u64 0, .int .u64 0, .int .u64 0, .int .u64 0, .int .u64 0, .int .u64 0, .int .u64 0, .int .u64 0, .int .u64 0, .int .u64 0, .int .u64 0] 44)).setRow w.heap.size (ndC n (.slice A n.log.length c)).toArray) :=
  ⟨⟨(Blk.new w (ndC zeroN nilV) _).row _, (he.below ((Below.refl _ w).alloc (Nat.le_refl _) _)).farRow (Blk.new w (ndC zeroN nilV) _) (ndC_no zeroN none 0 0)⟩, ((Below.refl _ w).alloc (Nat.le_refl _) _).trans (below_setRow _ _ _ (Nat.le_refl _))⟩
theorem blk_range {w : World} {g : Nat} {vs : List Value} {t : TypeId} (h : Blk w g vs t) : w.rangeAt g 0 vs := fun j v hv => by
  rw [Nat.zero_add]
  exact h.cell j v hv
/-- what a step of a node told -/
def Told (w : World) (n : rf.Node) (ms : List rf.Msg) (e : Ending) (w' : World) : Prop :=
  ∃ A c B d, e = .returned (.tuple #[.agg (ndC n (.slice A n.log.length c)).toArray, .slice B ms.length d]) ∧ Ents w' (.slice A n.log.length c) n.log ∧ MsgsIn w' (.slice B ms.length d) ms ∧ NOk n ∧ Below w.heap.size w w'
theorem step_told (n : rf.Node) (m : rf.Msg) (A : Option Addr) (c : Nat) (A2 : Option Addr) (k2 c2 : Nat) (w : World) (hE : Ents w (.slice A n.log.length c) n.log) (hE2 : Ents w (.slice A2 k2 c2) m.ents) (ok : NOk n) (hm0 : 0 ≤ n.many) (hid : 0 ≤ n.id) (hid7 : n.id < 7) (hlog : n.log.length ≤ 9990) (hml : m.ents.length ≤ 10000) (hix : m.index < 18446744073709551616) :
    Calls Try.prog 10 #[.agg (ndC n (.slice A n.log.length c)).toArray, .agg (msgC m (.slice A2 k2 c2)).toArray] w fun e w' => Told w (rf.step n m).1 (rf.step n m).2 e w' := by
  refine (step_any n m A c A2 k2 c2 w hE hE2 ok hm0 hid hid7 hlog hml hix).mono ?_
  rintro e w' ⟨nv, sv, rfl, A6, c6, B6, d6, rfl, rfl, he6, hs6, ok6, hb6⟩
  exact ⟨A6, c6, B6, d6, rfl, he6.1, hs6.msgs, ok6, hb6⟩
theorem tick_told (n : rf.Node) (A : Option Addr) (c : Nat) (w : World) (hE : Ents w (.slice A n.log.length c) n.log) (ok : NOk n) (hm0 : 0 ≤ n.many) (hid : 0 ≤ n.id) (hid7 : n.id < 7) (hi0 : 0 ≤ n.idle) (hi1 : n.idle ≤ 1000000) (hlog : n.log.length ≤ 9990) :
    Calls Try.prog 8 #[.agg (ndC n (.slice A n.log.length c)).toArray] w fun e w' => Told w (rf.tick n).1 (rf.tick n).2 e w' := by
  refine (tick_any n A c w hE ok hm0 hid hid7 hi0 hi1 hlog).mono ?_
  rintro e w' ⟨nv, sv, rfl, A6, c6, B6, d6, rfl, rfl, he6, hs6, ok6, hb6⟩
  exact ⟨A6, c6, B6, d6, rfl, he6.1, hs6.msgs, ok6, hb6⟩
theorem its_told (n : rf.Node) (ok : NOk n) (hl : n.log.length ≤ 10000) (w : World) (A : Option Addr) (c : Nat) (hv : Ents w (.slice A n.log.length c) n.log) :
    Calls Try.prog 9 #[.agg (ndC n (.slice A n.log.length c)).toArray] w fun e w' => ∃ A2 c2, e = .returned (.agg (ndC n (.slice A2 n.log.length c2)).toArray) ∧ Ents w' (.slice A2 n.log.length c2) n.log ∧ Below w.heap.size w w' :=
  its_any n A c w hv ok hl
theorem same_told (n : rf.Node) (ok : NOk n) (hl : n.log.length ≤ 10000) (w : World) (A A2 : Option Addr) (c c2 : Nat) (hu : Ents w (.slice A n.log.length c) n.log) (hv : Ents w (.slice A2 n.log.length c2) n.log) :
    Calls Try.prog 11 #[.agg (ndC n (.slice A n.log.length c)).toArray, .agg (ndC n (.slice A2 n.log.length c2)).toArray] w fun e w' => e = .returned (.bool true) ∧ Below w.heap.size w w' :=
  same17_self n A A2 n.log.length c c2 w hu hv ok hl
theorem msgs_told (ms : List rf.Msg) (hl : ms.length ≤ 1000) (hall : Small ms) (w : World) (A : Option Addr) (c : Nat) (hv : MsgsIn w (.slice A ms.length c) ms) :
    Calls Try.prog 13 #[.slice A ms.length c] w fun e w' => ∃ A c, e = .returned (.slice A ms.length c) ∧ MsgsIn w' (.slice A ms.length c) ms ∧ Below w.heap.size w w' :=
  msgs_any _ ms w hv hl hall
theorem samemsgs_told (ms : List rf.Msg) (hl : ms.length ≤ 1000) (hall : Small ms) (w : World) (A A' : Option Addr) (c c' : Nat) (hv : MsgsIn w (.slice A ms.length c) ms) (hv2 : MsgsIn w (.slice A' ms.length c') ms) :
    Calls Try.prog 12 #[.slice A ms.length c, .slice A' ms.length c'] w fun e w' => e = .returned (.bool true) ∧ Below w.heap.size w w' :=
  samemsgs_self A A' c c' ms.length ms w hv hv2 rfl hl hall
set_option maxHeartbeats 8000000 in
theorem pure_any (T : Nat) (V : Int) (u mu : Value) (ls : List rl.Ent) (m : rf.Msg) (k : Nat) (w : World) (hE : Ents w u ls) (hF : Fine ls) (hE2 : Ents w mu m.ents) (hF2 : Fine m.ents) (hix : m.index < 18446744073709551616) (hk : k < 256) :
    Calls Try.prog 3 #[stV T V u, msgV m mu, .int .u8 (k : Int)] w fun e w' => e = .returned (.bool true) ∧ Below w.heap.size w w' := by
  obtain ⟨A, c, rfl, hc1, hc2, hc3⟩ := id hE
  obtain ⟨A2, c2, rfl, hd1, hd2, hd3⟩ := id hE2
  clear hc1 hc2 hc3 hd1 hd2 hd3
  obtain ⟨X, bs, hX, hbs, hbX, ks⟩ := box_blk w [.int .u64 (T : Int), .int .i64 V, .slice A ls.length c] 25
  obtain ⟨Y, bm, hY, hbm, hbY, km⟩ := box_blk X (msgC m (.slice A2 m.ents.length c2)) 27
  obtain rfl : bm = bs + 1 := by rw [← hbm, ← hX, ← hbs]; simp
  have hXY := hbX.trans (hbY.mono hbX.size)
  have ksY := ks.below hbY
  have hB1 := fun W (hb : Below w.heap.size w W) => bounded_any (.slice A ls.length c) ls W (hE.below hb) hF
  have hB2 := fun W (hb : Below w.heap.size w W) => bounded_any (.slice A2 m.ents.length c2) m.ents W (hE2.below hb) hF2
  obtain ⟨b1, hb1⟩ : ∃ b, okEnts ls = b := ⟨_, rfl⟩
  obtain ⟨b2, hb2⟩ : ∃ b, okEnts m.ents = b := ⟨_, rfl⟩
  have hn40 : b1 = true → ls.length ≤ 40 := fun h => by
    rw [← hb1] at h
    unfold okEnts at h
    simp at h
    exact h.1
  have hm40 : b2 = true → m.ents.length ≤ 40 := fun h => by
    rw [← hb2] at h
    unfold okEnts at h
    simp at h
    exact h.1
  rw [hb1] at hB1
  rw [hb2] at hB2
  obtain ⟨L, hL⟩ : ∃ L, ls.length = L := ⟨_, rfl⟩
  obtain ⟨L2, hL2⟩ : ∃ L, m.ents.length = L := ⟨_, rfl⟩
  have hEY := hE.below hXY
  have hE2Y := hE2.below hXY
  rw [hL] at hB1 hX ks ksY hn40 hEY ⊢
  rw [hL2] at hB2 hY km hm40 hE2Y ⊢
  have HX : Hid (w.alloc (.cells #[.int .u64 (T : Int), .int .i64 V, .slice A L c] 25) = X) := Lib.hid hX
  have HY : Hid (X.alloc (.cells (msgC m (.slice A2 L2 c2)).toArray 27) = Y) := Lib.hid hY
  have HXY := Lib.hid hXY
  have HKS := Lib.hid ksY
  have HKM := Lib.hid km
  have HB1 := Lib.hid hB1
  have HB2 := Lib.hid hB2
  have HN40 := Lib.hid hn40
  have HM40 := Lib.hid hm40
  have HEY := Lib.hid hEY
  have HE2Y := Lib.hid hE2Y
  have HIX := Lib.hid hix
  have HL := Lib.hid hL
  have HL2 := Lib.hid hL2
  have HBS := Lib.hid hbs
  have s0 := HKS.out.cell 0 _ rfl
  have s1 := HKS.out.cell 1 _ rfl
  have s2 := HKS.out.cell 2 _ rfl
  have m7 := HKM.out.cell 7 _ rfl
  have HS := Lib.hid (And.intro s0 (And.intro s1 (And.intro s2 m7)))
  clear hX hY ks km ksY hbX hbY hXY hB1 hB2 hE hF hE2 hF2 hn40 hm40 hEY hE2Y hix hL hL2 hb1 hb2 hbs hbm s0 s1 s2 m7
  unfold stV msgV
  go_enter Try.func3, Try.ntmps3
  go_upto_region 1 with fail
  rw [HX.out, HY.out, HBS.out]
  obtain ⟨s0, s1, s2, m7⟩ := HS.out
  cases b1
  · go_upto_if 32 with (first | (go_at_call 5; refine (HB1.out _ HXY.out).mono ?_; rintro e w1 ⟨rfl, rfl⟩))
    go_wp2_with (first | (go_at_call 6; refine (shown17_any _).mono ?_; rintro e w1 ⟨rfl, hb1⟩))
    go_ret
    exact ⟨rfl, HXY.out.trans (hb1.mono HXY.out.size)⟩
  cases b2
  · go_upto_if 32 with (first | (go_at_call 5; first | (with_reducible refine (HB1.out _ HXY.out).mono ?_; rintro e w1 ⟨rfl, rfl⟩) | (with_reducible refine (HB2.out _ HXY.out).mono ?_; rintro e w1 ⟨rfl, rfl⟩)))
    go_wp2_with (first | (go_at_call 6; refine (shown17_any _).mono ?_; rintro e w1 ⟨rfl, hb1⟩))
    go_ret
    exact ⟨rfl, HXY.out.trans (hb1.mono HXY.out.size)⟩
  have hl40 := HN40.out rfl
  have hl240 := HM40.out rfl
  go_upto_if 32 with (first | (go_at_call 5; first | (with_reducible refine (HB1.out _ HXY.out).mono ?_; rintro e w1 ⟨rfl, rfl⟩) | (with_reducible refine (HB2.out _ HXY.out).mono ?_; rintro e w1 ⟨rfl, rfl⟩)) | (go_at_call 6; refine (shown17_any _).mono ?_; rintro e w1 ⟨rfl, hb1⟩))
  clear s0 s1 s2 m7 HB1 HB2 HN40 HM40 HS
  have ks1 := HKS.out.below hb1
  have HKM1 := Lib.hid (HKM.out.below hb1)
  have HEY1 := Lib.hid (HEY.out.below hb1)
  have HE2Y1 := Lib.hid (HE2Y.out.below hb1)
  have HB1 := Lib.hid (HXY.out.trans (hb1.mono HXY.out.size))
  have s0 := ks1.cell 0 _ rfl
  have s1 := ks1.cell 1 _ rfl
  have s2 := ks1.cell 2 _ rfl
  obtain ⟨n0, hn0⟩ : ∃ n0, rf.new 1 3 T V ls = n0 := ⟨_, rfl⟩
  have hlog0 : n0.log = ls := by rw [← hn0]; rfl
  have hok0 : NOk n0 := by rw [← hn0]; exact ⟨rfl, rfl, rfl, by intro x hx; simp [rf.new] at hx; omega, by intro x hx; simp [rf.new] at hx; omega⟩
  have hg0 : Good n0 := by rw [← hn0]; exact ⟨by show (0:Int) ≤ 1; decide, by show (1:Int) < 7; decide, by show (0:Int) ≤ 3; decide, by show (0:Int) ≤ 0; decide, by show (0:Int) ≤ 100; decide⟩
  have hnew : ∀ w : World, Calls Try.prog 7 #[.int .i64 1, .int .i64 3, .agg #[.int .u64 (T : Int), .int .i64 V, .slice A L c]] w fun e w' => e = .returned (.tuple #[.agg (ndC n0 (.slice A L c)).toArray, .int .i64 0]) ∧ Below w.heap.size w w' := by
    intro w
    have h := new_any 1 3 T V A c L ls w (by decide) (by decide) (by decide) (by decide)
    rw [hn0] at h
    exact h
  have HN := Lib.hid hnew
  have HLOG0 := Lib.hid hlog0
  have HOK0 := Lib.hid hok0
  have HG0 := Lib.hid hg0
  have HS0 : Hid ((ndC n0 (.slice A L c)).toArray.size = 30) := Lib.hid (by rw [List.size_toArray, ndC_len hok0])
  clear hb1 ks1 HKS HKM HEY HE2Y HXY hnew hlog0 hok0 hg0 hn0
  go_upto_if 40 with (first | (go_at_call 7; refine (HN.out _).mono ?_; rintro e w2 ⟨rfl, hb2⟩; have HZ : Hid (Blk (w2.alloc (.cells #[.int .i64 0, .int .i64 0, .int .u64 0, .int .i64 0, .slice none 0 0, .int .i64 0, .int .i64 0, .int .u64 0, .int .i64 0, .bool false, .bool false, .bool false, .bool false, .bool false, .bool false, .bool false, .int .u64 0, .int .u64 0, .int .u64 0, .int .u64 0, .int .u64 0, .int .u64 0, .int .u64 0, .int .u64 0, .int .u64 0, .int .u64 0, .int .u64 0, .int .u64 0, .int .u64 0, .int .u64 0] 33)) w2.heap.size (ndC zeroN nilV) 33) := Lib.hid (Blk.new w2 _ _)) | (refine wpList_store_row rfl 33 (.tmp 7) (.tmp 37) rfl w2.heap.size _ rfl rfl _ _ HZ.out (by rw [node_size, HS0.out]) (by rw [HS0.out]; rfl) (ndC_one rfl) ?_))
  have hlen0 : n0.log.length = L := by rw [HLOG0.out, HL.out]
  have hx0 := NBox.laid (w := w2) (n := n0) (A := A) (c := c) (by rw [hlen0, HLOG0.out]; exact HEY1.out.below hb2) HOK0.out
  rw [hlen0] at hx0
  obtain ⟨hx0, hb3⟩ := hx0
  have hbz := HB1.out.trans ((hb2.trans (hb3.mono hb2.size)).mono HB1.out.size)
  have hkm2 := (HKM1.out.below hb2).below hb3
  have he22 := (HE2Y1.out.below hb2).below hb3
  obtain ⟨bx, hbx⟩ : ∃ x, w2.heap.size = x := ⟨_, rfl⟩
  obtain ⟨W2, hW2⟩ : ∃ W, (w2.alloc (.cells #[.int .i64 0, .int .i64 0, .int .u64 0, .int .i64 0, .slice none 0 0, .int .i64 0, .int .i64 0, .int .u64 0, .int .i64 0, .bool false, .bool false, .bool false, .bool false, .bool false, .bool false, .bool false, .int .u64 0, .int .u64 0, .int .u64 0, .int .u64 0, .int .u64 0, .int .u64 0, .int .u64 0, .int .u64 0, .int .u64 0, .int .u64 0, .int .u64 0, .int .u64 0, .int .u64 0, .int .u64 0] 33)).setRow w2.heap.size (ndC n0 (.slice A L c)).toArray = W := ⟨_, rfl⟩
  rw [hW2] at hx0 hbz hkm2 he22 ⊢
  rw [hbx] at hx0 ⊢
  have HX0 := Lib.hid hx0
  have HBX : Hid (w.heap.size ≤ bx) := Lib.hid (by rw [← hbx]; exact Nat.le_trans HB1.out.size hb2.size)
  have HNE : Hid (bs + 1 < bx) := Lib.hid (by rw [← hbx]; exact (HKM1.out.below hb2).lt)
  have HB0 := Lib.hid hbz
  have HKM2 := Lib.hid hkm2
  have HE22 := Lib.hid he22
  have HLEN0 := Lib.hid hlen0
  clear hx0 hbz hb2 hb3 HZ hbx hW2 hkm2 he22 hlen0 s0 s1 s2 HKM1 HEY1 HE2Y1 HB1
  obtain ⟨q, hq⟩ : ∃ q, k % 40 = q := ⟨_, rfl⟩
  have hmod : Int.tmod (k : Int) 40 = (q : Int) := by rw [← hq]; exact Int.tmod_eq_emod_of_nonneg (by omega)
  have hq40 : q < 40 := by omega
  have hlog40 : L ≤ 40 := hl40
  have HL240 := Lib.hid hl240
  clear hl40 hl240 hq HX HY
  go_wp2_with fail
  go_loopw [9] (fun i wr => ∃ (j : Nat) (A : Option Addr) (c : Nat), j ≤ q ∧ i = .int .i64 j ∧ NBox wr bx (ticks n0 j) A c ∧ Below w.heap.size w wr ∧ Blk wr (bs + 1) (msgC m (.slice A2 L2 c2)) 27 ∧ Ents wr (.slice A2 L2 c2) m.ents) (fun i _ => q - (intOf i).toNat)
  case atStart => exact ⟨0, A, c, by omega, rfl, HX0.out, HB0.out, HKM2.out, HE22.out⟩
  case round =>
    obtain ⟨j, A3, c3, hj, rfl, hx, hbel, hkm, hem⟩ := hrel
    by_cases hlt : j < q
    · obtain ⟨g1, g2, g3, g4⟩ := ticks_good HG0.out j
      have hlen : (ticks n0 j).log.length ≤ 9990 := by
        have := HLEN0.out
        omega
      have hcall := tick_any (ticks n0 j) A3 c3 wr hx.ents hx.ok g1.m0 g1.id0 g1.id7 g1.i0 (by have := g1.i1; omega) hlen
      have hxb : Blk wr bx (ndC (ticks n0 j) (.slice A3 (ticks n0 j).log.length c3)) 33 := hx.blk
      have hs := size30 hx.ok (.slice A3 (ticks n0 j).log.length c3)
      unfold ndV at hcall
      obtain ⟨N, hN⟩ : ∃ N, ticks n0 j = N := ⟨_, rfl⟩
      have hN2 : (rf.tick N).1 = ticks n0 (j + 1) := by rw [← hN]; rfl
      rw [hN] at hcall hxb hs hx
      obtain ⟨ev, hev⟩ : ∃ ev, Value.slice A3 N.log.length c3 = ev := ⟨_, rfl⟩
      have hno := ndC_no N A3 N.log.length c3
      rw [hev] at hcall hxb hs hno
      have HCL := Lib.hid hcall
      have HXB := Lib.hid hxb
      have HSN := Lib.hid hs
      have HNO := Lib.hid hno
      have HN2 := Lib.hid hN2
      have HBE := Lib.hid hbel
      have HKMR := Lib.hid hkm
      have HEMR := Lib.hid hem
      have hbw : w.heap.size ≤ bx := HBX.out
      clear hcall hxb hs hno hN hN2 hev hx hbel g1 g2 g3 g4 hlen hkm hem
      go_wp2_with (first | (refine wpList_load_row rfl 33 _ rfl bx rfl _ _ _ _ HXB.out Try.underlying33 rfl (by rw [node_size, HSN.out]) ?_) | (go_at_call 8; refine HCL.out.mono ?_; rintro e w6 ⟨nv, sv, rfl, A6, c6, B6, d6, rfl, rfl, he6, hs6, ok6, hb6⟩; rw [HN2.out] at he6 ok6 ⊢; unfold ndV; have HB6 := Lib.hid (HXB.out.below hb6); have HS6 := Lib.hid (size30 ok6 (.slice A6 (ticks n0 (j + 1)).log.length c6))) | (refine wpList_store_row rfl 33 (.tmp 7) (.tmp 51) rfl bx _ rfl rfl _ _ HB6.out (by rw [node_size, HS6.out]) (by rw [HS6.out, HSN.out]) (ndC_one rfl) ?_))
      have hfill := NBox.fill (n := ticks n0 (j + 1)) (A := A6) (c := c6) HB6.out HNO.out he6.1 ok6
      have hb7 : Below w.heap.size w (w6.setRow bx (ndC (ticks n0 (j + 1)) (.slice A6 (ticks n0 (j + 1)).log.length c6)).toArray) := (HBE.out.trans (hb6.mono HBE.out.size)).trans (below_setRow _ _ _ hbw)
      have hkm7 := (setRow_apart w6 bx (ndC (ticks n0 (j + 1)) (.slice A6 (ticks n0 (j + 1)).log.length c6)).toArray (bs + 1) (Nat.ne_of_lt HNE.out)).trans (HKMR.out.below hb6)
      have hem7 := (HEMR.out.below hb6).farRow (us := ndC (ticks n0 (j + 1)) (.slice A6 (ticks n0 (j + 1)).log.length c6)) HB6.out HNO.out
      have HF := Lib.hid hfill
      have HB7 := Lib.hid hb7
      have HKM7 := Lib.hid hkm7
      have HEM7 := Lib.hid hem7
      clear hfill hb7 he6 hs6 ok6 hb6 hkm7 hem7
      go_wp2_with fail
      go_roundw
      case rel => exact ⟨j + 1, A6, c6, by omega, by go_num, HF.out, HB7.out, HKM7.out, HEM7.out⟩
      case measure => simp [intOf]; omega
    · obtain rfl : j = q := by omega
      obtain ⟨g1, g2, g3, g4⟩ := ticks_good HG0.out j
      have hlen : (ticks n0 j).log.length ≤ 80 := by have := HLEN0.out; omega
      obtain ⟨N, hN⟩ : ∃ N, ticks n0 j = N := ⟨_, rfl⟩
      rw [hN] at hx g1 hlen
      obtain ⟨N1, hN1⟩ : ∃ x, (rf.step N m).1 = x := ⟨_, rfl⟩
      obtain ⟨M1, hM1⟩ : ∃ x, (rf.step N m).2 = x := ⟨_, rfl⟩
      obtain ⟨N2, hN2⟩ : ∃ x, (rf.tick N).1 = x := ⟨_, rfl⟩
      obtain ⟨M2, hM2⟩ : ∃ x, (rf.tick N).2 = x := ⟨_, rfl⟩
      have hl2 := HL2.out
      have hl240 := HL240.out
      have hsm := step_small N m
      have hst2 := tick_small g1.id0 g1.id7
      have hst3 := (tick_good g1).2.2.2
      rw [hM1, hN1] at hsm
      rw [hM2] at hst2
      rw [hN2] at hst3
      have hstep := fun W (hb : Below wr.heap.size wr W) => step_told N m A3 c3 A2 L2 c2 W (hx.ents.below hb) (hem.below hb) hx.ok g1.m0 g1.id0 g1.id7 (by omega) (by omega) HIX.out
      have htick := fun W (hb : Below wr.heap.size wr W) => tick_told N A3 c3 W (hx.ents.below hb) hx.ok g1.m0 g1.id0 g1.id7 g1.i0 (by have := g1.i1; omega) (by omega)
      rw [hN1, hM1] at hstep
      rw [hN2, hM2] at htick
      have HSTEP := Lib.hid hstep
      have HTICK := Lib.hid htick
      have HITN := Lib.hid (its_told N hx.ok (by omega))
      have HIT1 := Lib.hid (fun ok => its_told N1 ok (by omega))
      have HIT2 := Lib.hid (fun ok => its_told N2 ok (by omega))
      have HSMN := Lib.hid (same_told N hx.ok (by omega))
      have HSM1 := Lib.hid (fun ok => same_told N1 ok (by omega))
      have HSM2 := Lib.hid (fun ok => same_told N2 ok (by omega))
      have HMS1 := Lib.hid (msgs_told M1 (by omega) hsm.1)
      have HMS2 := Lib.hid (msgs_told M2 (by omega) hst2.1)
      have HSS1 := Lib.hid (samemsgs_told M1 (by omega) hsm.1)
      have HSS2 := Lib.hid (samemsgs_told M2 (by omega) hst2.1)
      have HOKN := Lib.hid hx.ok
      have HSN := Lib.hid (size30 hx.ok (.slice A3 N.log.length c3))
      have HX := Lib.hid hx
      have HKM := Lib.hid hkm
      have HBE := Lib.hid hbel
      have HBW : Hid (Below wr.heap.size wr wr) := Lib.hid (Below.refl _ _)
      have HSM : Hid ((msgC m (.slice A2 L2 c2)).toArray.size = 9) := Lib.hid rfl
      clear g1 g2 g3 g4 hlen hN hN1 hM1 hN2 hM2 hl2 hl240 hsm hst2 hst3 hstep htick hx hkm hbel hem HX0 HBX HNE HB0 HKM2 HE22 HLEN0 HN HLOG0 HOK0 HG0 HS0 HIX HL HL2 HBS HL240 hlog40 hq40 hj
      go_upto_region 11 with (first | (refine wpList_load_row rfl 33 _ rfl bx rfl _ _ _ _ HX.out.blk Try.underlying33 rfl (by rw [node_size, HSN.out]) ?_) | (go_at_call 9; refine (HITN.out _ _ _ HX.out.ents).mono ?_; rintro e w6 ⟨Ab1, cb1, rfl, he6, hb6⟩; have HZ : Hid (Blk (w6.alloc (.cells #[.int .i64 0, .int .i64 0, .int .u64 0, .int .i64 0, .slice none 0 0, .int .i64 0, .int .i64 0, .int .u64 0, .int .i64 0, .bool false, .bool false, .bool false, .bool false, .bool false, .bool false, .bool false, .int .u64 0, .int .u64 0, .int .u64 0, .int .u64 0, .int .u64 0, .int .u64 0, .int .u64 0, .int .u64 0, .int .u64 0, .int .u64 0, .int .u64 0, .int .u64 0, .int .u64 0, .int .u64 0] 44)) w6.heap.size (ndC zeroN nilV) 44) := Lib.hid (Blk.new w6 _ _); have HS6 := Lib.hid (size30 HOKN.out (.slice Ab1 N.log.length cb1))) | (refine wpList_store_row rfl 44 (.tmp 10) (.tmp 54) rfl w6.heap.size _ rfl rfl _ _ HZ.out (by rw [rnode_size, HS6.out]) (by rw [HS6.out]; rfl) (ndC_one rfl) ?_))
      obtain ⟨hx6, hbL⟩ := RBox.laid (n := N) he6
      have hbq := hb6.trans (hbL.mono hb6.size)
      have hbW := HBW.out.trans (hbq.mono HBW.out.size)
      have kHX := HX.out.later hbq
      have kHKM := HKM.out.below hbq
      obtain ⟨b1, hb1⟩ : ∃ x, w6.heap.size = x := ⟨_, rfl⟩
      obtain ⟨Wb1, hWb1⟩ : ∃ W, (w6.alloc (.cells #[.int .i64 0, .int .i64 0, .int .u64 0, .int .i64 0, .slice none 0 0, .int .i64 0, .int .i64 0, .int .u64 0, .int .i64 0, .bool false, .bool false, .bool false, .bool false, .bool false, .bool false, .bool false, .int .u64 0, .int .u64 0, .int .u64 0, .int .u64 0, .int .u64 0, .int .u64 0, .int .u64 0, .int .u64 0, .int .u64 0, .int .u64 0, .int .u64 0, .int .u64 0, .int .u64 0, .int .u64 0] 44)).setRow w6.heap.size (ndC N (.slice Ab1 N.log.length cb1)).toArray = W := ⟨_, rfl⟩
      rw [hWb1] at hx6 hbW kHX kHKM ⊢
      rw [hb1] at hx6 ⊢
      have HXb1 := Lib.hid hx6
      have HBW := Lib.hid hbW
      have HX := Lib.hid kHX
      have HKM := Lib.hid kHKM
      clear hx6 hbW kHX kHKM hWb1 hb1 hbq hbL he6 hb6 HZ HS6
      go_upto_region 12 with (first | (refine wpList_load_row rfl 33 _ rfl bx rfl _ _ _ _ HX.out.blk Try.underlying33 rfl (by rw [node_size, HSN.out]) ?_) | (refine wpList_load_row rfl 27 _ rfl (bs + 1) rfl _ _ _ _ HKM.out Try.underlying27 rfl (by rw [msg_size]; rfl) ?_) | (go_at_call 10; refine (HSTEP.out _ HBW.out).mono ?_; rintro e w6 ⟨Ab2, cb2, Bb2, db2, rfl, he6, hs6, ok6, hb6⟩; have HZ : Hid (Blk (w6.alloc (.cells #[.int .i64 0, .int .i64 0, .int .u64 0, .int .i64 0, .slice none 0 0, .int .i64 0, .int .i64 0, .int .u64 0, .int .i64 0, .bool false, .bool false, .bool false, .bool false, .bool false, .bool false, .bool false, .int .u64 0, .int .u64 0, .int .u64 0, .int .u64 0, .int .u64 0, .int .u64 0, .int .u64 0, .int .u64 0, .int .u64 0, .int .u64 0, .int .u64 0, .int .u64 0, .int .u64 0, .int .u64 0] 33)) w6.heap.size (ndC zeroN nilV) 33) := Lib.hid (Blk.new w6 _ _); have HS6 := Lib.hid (size30 ok6 (.slice Ab2 N1.log.length cb2))) | (refine wpList_store_row rfl 33 (.tmp 11) (.tmp 59) rfl w6.heap.size _ rfl rfl _ _ HZ.out (by rw [node_size, HS6.out]) (by rw [HS6.out]; rfl) (ndC_one rfl) ?_))
      obtain ⟨hx6, hbL⟩ := NBox.laid he6 ok6
      have hbq := hb6.trans (hbL.mono hb6.size)
      have hbW := HBW.out.trans (hbq.mono HBW.out.size)
      have kHX := HX.out.later hbq
      have kHKM := HKM.out.below hbq
      have kHXb1 := HXb1.out.later hbq
      have hms6 := hs6.below hbL
      obtain ⟨b2, hb2⟩ : ∃ x, w6.heap.size = x := ⟨_, rfl⟩
      obtain ⟨Wb2, hWb2⟩ : ∃ W, (w6.alloc (.cells #[.int .i64 0, .int .i64 0, .int .u64 0, .int .i64 0, .slice none 0 0, .int .i64 0, .int .i64 0, .int .u64 0, .int .i64 0, .bool false, .bool false, .bool false, .bool false, .bool false, .bool false, .bool false, .int .u64 0, .int .u64 0, .int .u64 0, .int .u64 0, .int .u64 0, .int .u64 0, .int .u64 0, .int .u64 0, .int .u64 0, .int .u64 0, .int .u64 0, .int .u64 0, .int .u64 0, .int .u64 0] 33)).setRow w6.heap.size (ndC N1 (.slice Ab2 N1.log.length cb2)).toArray = W := ⟨_, rfl⟩
      rw [hWb2] at hx6 hbW kHX kHKM kHXb1 hms6 ⊢
      rw [hb2] at hx6 ⊢
      have HXb2 := Lib.hid hx6
      have HBW := Lib.hid hbW
      have HX := Lib.hid kHX
      have HKM := Lib.hid kHKM
      have HXb1 := Lib.hid kHXb1
      have HMx := Lib.hid hms6
      clear hx6 hbW kHX kHKM kHXb1 hms6 hWb2 hb2 hbq hbL he6 hb6 HZ HS6 hs6 ok6
      go_upto_region 13 with (first | (refine wpList_load_row rfl 33 _ rfl bx rfl _ _ _ _ HX.out.blk Try.underlying33 rfl (by rw [node_size, HSN.out]) ?_) | (refine wpList_load_row rfl 27 _ rfl (bs + 1) rfl _ _ _ _ HKM.out Try.underlying27 rfl (by rw [msg_size]; rfl) ?_) | (go_at_call 10; refine (HSTEP.out _ HBW.out).mono ?_; rintro e w6 ⟨Ab3, cb3, Bb3, db3, rfl, he6, hs6, ok6, hb6⟩; have HZ : Hid (Blk (w6.alloc (.cells #[.int .i64 0, .int .i64 0, .int .u64 0, .int .i64 0, .slice none 0 0, .int .i64 0, .int .i64 0, .int .u64 0, .int .i64 0, .bool false, .bool false, .bool false, .bool false, .bool false, .bool false, .bool false, .int .u64 0, .int .u64 0, .int .u64 0, .int .u64 0, .int .u64 0, .int .u64 0, .int .u64 0, .int .u64 0, .int .u64 0, .int .u64 0, .int .u64 0, .int .u64 0, .int .u64 0, .int .u64 0] 33)) w6.heap.size (ndC zeroN nilV) 33) := Lib.hid (Blk.new w6 _ _); have HS6 := Lib.hid (size30 ok6 (.slice Ab3 N1.log.length cb3))) | (refine wpList_store_row rfl 33 (.tmp 13) (.tmp 65) rfl w6.heap.size _ rfl rfl _ _ HZ.out (by rw [node_size, HS6.out]) (by rw [HS6.out]; rfl) (ndC_one rfl) ?_))
      obtain ⟨hx6, hbL⟩ := NBox.laid he6 ok6
      have hbq := hb6.trans (hbL.mono hb6.size)
      have hbW := HBW.out.trans (hbq.mono HBW.out.size)
      have kHX := HX.out.later hbq
      have kHKM := HKM.out.below hbq
      have kHXb1 := HXb1.out.later hbq
      have kHXb2 := HXb2.out.later hbq
      have kHMx := HMx.out.below hbq
      have hms6 := hs6.below hbL
      obtain ⟨b3, hb3⟩ : ∃ x, w6.heap.size = x := ⟨_, rfl⟩
      obtain ⟨Wb3, hWb3⟩ : ∃ W, (w6.alloc (.cells #[.int .i64 0, .int .i64 0, .int .u64 0, .int .i64 0, .slice none 0 0, .int .i64 0, .int .i64 0, .int .u64 0, .int .i64 0, .bool false, .bool false, .bool false, .bool false, .bool false, .bool false, .bool false, .int .u64 0, .int .u64 0, .int .u64 0, .int .u64 0, .int .u64 0, .int .u64 0, .int .u64 0, .int .u64 0, .int .u64 0, .int .u64 0, .int .u64 0, .int .u64 0, .int .u64 0, .int .u64 0] 33)).setRow w6.heap.size (ndC N1 (.slice Ab3 N1.log.length cb3)).toArray = W := ⟨_, rfl⟩
      rw [hWb3] at hx6 hbW kHX kHKM kHXb1 kHXb2 kHMx hms6 ⊢
      rw [hb3] at hx6 ⊢
      have HXb3 := Lib.hid hx6
      have HBW := Lib.hid hbW
      have HX := Lib.hid kHX
      have HKM := Lib.hid kHKM
      have HXb1 := Lib.hid kHXb1
      have HXb2 := Lib.hid kHXb2
      have HMx := Lib.hid kHMx
      have HMy := Lib.hid hms6
      clear hx6 hbW kHX kHKM kHXb1 kHXb2 kHMx hms6 hWb3 hb3 hbq hbL he6 hb6 HZ HS6 hs6 ok6
      go_upto_region 14 with (first | (refine wpList_load_row rfl 33 _ rfl bx rfl _ _ _ _ HX.out.blk Try.underlying33 rfl (by rw [node_size, HSN.out]) ?_) | (go_at_call 8; refine (HTICK.out _ HBW.out).mono ?_; rintro e w6 ⟨Ab4, cb4, Bb4, db4, rfl, he6, hs6, ok6, hb6⟩; have HZ : Hid (Blk (w6.alloc (.cells #[.int .i64 0, .int .i64 0, .int .u64 0, .int .i64 0, .slice none 0 0, .int .i64 0, .int .i64 0, .int .u64 0, .int .i64 0, .bool false, .bool false, .bool false, .bool false, .bool false, .bool false, .bool false, .int .u64 0, .int .u64 0, .int .u64 0, .int .u64 0, .int .u64 0, .int .u64 0, .int .u64 0, .int .u64 0, .int .u64 0, .int .u64 0, .int .u64 0, .int .u64 0, .int .u64 0, .int .u64 0] 33)) w6.heap.size (ndC zeroN nilV) 33) := Lib.hid (Blk.new w6 _ _); have HS6 := Lib.hid (size30 ok6 (.slice Ab4 N2.log.length cb4))) | (refine wpList_store_row rfl 33 (.tmp 15) (.tmp 70) rfl w6.heap.size _ rfl rfl _ _ HZ.out (by rw [node_size, HS6.out]) (by rw [HS6.out]; rfl) (ndC_one rfl) ?_))
      obtain ⟨hx6, hbL⟩ := NBox.laid he6 ok6
      have hbq := hb6.trans (hbL.mono hb6.size)
      have hbW := HBW.out.trans (hbq.mono HBW.out.size)
      have kHX := HX.out.later hbq
      have kHKM := HKM.out.below hbq
      have kHXb1 := HXb1.out.later hbq
      have kHXb2 := HXb2.out.later hbq
      have kHMx := HMx.out.below hbq
      have kHXb3 := HXb3.out.later hbq
      have kHMy := HMy.out.below hbq
      have hms6 := hs6.below hbL
      obtain ⟨b4, hb4⟩ : ∃ x, w6.heap.size = x := ⟨_, rfl⟩
      obtain ⟨Wb4, hWb4⟩ : ∃ W, (w6.alloc (.cells #[.int .i64 0, .int .i64 0, .int .u64 0, .int .i64 0, .slice none 0 0, .int .i64 0, .int .i64 0, .int .u64 0, .int .i64 0, .bool false, .bool false, .bool false, .bool false, .bool false, .bool false, .bool false, .int .u64 0, .int .u64 0, .int .u64 0, .int .u64 0, .int .u64 0, .int .u64 0, .int .u64 0, .int .u64 0, .int .u64 0, .int .u64 0, .int .u64 0, .int .u64 0, .int .u64 0, .int .u64 0] 33)).setRow w6.heap.size (ndC N2 (.slice Ab4 N2.log.length cb4)).toArray = W := ⟨_, rfl⟩
      rw [hWb4] at hx6 hbW kHX kHKM kHXb1 kHXb2 kHMx kHXb3 kHMy hms6 ⊢
      rw [hb4] at hx6 ⊢
      have HXb4 := Lib.hid hx6
      have HBW := Lib.hid hbW
      have HX := Lib.hid kHX
      have HKM := Lib.hid kHKM
      have HXb1 := Lib.hid kHXb1
      have HXb2 := Lib.hid kHXb2
      have HMx := Lib.hid kHMx
      have HXb3 := Lib.hid kHXb3
      have HMy := Lib.hid kHMy
      have HMu := Lib.hid hms6
      clear hx6 hbW kHX kHKM kHXb1 kHXb2 kHMx kHXb3 kHMy hms6 hWb4 hb4 hbq hbL he6 hb6 HZ HS6 hs6 ok6
      go_upto_region 15 with (first | (refine wpList_load_row rfl 33 _ rfl bx rfl _ _ _ _ HX.out.blk Try.underlying33 rfl (by rw [node_size, HSN.out]) ?_) | (go_at_call 8; refine (HTICK.out _ HBW.out).mono ?_; rintro e w6 ⟨Ab5, cb5, Bb5, db5, rfl, he6, hs6, ok6, hb6⟩; have HZ : Hid (Blk (w6.alloc (.cells #[.int .i64 0, .int .i64 0, .int .u64 0, .int .i64 0, .slice none 0 0, .int .i64 0, .int .i64 0, .int .u64 0, .int .i64 0, .bool false, .bool false, .bool false, .bool false, .bool false, .bool false, .bool false, .int .u64 0, .int .u64 0, .int .u64 0, .int .u64 0, .int .u64 0, .int .u64 0, .int .u64 0, .int .u64 0, .int .u64 0, .int .u64 0, .int .u64 0, .int .u64 0, .int .u64 0, .int .u64 0] 33)) w6.heap.size (ndC zeroN nilV) 33) := Lib.hid (Blk.new w6 _ _); have HS6 := Lib.hid (size30 ok6 (.slice Ab5 N2.log.length cb5))) | (refine wpList_store_row rfl 33 (.tmp 17) (.tmp 75) rfl w6.heap.size _ rfl rfl _ _ HZ.out (by rw [node_size, HS6.out]) (by rw [HS6.out]; rfl) (ndC_one rfl) ?_))
      obtain ⟨hx6, hbL⟩ := NBox.laid he6 ok6
      have hbq := hb6.trans (hbL.mono hb6.size)
      have hbW := HBW.out.trans (hbq.mono HBW.out.size)
      have kHX := HX.out.later hbq
      have kHKM := HKM.out.below hbq
      have kHXb1 := HXb1.out.later hbq
      have kHXb2 := HXb2.out.later hbq
      have kHMx := HMx.out.below hbq
      have kHXb3 := HXb3.out.later hbq
      have kHMy := HMy.out.below hbq
      have kHXb4 := HXb4.out.later hbq
      have kHMu := HMu.out.below hbq
      have hms6 := hs6.below hbL
      obtain ⟨b5, hb5⟩ : ∃ x, w6.heap.size = x := ⟨_, rfl⟩
      obtain ⟨Wb5, hWb5⟩ : ∃ W, (w6.alloc (.cells #[.int .i64 0, .int .i64 0, .int .u64 0, .int .i64 0, .slice none 0 0, .int .i64 0, .int .i64 0, .int .u64 0, .int .i64 0, .bool false, .bool false, .bool false, .bool false, .bool false, .bool false, .bool false, .int .u64 0, .int .u64 0, .int .u64 0, .int .u64 0, .int .u64 0, .int .u64 0, .int .u64 0, .int .u64 0, .int .u64 0, .int .u64 0, .int .u64 0, .int .u64 0, .int .u64 0, .int .u64 0] 33)).setRow w6.heap.size (ndC N2 (.slice Ab5 N2.log.length cb5)).toArray = W := ⟨_, rfl⟩
      rw [hWb5] at hx6 hbW kHX kHKM kHXb1 kHXb2 kHMx kHXb3 kHMy kHXb4 kHMu hms6 ⊢
      rw [hb5] at hx6 ⊢
      have HXb5 := Lib.hid hx6
      have HBW := Lib.hid hbW
      have HX := Lib.hid kHX
      have HKM := Lib.hid kHKM
      have HXb1 := Lib.hid kHXb1
      have HXb2 := Lib.hid kHXb2
      have HMx := Lib.hid kHMx
      have HXb3 := Lib.hid kHXb3
      have HMy := Lib.hid kHMy
      have HXb4 := Lib.hid kHXb4
      have HMu := Lib.hid kHMu
      have HMv := Lib.hid hms6
      clear hx6 hbW kHX kHKM kHXb1 kHXb2 kHMx kHXb3 kHMy kHXb4 kHMu hms6 hWb5 hb5 hbq hbL he6 hb6 HZ HS6 hs6 ok6
      have HOK1 := Lib.hid HXb2.out.ok
      have HOK2 := Lib.hid HXb4.out.ok
      have HIT1 := Lib.hid (HIT1.out HOK1.out)
      have HIT2 := Lib.hid (HIT2.out HOK2.out)
      have HSM1 := Lib.hid (HSM1.out HOK1.out)
      have HSM2 := Lib.hid (HSM2.out HOK2.out)
      clear HSTEP HTICK HKM HSM HSN
      have MK : Hid (∀ w', Below Wb5.heap.size Wb5 w' → (w'.rangeAt bx 0 (ndC N (.slice A3 N.log.length c3)) ∧ w'.rangeAt b1 0 (ndC N (.slice Ab1 N.log.length cb1)) ∧ w'.rangeAt b2 0 (ndC N1 (.slice Ab2 N1.log.length cb2)) ∧ w'.rangeAt b3 0 (ndC N1 (.slice Ab3 N1.log.length cb3)) ∧ w'.rangeAt b4 0 (ndC N2 (.slice Ab4 N2.log.length cb4)) ∧ w'.rangeAt b5 0 (ndC N2 (.slice Ab5 N2.log.length cb5)))) := Lib.hid (fun w' h => ⟨blk_range (HX.out.later h).blk, blk_range (HXb1.out.later h).blk, blk_range (HXb2.out.later h).blk, blk_range (HXb3.out.later h).blk, blk_range (HXb4.out.later h).blk, blk_range (HXb5.out.later h).blk⟩)
      have hW : Below Wb5.heap.size Wb5 Wb5.drew := below_drewN (Below.refl _ Wb5) 1
      have hu33 := Try.underlying33
      have hu44 := Try.underlying44
      have hs0 : (Try.prog.info? 33).map (·.size) = some (ndC N (.slice A3 N.log.length c3)).length := by rw [ndC_len HOKN.out]; exact node_size
      have hs1 : (Try.prog.info? 44).map (·.size) = some (ndC N (.slice Ab1 N.log.length cb1)).length := by rw [ndC_len HOKN.out]; exact rnode_size
      have hs2 : (Try.prog.info? 33).map (·.size) = some (ndC N1 (.slice Ab2 N1.log.length cb2)).length := by rw [ndC_len HOK1.out]; exact node_size
      have hs3 : (Try.prog.info? 33).map (·.size) = some (ndC N1 (.slice Ab3 N1.log.length cb3)).length := by rw [ndC_len HOK1.out]; exact node_size
      have hs4 : (Try.prog.info? 33).map (·.size) = some (ndC N2 (.slice Ab4 N2.log.length cb4)).length := by rw [ndC_len HOK2.out]; exact node_size
      have hs5 : (Try.prog.info? 33).map (·.size) = some (ndC N2 (.slice Ab5 N2.log.length cb5)).length := by rw [ndC_len HOK2.out]; exact node_size
      refine wp_region_held_drew (S := fun w' => w'.rangeAt bx 0 (ndC N (.slice A3 N.log.length c3)) ∧ w'.rangeAt b1 0 (ndC N (.slice Ab1 N.log.length cb1)) ∧ w'.rangeAt b2 0 (ndC N1 (.slice Ab2 N1.log.length cb2)) ∧ w'.rangeAt b3 0 (ndC N1 (.slice Ab3 N1.log.length cb3)) ∧ w'.rangeAt b4 0 (ndC N2 (.slice Ab4 N2.log.length cb4)) ∧ w'.rangeAt b5 0 (ndC N2 (.slice Ab5 N2.log.length cb5))) (by kernel_rfl) (MK.out _ hW) (fun hHeld => ?_)
      refine wpAnyH_take (i := 0) (opsAt rfl) (by kernel_rfl) (by kernel_rfl) (by kernel_rfl) (fun _ _ _ h => h) (yieldsIf_load_mid (by rfl) _ _ rfl _ _ rfl _ _ (fun _ h => h.1) hu33 rfl hs0) (by assumption) ?_; (try simp only [Act.put, List.setIfInBounds_toArray, List.set_cons_zero, List.set_cons_succ])
      refine wpAnyH_take (i := 2) (opsAt rfl) (by kernel_rfl) (by kernel_rfl) (by kernel_rfl) (fun _ _ _ h => h) (yieldsIf_load_mid (by rfl) _ _ rfl _ _ rfl _ _ (fun _ h => h.2.1) hu44 rfl hs1) (by assumption) ?_; (try simp only [Act.put, List.setIfInBounds_toArray, List.set_cons_zero, List.set_cons_succ])
      refine wpAnyH_ready (rs := [1]) (by kernel_rfl) (by simp) ?_; refine AllReadyH.cons (opsAt rfl) (fun K hK => ?_) AllReadyH.nil; (try rw [if_pos (by rfl)]); go_simp; (go_at_call 9; (first | (with_reducible refine (HITN.out _ _ _ (HX.out.ents.below hW)).mono ?_) | (with_reducible refine (HIT1.out _ _ _ (HXb2.out.ents.below hW)).mono ?_) | (with_reducible refine (HIT1.out _ _ _ (HXb3.out.ents.below hW)).mono ?_) | (with_reducible refine (HIT2.out _ _ _ (HXb4.out.ents.below hW)).mono ?_) | (with_reducible refine (HIT2.out _ _ _ (HXb5.out.ents.below hW)).mono ?_)); rintro e w6 ⟨A6, c6, rfl, hE6, hb6⟩; (try have hPrev := hNow.below hb6); have hNow := hE6; have hW := hW.trans (hb6.mono hW.size)); dsimp only; refine hK.out _ _ (MK.out _ hW) (fun hHeld => ?_); clear hK K; (try simp only [Act.put, List.setIfInBounds_toArray, List.set_cons_zero, List.set_cons_succ])
      refine wpAnyH_ready (rs := [3]) (by kernel_rfl) (by simp) ?_; refine AllReadyH.cons (opsAt rfl) (fun K hK => ?_) AllReadyH.nil; (try rw [if_pos (by rfl)]); go_simp; (go_at_call 11; (first | (with_reducible refine (HSMN.out _ _ _ _ _ hNow (HXb1.out.ents.below hW)).mono ?_) | (with_reducible refine (HSM1.out _ _ _ _ _ hPrev hNow).mono ?_) | (with_reducible refine (HSM1.out _ _ _ _ _ hNow hPrev).mono ?_) | (with_reducible refine (HSM2.out _ _ _ _ _ hPrev hNow).mono ?_) | (with_reducible refine (HSM2.out _ _ _ _ _ hNow hPrev).mono ?_)); rintro e w6 ⟨rfl, hb6⟩; have hW := hW.trans (hb6.mono hW.size)); dsimp only; refine hK.out _ _ (MK.out _ hW) (fun hHeld => ?_); clear hK K; (try simp only [Act.put, List.setIfInBounds_toArray, List.set_cons_zero, List.set_cons_succ])
      (refine wpAnyH_take (i := 4) (v := ?_) (opsAt rfl) (by kernel_rfl) (by kernel_rfl) (by kernel_rfl) (fun _ _ _ h => h) (Or.inl ⟨by rfl, ?_⟩) (by assumption) ?_; rotate_left; focus (intro w hSw; (try dsimp only at hSw); go_simp; (try with_reducible rfl); done)); (try simp only [Act.put, List.setIfInBounds_toArray, List.set_cons_zero, List.set_cons_succ])
      refine wpAnyH_take (i := 5) (opsAt rfl) (by kernel_rfl) (by kernel_rfl) (by kernel_rfl) (fun _ _ _ h => h) (yieldsIf_load_mid (by rfl) _ _ rfl _ _ rfl _ _ (fun _ h => h.2.2.1) hu33 rfl hs2) (by assumption) ?_; (try simp only [Act.put, List.setIfInBounds_toArray, List.set_cons_zero, List.set_cons_succ])
      refine wpAnyH_take (i := 7) (opsAt rfl) (by kernel_rfl) (by kernel_rfl) (by kernel_rfl) (fun _ _ _ h => h) (yieldsIf_load_mid (by rfl) _ _ rfl _ _ rfl _ _ (fun _ h => h.2.2.2.1) hu33 rfl hs3) (by assumption) ?_; (try simp only [Act.put, List.setIfInBounds_toArray, List.set_cons_zero, List.set_cons_succ])
      refine wpAnyH_ready (rs := [6]) (by kernel_rfl) (by simp) ?_; refine AllReadyH.cons (opsAt rfl) (fun K hK => ?_) AllReadyH.nil; (try rw [if_pos (by rfl)]); go_simp; (go_at_call 9; (first | (with_reducible refine (HITN.out _ _ _ (HX.out.ents.below hW)).mono ?_) | (with_reducible refine (HIT1.out _ _ _ (HXb2.out.ents.below hW)).mono ?_) | (with_reducible refine (HIT1.out _ _ _ (HXb3.out.ents.below hW)).mono ?_) | (with_reducible refine (HIT2.out _ _ _ (HXb4.out.ents.below hW)).mono ?_) | (with_reducible refine (HIT2.out _ _ _ (HXb5.out.ents.below hW)).mono ?_)); rintro e w6 ⟨A6, c6, rfl, hE6, hb6⟩; (try have hPrev := hNow.below hb6); have hNow := hE6; have hW := hW.trans (hb6.mono hW.size)); dsimp only; refine hK.out _ _ (MK.out _ hW) (fun hHeld => ?_); clear hK K; (try simp only [Act.put, List.setIfInBounds_toArray, List.set_cons_zero, List.set_cons_succ])
      refine wpAnyH_ready (rs := [8]) (by kernel_rfl) (by simp) ?_; refine AllReadyH.cons (opsAt rfl) (fun K hK => ?_) AllReadyH.nil; (try rw [if_pos (by rfl)]); go_simp; (go_at_call 9; (first | (with_reducible refine (HITN.out _ _ _ (HX.out.ents.below hW)).mono ?_) | (with_reducible refine (HIT1.out _ _ _ (HXb2.out.ents.below hW)).mono ?_) | (with_reducible refine (HIT1.out _ _ _ (HXb3.out.ents.below hW)).mono ?_) | (with_reducible refine (HIT2.out _ _ _ (HXb4.out.ents.below hW)).mono ?_) | (with_reducible refine (HIT2.out _ _ _ (HXb5.out.ents.below hW)).mono ?_)); rintro e w6 ⟨A6, c6, rfl, hE6, hb6⟩; (try have hPrev := hNow.below hb6); have hNow := hE6; have hW := hW.trans (hb6.mono hW.size)); dsimp only; refine hK.out _ _ (MK.out _ hW) (fun hHeld => ?_); clear hK K; (try simp only [Act.put, List.setIfInBounds_toArray, List.set_cons_zero, List.set_cons_succ])
      refine wpAnyH_ready (rs := [9]) (by kernel_rfl) (by simp) ?_; refine AllReadyH.cons (opsAt rfl) (fun K hK => ?_) AllReadyH.nil; (try rw [if_pos (by rfl)]); go_simp; (go_at_call 11; (first | (with_reducible refine (HSMN.out _ _ _ _ _ hNow (HXb1.out.ents.below hW)).mono ?_) | (with_reducible refine (HSM1.out _ _ _ _ _ hPrev hNow).mono ?_) | (with_reducible refine (HSM1.out _ _ _ _ _ hNow hPrev).mono ?_) | (with_reducible refine (HSM2.out _ _ _ _ _ hPrev hNow).mono ?_) | (with_reducible refine (HSM2.out _ _ _ _ _ hNow hPrev).mono ?_)); rintro e w6 ⟨rfl, hb6⟩; have hW := hW.trans (hb6.mono hW.size)); dsimp only; refine hK.out _ _ (MK.out _ hW) (fun hHeld => ?_); clear hK K; (try simp only [Act.put, List.setIfInBounds_toArray, List.set_cons_zero, List.set_cons_succ])
      (refine wpAnyH_take (i := 10) (v := ?_) (opsAt rfl) (by kernel_rfl) (by kernel_rfl) (by kernel_rfl) (fun _ _ _ h => h) (Or.inl ⟨by rfl, ?_⟩) (by assumption) ?_; rotate_left; focus (intro w hSw; (try dsimp only at hSw); go_simp; (try with_reducible rfl); done)); (try simp only [Act.put, List.setIfInBounds_toArray, List.set_cons_zero, List.set_cons_succ])
      (refine wpAnyH_take (i := 11) (v := ?_) (opsAt rfl) (by kernel_rfl) (by kernel_rfl) (by kernel_rfl) (fun _ _ _ h => h) (Or.inl ⟨by rfl, ?_⟩) (by assumption) ?_; rotate_left; focus (intro w hSw; (try dsimp only at hSw); go_simp; (try with_reducible rfl); done)); (try simp only [Act.put, List.setIfInBounds_toArray, List.set_cons_zero, List.set_cons_succ])
      (refine wpAnyH_take (i := 12) (v := ?_) (opsAt rfl) (by kernel_rfl) (by kernel_rfl) (by kernel_rfl) (fun _ _ _ h => h) (Or.inl ⟨by rfl, ?_⟩) (by assumption) ?_; rotate_left; focus (intro w hSw; (try dsimp only at hSw); go_simp; (try with_reducible rfl); done)); (try simp only [Act.put, List.setIfInBounds_toArray, List.set_cons_zero, List.set_cons_succ])
      (refine wpAnyH_take (i := 14) (v := ?_) (opsAt rfl) (by kernel_rfl) (by kernel_rfl) (by kernel_rfl) (fun _ _ _ h => h) (Or.inl ⟨by rfl, ?_⟩) (by assumption) ?_; rotate_left; focus (intro w hSw; (try dsimp only at hSw); go_simp; (try with_reducible rfl); done)); (try simp only [Act.put, List.setIfInBounds_toArray, List.set_cons_zero, List.set_cons_succ])
      refine wpAnyH_ready (rs := [13]) (by kernel_rfl) (by simp) ?_; refine AllReadyH.cons (opsAt rfl) (fun K hK => ?_) AllReadyH.nil; (try rw [if_pos (by rfl)]); go_simp; (go_at_call 13; (first | (with_reducible refine (HMS1.out _ _ _ (HMx.out.below hW)).mono ?_) | (with_reducible refine (HMS1.out _ _ _ (HMy.out.below hW)).mono ?_) | (with_reducible refine (HMS2.out _ _ _ (HMu.out.below hW)).mono ?_) | (with_reducible refine (HMS2.out _ _ _ (HMv.out.below hW)).mono ?_)); rintro e w6 ⟨A6, c6, rfl, hM6, hb6⟩; (try have hPrevM := hNowM.below hb6); have hNowM := hM6; have hW := hW.trans (hb6.mono hW.size)); dsimp only; refine hK.out _ _ (MK.out _ hW) (fun hHeld => ?_); clear hK K; (try simp only [Act.put, List.setIfInBounds_toArray, List.set_cons_zero, List.set_cons_succ])
      refine wpAnyH_ready (rs := [15]) (by kernel_rfl) (by simp) ?_; refine AllReadyH.cons (opsAt rfl) (fun K hK => ?_) AllReadyH.nil; (try rw [if_pos (by rfl)]); go_simp; (go_at_call 13; (first | (with_reducible refine (HMS1.out _ _ _ (HMx.out.below hW)).mono ?_) | (with_reducible refine (HMS1.out _ _ _ (HMy.out.below hW)).mono ?_) | (with_reducible refine (HMS2.out _ _ _ (HMu.out.below hW)).mono ?_) | (with_reducible refine (HMS2.out _ _ _ (HMv.out.below hW)).mono ?_)); rintro e w6 ⟨A6, c6, rfl, hM6, hb6⟩; (try have hPrevM := hNowM.below hb6); have hNowM := hM6; have hW := hW.trans (hb6.mono hW.size)); dsimp only; refine hK.out _ _ (MK.out _ hW) (fun hHeld => ?_); clear hK K; (try simp only [Act.put, List.setIfInBounds_toArray, List.set_cons_zero, List.set_cons_succ])
      refine wpAnyH_ready (rs := [16]) (by kernel_rfl) (by simp) ?_; refine AllReadyH.cons (opsAt rfl) (fun K hK => ?_) AllReadyH.nil; (try rw [if_pos (by rfl)]); go_simp; (go_at_call 12; (first | (with_reducible refine (HSS1.out _ _ _ _ _ hPrevM hNowM).mono ?_) | (with_reducible refine (HSS1.out _ _ _ _ _ hNowM hPrevM).mono ?_) | (with_reducible refine (HSS2.out _ _ _ _ _ hPrevM hNowM).mono ?_) | (with_reducible refine (HSS2.out _ _ _ _ _ hNowM hPrevM).mono ?_)); rintro e w6 ⟨rfl, hb6⟩; have hW := hW.trans (hb6.mono hW.size)); dsimp only; refine hK.out _ _ (MK.out _ hW) (fun hHeld => ?_); clear hK K; (try simp only [Act.put, List.setIfInBounds_toArray, List.set_cons_zero, List.set_cons_succ])
      (refine wpAnyH_take (i := 17) (v := ?_) (opsAt rfl) (by kernel_rfl) (by kernel_rfl) (by kernel_rfl) (fun _ _ _ h => h) (Or.inl ⟨by rfl, ?_⟩) (by assumption) ?_; rotate_left; focus (intro w hSw; (try dsimp only at hSw); go_simp; (try with_reducible rfl); done)); (try simp only [Act.put, List.setIfInBounds_toArray, List.set_cons_zero, List.set_cons_succ])
      (refine wpAnyH_take (i := 18) (v := ?_) (opsAt rfl) (by kernel_rfl) (by kernel_rfl) (by kernel_rfl) (fun _ _ _ h => h) (Or.inl ⟨by rfl, ?_⟩) (by assumption) ?_; rotate_left; focus (intro w hSw; (try dsimp only at hSw); go_simp; (try with_reducible rfl); done)); (try simp only [Act.put, List.setIfInBounds_toArray, List.set_cons_zero, List.set_cons_succ])
      refine wpAnyH_take (i := 19) (opsAt rfl) (by kernel_rfl) (by kernel_rfl) (by kernel_rfl) (fun _ _ _ h => h) (yieldsIf_load_mid (by rfl) _ _ rfl _ _ rfl _ _ (fun _ h => h.2.2.2.2.1) hu33 rfl hs4) (by assumption) ?_; (try simp only [Act.put, List.setIfInBounds_toArray, List.set_cons_zero, List.set_cons_succ])
      refine wpAnyH_take (i := 21) (opsAt rfl) (by kernel_rfl) (by kernel_rfl) (by kernel_rfl) (fun _ _ _ h => h) (yieldsIf_load_mid (by rfl) _ _ rfl _ _ rfl _ _ (fun _ h => h.2.2.2.2.2) hu33 rfl hs5) (by assumption) ?_; (try simp only [Act.put, List.setIfInBounds_toArray, List.set_cons_zero, List.set_cons_succ])
      refine wpAnyH_ready (rs := [20]) (by kernel_rfl) (by simp) ?_; refine AllReadyH.cons (opsAt rfl) (fun K hK => ?_) AllReadyH.nil; (try rw [if_pos (by rfl)]); go_simp; (go_at_call 9; (first | (with_reducible refine (HITN.out _ _ _ (HX.out.ents.below hW)).mono ?_) | (with_reducible refine (HIT1.out _ _ _ (HXb2.out.ents.below hW)).mono ?_) | (with_reducible refine (HIT1.out _ _ _ (HXb3.out.ents.below hW)).mono ?_) | (with_reducible refine (HIT2.out _ _ _ (HXb4.out.ents.below hW)).mono ?_) | (with_reducible refine (HIT2.out _ _ _ (HXb5.out.ents.below hW)).mono ?_)); rintro e w6 ⟨A6, c6, rfl, hE6, hb6⟩; (try have hPrev := hNow.below hb6); have hNow := hE6; have hW := hW.trans (hb6.mono hW.size)); dsimp only; refine hK.out _ _ (MK.out _ hW) (fun hHeld => ?_); clear hK K; (try simp only [Act.put, List.setIfInBounds_toArray, List.set_cons_zero, List.set_cons_succ])
      refine wpAnyH_ready (rs := [22]) (by kernel_rfl) (by simp) ?_; refine AllReadyH.cons (opsAt rfl) (fun K hK => ?_) AllReadyH.nil; (try rw [if_pos (by rfl)]); go_simp; (go_at_call 9; (first | (with_reducible refine (HITN.out _ _ _ (HX.out.ents.below hW)).mono ?_) | (with_reducible refine (HIT1.out _ _ _ (HXb2.out.ents.below hW)).mono ?_) | (with_reducible refine (HIT1.out _ _ _ (HXb3.out.ents.below hW)).mono ?_) | (with_reducible refine (HIT2.out _ _ _ (HXb4.out.ents.below hW)).mono ?_) | (with_reducible refine (HIT2.out _ _ _ (HXb5.out.ents.below hW)).mono ?_)); rintro e w6 ⟨A6, c6, rfl, hE6, hb6⟩; (try have hPrev := hNow.below hb6); have hNow := hE6; have hW := hW.trans (hb6.mono hW.size)); dsimp only; refine hK.out _ _ (MK.out _ hW) (fun hHeld => ?_); clear hK K; (try simp only [Act.put, List.setIfInBounds_toArray, List.set_cons_zero, List.set_cons_succ])
      refine wpAnyH_ready (rs := [23]) (by kernel_rfl) (by simp) ?_; refine AllReadyH.cons (opsAt rfl) (fun K hK => ?_) AllReadyH.nil; (try rw [if_pos (by rfl)]); go_simp; (go_at_call 11; (first | (with_reducible refine (HSMN.out _ _ _ _ _ hNow (HXb1.out.ents.below hW)).mono ?_) | (with_reducible refine (HSM1.out _ _ _ _ _ hPrev hNow).mono ?_) | (with_reducible refine (HSM1.out _ _ _ _ _ hNow hPrev).mono ?_) | (with_reducible refine (HSM2.out _ _ _ _ _ hPrev hNow).mono ?_) | (with_reducible refine (HSM2.out _ _ _ _ _ hNow hPrev).mono ?_)); rintro e w6 ⟨rfl, hb6⟩; have hW := hW.trans (hb6.mono hW.size)); dsimp only; refine hK.out _ _ (MK.out _ hW) (fun hHeld => ?_); clear hK K; (try simp only [Act.put, List.setIfInBounds_toArray, List.set_cons_zero, List.set_cons_succ])
      (refine wpAnyH_take (i := 24) (v := ?_) (opsAt rfl) (by kernel_rfl) (by kernel_rfl) (by kernel_rfl) (fun _ _ _ h => h) (Or.inl ⟨by rfl, ?_⟩) (by assumption) ?_; rotate_left; focus (intro w hSw; (try dsimp only at hSw); go_simp; (try with_reducible rfl); done)); (try simp only [Act.put, List.setIfInBounds_toArray, List.set_cons_zero, List.set_cons_succ])
      (refine wpAnyH_take (i := 25) (v := ?_) (opsAt rfl) (by kernel_rfl) (by kernel_rfl) (by kernel_rfl) (fun _ _ _ h => h) (Or.inl ⟨by rfl, ?_⟩) (by assumption) ?_; rotate_left; focus (intro w hSw; (try dsimp only at hSw); go_simp; (try with_reducible rfl); done)); (try simp only [Act.put, List.setIfInBounds_toArray, List.set_cons_zero, List.set_cons_succ])
      (refine wpAnyH_take (i := 26) (v := ?_) (opsAt rfl) (by kernel_rfl) (by kernel_rfl) (by kernel_rfl) (fun _ _ _ h => h) (Or.inl ⟨by rfl, ?_⟩) (by assumption) ?_; rotate_left; focus (intro w hSw; (try dsimp only at hSw); go_simp; (try with_reducible rfl); done)); (try simp only [Act.put, List.setIfInBounds_toArray, List.set_cons_zero, List.set_cons_succ])
      (refine wpAnyH_take (i := 28) (v := ?_) (opsAt rfl) (by kernel_rfl) (by kernel_rfl) (by kernel_rfl) (fun _ _ _ h => h) (Or.inl ⟨by rfl, ?_⟩) (by assumption) ?_; rotate_left; focus (intro w hSw; (try dsimp only at hSw); go_simp; (try with_reducible rfl); done)); (try simp only [Act.put, List.setIfInBounds_toArray, List.set_cons_zero, List.set_cons_succ])
      refine wpAnyH_ready (rs := [27]) (by kernel_rfl) (by simp) ?_; refine AllReadyH.cons (opsAt rfl) (fun K hK => ?_) AllReadyH.nil; (try rw [if_pos (by rfl)]); go_simp; (go_at_call 13; (first | (with_reducible refine (HMS1.out _ _ _ (HMx.out.below hW)).mono ?_) | (with_reducible refine (HMS1.out _ _ _ (HMy.out.below hW)).mono ?_) | (with_reducible refine (HMS2.out _ _ _ (HMu.out.below hW)).mono ?_) | (with_reducible refine (HMS2.out _ _ _ (HMv.out.below hW)).mono ?_)); rintro e w6 ⟨A6, c6, rfl, hM6, hb6⟩; (try have hPrevM := hNowM.below hb6); have hNowM := hM6; have hW := hW.trans (hb6.mono hW.size)); dsimp only; refine hK.out _ _ (MK.out _ hW) (fun hHeld => ?_); clear hK K; (try simp only [Act.put, List.setIfInBounds_toArray, List.set_cons_zero, List.set_cons_succ])
      refine wpAnyH_ready (rs := [29]) (by kernel_rfl) (by simp) ?_; refine AllReadyH.cons (opsAt rfl) (fun K hK => ?_) AllReadyH.nil; (try rw [if_pos (by rfl)]); go_simp; (go_at_call 13; (first | (with_reducible refine (HMS1.out _ _ _ (HMx.out.below hW)).mono ?_) | (with_reducible refine (HMS1.out _ _ _ (HMy.out.below hW)).mono ?_) | (with_reducible refine (HMS2.out _ _ _ (HMu.out.below hW)).mono ?_) | (with_reducible refine (HMS2.out _ _ _ (HMv.out.below hW)).mono ?_)); rintro e w6 ⟨A6, c6, rfl, hM6, hb6⟩; (try have hPrevM := hNowM.below hb6); have hNowM := hM6; have hW := hW.trans (hb6.mono hW.size)); dsimp only; refine hK.out _ _ (MK.out _ hW) (fun hHeld => ?_); clear hK K; (try simp only [Act.put, List.setIfInBounds_toArray, List.set_cons_zero, List.set_cons_succ])
      refine wpAnyH_ready (rs := [30]) (by kernel_rfl) (by simp) ?_; refine AllReadyH.cons (opsAt rfl) (fun K hK => ?_) AllReadyH.nil; (try rw [if_pos (by rfl)]); go_simp; (go_at_call 12; (first | (with_reducible refine (HSS1.out _ _ _ _ _ hPrevM hNowM).mono ?_) | (with_reducible refine (HSS1.out _ _ _ _ _ hNowM hPrevM).mono ?_) | (with_reducible refine (HSS2.out _ _ _ _ _ hPrevM hNowM).mono ?_) | (with_reducible refine (HSS2.out _ _ _ _ _ hNowM hPrevM).mono ?_)); rintro e w6 ⟨rfl, hb6⟩; have hW := hW.trans (hb6.mono hW.size)); dsimp only; refine hK.out _ _ (MK.out _ hW) (fun hHeld => ?_); clear hK K; (try simp only [Act.put, List.setIfInBounds_toArray, List.set_cons_zero, List.set_cons_succ])
      (refine wpAnyH_take (i := 31) (v := ?_) (opsAt rfl) (by kernel_rfl) (by kernel_rfl) (by kernel_rfl) (fun _ _ _ h => h) (Or.inl ⟨by rfl, ?_⟩) (by assumption) ?_; rotate_left; focus (intro w hSw; (try dsimp only at hSw); go_simp; (try with_reducible rfl); done)); (try simp only [Act.put, List.setIfInBounds_toArray, List.set_cons_zero, List.set_cons_succ])
      (refine wpAnyH_take (i := 32) (v := ?_) (opsAt rfl) (by kernel_rfl) (by kernel_rfl) (by kernel_rfl) (fun _ _ _ h => h) (Or.inl ⟨by rfl, ?_⟩) (by assumption) ?_; rotate_left; focus (intro w hSw; (try dsimp only at hSw); go_simp; (try with_reducible rfl); done)); (try simp only [Act.put, List.setIfInBounds_toArray, List.set_cons_zero, List.set_cons_succ])
      refine wpAnyH_done (by kernel_rfl) ?_ _
      all_goals (go_wp2_with fail; go_ret; exact ⟨rfl, (HBE.out.trans (HBW.out.mono HBE.out.size)).trans (hW.mono (HBE.out.trans (HBW.out.mono HBE.out.size)).size)⟩)
end Go.Proofs.Ytkoidphhlfjlhaa
