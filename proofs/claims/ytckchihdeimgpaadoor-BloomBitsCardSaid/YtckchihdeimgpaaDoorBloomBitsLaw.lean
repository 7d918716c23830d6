/- BloomBits walked: whatever comes in, it returns true. -/
import Derived.Test.YtckchihdeimgpaaDoorBloomHasLaw
import Derived.Maps.OwnSet
import Derived.Maps.OwnOps
import Derived.Maps.Views
namespace Go.Proofs.YtckchihdeimgpaaDoor
namespace blm
theorem hits_far (L : List Nat) (r m : Nat) (h : m ≤ r) : hits (L ++ [r]) m = hits L m := by
  induction m with
  | zero => rfl
  | succ m ih =>
    unfold hits
    rw [ih (by omega)]
    have : ¬ m = r := by omega
    simp [this]
theorem hits_snoc (L : List Nat) (r m : Nat) (h : r < m) : hits (L ++ [r]) m = hits L m + if r ∈ L then 0 else 1 := by
  induction m with
  | zero => omega
  | succ m ih =>
    unfold hits
    by_cases e : r = m
    · subst e
      rw [hits_far L r r (Nat.le_refl _)]
      by_cases g : r ∈ L <;> simp [g]
    · rw [ih (by omega)]
      have : ¬ m = r := fun h => e h.symm
      by_cases g : r ∈ L <;> simp [g, this] <;> omega
end blm
open Go Go.RowKit Go.Maps

theorem lawInt : Keyed Tryd.prog 3 := int_keyed Tryd.underlying3
theorem zeroInt (w : World) : (zeroValue 3).run Tryd.prog w = .ok (.int .i64 0) w := by kernel_rfl
/-- block B is a map whose keys are the numbers of L -/
def MapIs (w : World) (B : Nat) (L : List Nat) (m n : Nat) (D : DataW Unit) : Prop :=
  n ≤ L.length ∧ w.ownsMap Tryd.prog 3 (plainElem Tryd.prog 3) B n D ∧ (∀ r : Nat, has D (.int .i64 (r : Int)) = decide (r ∈ L)) ∧ Maps.size D = blm.hits L m
theorem mapIs_step {w w' : World} {B : Nat} {L : List Nat} {m n : Nat} {D : DataW Unit} (h : MapIs w B L m n D) (r : Nat) (hr : r < m) (d : DataW Unit)
    (hown : w'.ownsMap Tryd.prog 3 (plainElem Tryd.prog 3) B (n + 1) (D.put (.int .i64 (r : Int)) d)) : MapIs w' B (L ++ [r]) m (n + 1) (D.put (.int .i64 (r : Int)) d) := by
  obtain ⟨h1, h2, h3, h4⟩ := h
  refine ⟨by simp; omega, hown, fun x => ?_, ?_⟩
  · by_cases e : x = r
    · subst e
      rw [has_put_same h2.isMap (by trivial)]
      simp
    · rw [has_put_other (by intro h; injection h with _ h'; omega), h3]
      simp [e]
  · rw [size_put (h2.tidy lawInt), h3, h4, blm.hits_snoc L r m hr]
    by_cases g : r ∈ L <;> simp [g]
theorem MapIs.kept {w w' : World} {B : Nat} {L : List Nat} {m n : Nat} {D : DataW Unit} (h : MapIs w B L m n D) (hb : Below w.heap.size w w') : MapIs w' B L m n D :=
  ⟨h.1, h.2.1.kept (grown_of_below hb none) (by simp), h.2.2⟩
theorem MapIs.other {w : World} {B : Nat} {L : List Nat} {m n : Nat} {D : DataW Unit} (h : MapIs w B L m n D) {a : Addr} {v : Value} (hc : w.cell? a = some v) : some a.block ≠ some B := by
  intro e
  obtain rfl : a.block = B := Option.some.inj e
  obtain ⟨es, clock, hb, _⟩ := h.2.1
  simp [World.cell?, hb] at hc
theorem bits_some4 (s : ByteArray) (m : Nat) (w : World) (hs : s.size ≤ 1000000) (hm : 1 ≤ m) (hm2 : m ≤ 1000000) (ht : TabAt w) :
    Calls Tryd.prog 16 #[.string s, .int .i64 (m : Int)] w fun e w' => ∃ ad c, e = .returned (.slice (some ad) 4 c) ∧ (∀ k, k < 4 → w'.cell? (ad.add k) = some (numV (blm.place s.data.toList m k))) ∧ Below w.heap.size w w' := by
  refine (bits_some s m w hs hm hm2 ht).mono ?_
  rintro e w' ⟨v, rfl, ⟨A, c, rfl, _, hc⟩, hb⟩
  obtain ⟨ad, rfl, _⟩ := hc 0 (numV (blm.place s.data.toList m 0)) rfl
  refine ⟨ad, c, rfl, fun k hk => ?_, hb⟩
  obtain ⟨ad', e2, h2⟩ := hc k (numV (blm.place s.data.toList m k)) (by
    match k, hk with
    | 0, _ => rfl
    | 1, _ => rfl
    | 2, _ => rfl
    | 3, _ => rfl)
  obtain rfl : ad = ad' := by injection e2
  exact h2

theorem bbits_out (v : Value) (names : List (List UInt8)) (b : Nat) (w : World) (hv : Texts w v names) (hok : okNames names = false) (ht : TabAt w) :
    Calls Tryd.prog 8 #[v, .int .u8 (b : Int)] w fun e w' => e = .returned (.bool true) ∧ Below w.heap.size w w' := by
  have hbo := bounded_any v names w hv
  rw [show (decide (names.length ≤ 100) && names.all fun t => decide (t.length ≤ 200)) = false from hok] at hbo
  have HBO := Lib.hid hbo
  clear hbo
  go_enter Tryd.func8, Tryd.ntmps8
  go_wp2_with fail
  refine HBO.out.mono ?_
  rintro e w0 ⟨rfl, rfl⟩
  go_wp2_with (go_at_call 10; refine (shown_any _ ht).mono ?_; rintro e w1 ⟨rfl, hb1⟩)
  go_ret
  exact ⟨rfl, hb1⟩

set_option maxHeartbeats 4000000 in
theorem bbits_in (v : Value) (names : List (List UInt8)) (b : Nat) (w : World) (hv : Texts w v names) (hok : okNames names = true) (hb : b ≤ 255) (ht : TabAt w) :
    Calls Tryd.prog 8 #[v, .int .u8 (b : Int)] w fun e w' => e = .returned (.bool true) ∧ Below w.heap.size w w' := by
  have hbo := bounded_any v names w hv
  rw [show (decide (names.length ≤ 100) && names.all fun t => decide (t.length ≤ 200)) = true from hok] at hbo
  have HBO := Lib.hid hbo
  obtain ⟨hnl, hns⟩ := okNames_in hok
  obtain ⟨each, hea⟩ : ∃ each, 1 + b % 64 = each := ⟨_, rfl⟩
  have hei : 1 + (b : Int) % 64 = (each : Int) := by omega
  obtain ⟨n, hn1, hn2, hmk⟩ := blm.make_ok names each (by omega) (by omega) (by omega)
  have hfl := blm.filt_len n names
  have hcnt := blm.cnt_hits n (by omega) names (8 * n)
  have hcf := blm.cnt_full (blm.filt n names)
  have hfull4 := blm.flat_len names (8 * n)
  have hin : ∀ t ∈ names, t.length ≤ 1000000 := fun t h => Nat.le_trans (hns t h) (by decide)
  have HIN := Lib.hid hin
  obtain ⟨F, hF⟩ : ∃ F, blm.filt n names = F := ⟨_, rfl⟩
  rw [hF] at hmk hfl hcnt hcf
  rw [hfl, hcnt] at hcf
  have hsz : (crcm.mk F).size = n := by rw [crcm.mk_size, hfl]
  obtain ⟨m, hm⟩ : ∃ m, 8 * n = m := ⟨_, rfl⟩
  have hmi : 8 * (n : Int) = (m : Int) := by omega
  rw [hm] at hcf hfull4
  have hm8 : 64 ≤ m := by omega
  have hm2 : m ≤ 160000 := by omega
  have HMK := Lib.hid hmk
  have HCF := Lib.hid hcf
  obtain ⟨⟨A, c, rfl, hA⟩, _⟩ := id hv
  have HA := Lib.hid hA
  obtain ⟨l, hl⟩ : ∃ l, names.length = l := ⟨_, rfl⟩
  have htk : names.take l = names := List.take_of_length_le (by omega)
  rw [hl] at HA hnl HBO hv hfull4 ⊢
  have hfk : ∀ k, k ≤ l → ((names.take k).flatMap fun s => blm.places s m).length = 4 * k := fun k hk => by rw [blm.flat_len, List.length_take]; omega
  have HFK := Lib.hid hfk
  have HTK := Lib.hid htk
  have Hl := Lib.hid hl
  clear hbo hin hns hea hmk hF hA hl hok hfl hcnt hcf hm hfk htk
  go_enter Tryd.func8, Tryd.ntmps8
  go_wp2_with fail
  refine HBO.out.mono ?_
  rintro e w0 ⟨rfl, rfl⟩
  go_wp2_with fail
  refine (shown_any _ ht).mono ?_
  rintro e w1 ⟨rfl, hb1⟩
  have ht1 := ht.below hb1 ht.1
  have hv1 := hv.below hb1
  have HB1 := Lib.hid hb1
  clear hb1
  go_wp2_with fail
  refine (make_any _ names (each : Int) w1 hv1 HIN.out ht1).mono ?_
  unfold MakePost
  rw [HMK.out]
  rintro e w2 ⟨rfl, hb2⟩
  have ht2 := ht1.below hb2 ht1.1
  have HB2 := Lib.hid (HB1.out.trans (hb2.mono HB1.out.size))
  clear hb2
  have hmm := @run_makeMap Tryd.prog
  go_wp2_with fail
  clear hmm
  go_loopw [8] (fun i wr => ∃ (k n2 : Nat) (D : DataW Unit), k ≤ l ∧ i = .int .i64 k ∧ MapIs wr w2.heap.size ((names.take k).flatMap fun s => blm.places s m) m n2 D ∧ Below w2.heap.size w2 wr) (fun i _ => l - (intOf i).toNat)
  case atStart => exact ⟨0, 0, .map [], Nat.zero_le _, rfl, ⟨Nat.zero_le _, World.ownsMap_made _ _ _ _, fun r => by simp [has], by
    clear HFK HTK
    suffices h : ∀ m, blm.hits [] m = 0 by exact (h m).symm
    intro m
    induction m with
    | zero => rfl
    | succ m ih => unfold blm.hits; rw [ih]; rfl⟩, (Below.refl _ _).alloc (Nat.le_refl _) _⟩
  case round =>
    obtain ⟨k, n2, D, hk, rfl, hmap, hbel⟩ := hrel
    have hbr : Below w.heap.size w wr := HB2.out.trans (hbel.mono HB2.out.size)
    have htr := ht.below hbr ht.1
    have HBE := Lib.hid hbel
    have HBR := Lib.hid hbr
    by_cases hlt : k < l
    · obtain ⟨a1, rfl, c1⟩ := HA.out k hlt
      have c1' := cell_later hbr c1
      have hmem : names.getD k [] ∈ names := by
        rw [List.getD_eq_getElem?_getD, List.getElem?_eq_getElem (by rw [Hl.out]; exact hlt)]; exact List.getElem_mem _
      have htm := HIN.out _ hmem
      have hsn : names.take (k + 1) = names.take k ++ [names.getD k []] := by
        rw [List.take_add_one, List.getD_eq_getElem?_getD, List.getElem?_eq_getElem (by rw [Hl.out]; exact hlt)]; rfl
      obtain ⟨t, hte⟩ : ∃ t, names.getD k [] = t := ⟨_, rfl⟩
      rw [hte] at c1' htm hsn
      have hfl4 := HFK.out k hk
      have hnext : ((names.take (k + 1)).flatMap fun s => blm.places s m) = ((names.take k).flatMap fun s => blm.places s m) ++ blm.places t m := by
        rw [hsn, List.flatMap_append]; simp
      obtain ⟨L, hL⟩ : ∃ L, ((names.take k).flatMap fun s => blm.places s m) = L := ⟨_, rfl⟩
      rw [hL] at hmap hnext hfl4
      have hbt := bits_some4 (crcm.mk t) m wr (by rw [crcm.mk_size]; exact htm) (by omega) (by omega) htr
      rw [crcm.mk_toList] at hbt
      have HBT := Lib.hid hbt
      have HN := Lib.hid hnext
      have HMAP := Lib.hid hmap
      clear hmem hte c1 hsn hnext hL hbt hmap hbel hbr
      go_wp2_with (go_at_call 16; refine HBT.out.mono ?_; rintro e w3 ⟨ad, c2, rfl, hcells, hb3⟩)
      have hmap3 := HMAP.out.kept hb3
      have HB3 := Lib.hid (HBE.out.trans (hb3.mono HBE.out.size))
      have HC := Lib.hid hcells
      have HMAP3 := Lib.hid hmap3
      clear hcells hmap3 hb3
      go_loopw [10] (fun i wr => ∃ (q n2 : Nat) (D : DataW Unit), q ≤ 4 ∧ i = .int .i64 q ∧ MapIs wr w2.heap.size (L ++ (blm.places t m).take q) m n2 D ∧ (∀ k, k < 4 → wr.cell? (ad.add k) = some (numV (blm.place t m k))) ∧ Below w2.heap.size w2 wr) (fun i _ => 4 - (intOf i).toNat)
      case atStart => exact ⟨0, n2, D, Nat.zero_le _, rfl, by rw [List.take_zero, List.append_nil]; exact HMAP3.out, HC.out, HB3.out⟩
      case round =>
        clear HMAP3 HMAP HC HB3
        obtain ⟨q, n3, D3, hq, rfl, hmap, hcells, hbel⟩ := hrel
        by_cases hlt4 : q < 4
        · have hc := hcells q hlt4
          unfold numV at hc
          have hpt := places_take t m q hlt4
          have hpp : blm.place t m q < m := blm.place_lt (by omega)
          obtain ⟨r, hr⟩ : ∃ r, blm.place t m q = r := ⟨_, rfl⟩
          rw [hr] at hc hpp hpt
          have hnl3 : n3 ≤ 1000 := by
            have := hmap.1
            rw [List.length_append, List.length_take] at this
            omega
          have hown := hmap.2.1
          have hnx : L ++ (blm.places t m).take (q + 1) = (L ++ (blm.places t m).take q) ++ [r] := by rw [hpt, List.append_assoc]
          have HNX := Lib.hid hnx
          have HMP := Lib.hid hmap
          have HCS := Lib.hid hcells
          have HBL := Lib.hid hbel
          have hkey : keyOf Tryd.prog 3 (.int .i64 (r : Int)) = some (.int .i64 (r : Int)) := keyOf_int_mk Tryd.underlying3 (WalkArith.wf_i64 (by omega))
          clear hnx hmap hcells hbel hpt hr
          go_wp2_with (first
            | (at_lookup; refine wpList_lookup_own_int _ rfl _ _ 37 rfl 3 3 .i64 lawInt Tryd.underlying37 Tryd.underlying3 (zeroInt _) w2.heap.size n3 _ rfl hown _ _ rfl hkey ?_; intro cc hat hwc)
            | (at_mapUpdate; refine wpList_mapUpdate_own _ rfl _ _ _ 37 rfl 3 3 lawInt Tryd.underlying37 _ w2.heap.size n3 _ rfl hown (by unfold maxLen; omega) _ _ _ rfl rfl hkey _ [] (plainElem_int Tryd.underlying3 (wrap64_wf _)) ?_; intro w4 hown4 hgrow4))
          go_roundw
          case rel => exact ⟨q + 1, n3 + 1, _, by omega, by go_num, by rw [HNX.out]; exact mapIs_step HMP.out r hpp _ hown4, fun j hj => hgrow4.cell (HCS.out j hj) (HMP.out.other (HCS.out j hj)), HBL.out.grown hgrow4 HBL.out.size (fun j hj => by cases hj; exact Nat.le_refl _)⟩
          case measure => simp [intOf]; omega
        · obtain rfl : q = 4 := by omega
          have h4 : (blm.places t m).take 4 = blm.places t m := rfl
          rw [h4] at hmap
          have HMP := Lib.hid hmap
          have HBL := Lib.hid hbel
          clear hmap hcells hbel h4
          go_wp2_with fail
          go_roundw
          case rel => exact ⟨k + 1, n3, D3, by omega, by go_num, by rw [HN.out]; exact HMP.out, HBL.out⟩
          case measure => simp [intOf]; omega
    · obtain rfl : k = l := by omega
      rw [HTK.out] at hmap
      have hsize := hmap.2.2.2
      rw [HCF.out] at hsize
      have HSZ := Lib.hid hsize
      have hfu := full_any (crcm.mk F) wr (by omega)
      rw [crcm.mk_toList] at hfu
      have HFU := Lib.hid hfu
      have HMP := Lib.hid hmap
      clear hmap hsize hfu hbel hbr
      go_wp2_with fail
      refine HFU.out.mono ?_
      rintro e w3 ⟨rfl, hb3⟩
      have hown := (HMP.out.kept hb3).2.1
      have HB3 := Lib.hid hb3
      clear hb3
      obtain ⟨N, hN⟩ : ∃ N, blm.full F = N := ⟨_, rfl⟩
      have hsz2 := HSZ.out
      rw [hN] at hsz2 ⊢
      clear hN
      have HS2 := Lib.hid hsz2
      clear hsz2
      have hlen := hown.len Tryd.underlying37 3
      rw [HS2.out] at hlen
      clear hown
      go_wp2
      go_ret
      exact ⟨rfl, HBR.out.trans (HB3.out.mono HBR.out.size)⟩
theorem bbits_law (v : Value) (names : List (List UInt8)) (b : Nat) (w : World) (hv : Texts w v names) (hb : b ≤ 255) (ht : TabAt w) :
    Calls Tryd.prog 8 #[v, .int .u8 (b : Int)] w fun e w' => e = .returned (.bool true) ∧ Below w.heap.size w w' := by
  cases hok : okNames names with
  | false => exact bbits_out v names b w hv hok ht
  | true => exact bbits_in v names b w hv hok hb ht
end Go.Proofs.YtckchihdeimgpaaDoor
