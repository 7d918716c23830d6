/- KcLeads: one behind the other. -/
import Derived.Test.YtmcibggjolckoaaGreatDoorGa44
import Derived.Deep.DeepCutAuto
import Derived.Maps.OwnSet
import Derived.Maps.OwnOps
import Derived.Maps.Views
namespace Go.Proofs.YtmcibggjolckoaaGreatDoor
open Go Go.RowKit Go.Deep Go.Maps
set_option maxRecDepth 100000
theorem lawU64 : Keyed Tryz.prog 28 := int_keyed Tryz.underlying28
theorem zeroInt (w : World) : (zeroValue 3).run Tryz.prog w = .ok (.int .i64 0) w := by kernel_rfl
/-- block b is a map that says who led -/
def LedIs (w : World) (b : Nat) (D : DataW Unit) (m : Nat) (g : cl.Gh) : Prop :=
  w.ownsMap Tryz.prog 28 (plainElem Tryz.prog 3) b m D ∧ ∀ (t : Nat) (c : Int), D.atKey (.int .u64 (t : Int)) (.lit (.int .i64 0)) = .lit (.int .i64 c) → c = 0 ∨ ∃ k : Nat, c = (k : Int) + 1 ∧ g.lead t = some k
theorem LedIs.le {w : World} {b m : Nat} {D : DataW Unit} {s s' : Nat → cl.St} {g g' : cl.Gh} (h : LedIs w b D m g) (hl : cl.Le s g s' g') : LedIs w b D m g' := ⟨h.1, fun t c hc => by
  rcases h.2 t c hc with e | ⟨k, e, hk⟩
  · exact .inl e
  · exact .inr ⟨k, e, hl.lead hk⟩⟩
theorem LedIs.later {w w' : World} {b m : Nat} {D : DataW Unit} {g : cl.Gh} (h : LedIs w b D m g) (hb : Below w.heap.size w w') : LedIs w' b D m g := by
  refine ⟨?_, h.2⟩
  obtain ⟨es, ck, h1, h2⟩ := h.1
  exact ⟨es, ck, (hb.block _ (Array.getElem?_eq_some_iff.1 h1).1).trans h1, h2⟩
theorem LedIs.stay {w w' : World} {b m n : Nat} {D : DataW Unit} {g : cl.Gh} {bs : Nat → Nat} (h : LedIs w b D m g) (hs : Stay (bsF bs) n w w') (hb : ∀ i, i < n → b ≠ bs i) : LedIs w' b D m g := by
  refine ⟨?_, h.2⟩
  obtain ⟨es, ck, h1, h2⟩ := h.1
  refine ⟨es, ck, hs.block b _ h1 ?_ hb, h2⟩
  rintro ⟨_, _, _, e, _⟩
  cases e
theorem LedIs.put {w w' : World} {b m : Nat} {D : DataW Unit} {g : cl.Gh} {t k : Nat} (h : LedIs w b D m g) (hg : g.lead t = some k) (ho : w'.ownsMap Tryz.prog 28 (plainElem Tryz.prog 3) b (m + 1) (D.put (.int .u64 (t : Int)) (.lit (.int .i64 ((k : Int) + 1))))) : LedIs w' b (D.put (.int .u64 (t : Int)) (.lit (.int .i64 ((k : Int) + 1)))) (m + 1) g := by
  refine ⟨ho, fun t' c hc => ?_⟩
  by_cases e : t' = t
  · subst e
    rw [atKey_put_same h.1.isMap (by trivial)] at hc
    injection hc with hc
    injection hc with _ hc
    exact .inr ⟨k, hc.symm, hg⟩
  · rw [atKey_put_other (by intro h; injection h with _ h'; omega)] at hc
    exact h.2 t' c hc
/-- a map that is not the cluster's is written -/
theorem CluAt.mapset {B : Nat} {w0 w w' : World} {c R : Nat} {C : cl.Clu} {F : Nat → Fp} {k : Nat} {wv : Value} {b : Nat} (h : CluAt B w0 w c R C F k wv) (hA : Apart [b] w w') (hge : w0.heap.size ≤ b) (hm : ∃ es ck, w.heap[b]? = some (.map es ck)) (hb : ∀ i, i < C.n → b ≠ (F i).b) : CluAt B w0 w' c R C F k wv := by
  obtain ⟨us, r1, r2⟩ := h.row
  obtain ⟨es, ck, hmm⟩ := hm
  have hne : ∀ y us u, Vb w y us u → y ∉ [b] := fun y us u hv hy => by
    obtain rfl : y = b := by simpa using hy
    unfold Vb at hv
    rw [hmm] at hv
    cases hv
  have hno : ∀ y ∈ [b], NotEnt w y := fun y hy cur e => by
    obtain rfl : y = b := by simpa using hy
    rw [hmm] at e
    cases e
  have hge' : ∀ y ∈ [b], w0.heap.size ≤ y := fun y hy => by
    obtain rfl : y = b := by simpa using hy
    exact hge
  refine ⟨h.bel.trans (hA.below _ h.bel.size hge'), h.blk.apart hA (hne _ _ _ h.blk), h.hc, h.hR, ⟨us, r1.apart hA (hne _ _ _ r1), r2⟩, h.n7, fun j hj => ?_, h.way.apart hA hno fun y hy cur e => ?_, h.w200, h.sep⟩
  · have pj := h.peers j hj
    refine pj.apart hA hno hge' fun y hy hyS => ?_
    have hyb : y = b := by simpa using hyS
    unfold Fp.blocks at hy
    split at hy
    · rename_i hu
      obtain ⟨_, _, v3, v4, _⟩ := pj.up hu
      simp only [List.mem_cons, List.not_mem_nil, or_false] at hy
      rcases hy with e | e | e | e | e
      · exact hne _ _ _ pj.blk (by rw [← e]; exact hyS)
      · exact hne _ _ _ pj.disk.dk.blk (by rw [← e]; exact hyS)
      · exact hb j hj (hyb.symm.trans e)
      · exact hne _ _ _ v3 (by rw [← e]; exact hyS)
      · exact hne _ _ _ v4 (by rw [← e]; exact hyS)
    · simp only [List.mem_cons, List.not_mem_nil, or_false] at hy
      rcases hy with e | e | e
      · exact hne _ _ _ pj.blk (by rw [← e]; exact hyS)
      · exact hne _ _ _ pj.disk.dk.blk (by rw [← e]; exact hyS)
      · exact hb j hj (hyb.symm.trans e)
  · obtain rfl : y = b := by simpa using hy
    rw [hmm] at e
    cases e
theorem Sys.mapset {B : Nat} {w0 : World} {c n M : Nat} {bs : Nat → Nat} {C : cl.Clu} {g : cl.Gh} {w w' : World} {b : Nat} (h : Sys B w0 c n M bs C g w) (hg : w.grownBy w' (some b)) (hge : w0.heap.size ≤ b) (hm : ∃ es ck, w.heap[b]? = some (.map es ck)) (hb : ∀ i, i < n → b ≠ bs i) : Sys B w0 c n M bs C g w' := by
  obtain ⟨R, k, F, wv, h1, h2⟩ := h.at_
  exact ⟨h.cn, h.lim, h.inv, h.w200, R, k, F, wv, h1.mapset (Apart.of_grown hg) hge hm fun i hi => by rw [h.cn] at hi; rw [h2 i hi]; exact hb i hi, h2⟩
set_option maxHeartbeats 16000000 in
theorem leads_any {w : World} {v : Value} {l : List cl.Act} (xm : Nat) (hx256 : xm < 256) (hA : Acts w v l) (ht : TabAt w) :
    Calls Tryz.prog 5 #[.int .u8 (xm : Int), v] w fun e w' => e = .returned (.bool true) ∧ Below w.heap.size w w' := by
  obtain ⟨r, hr5⟩ : ∃ r, xm % 5 = r := ⟨_, rfl⟩
  have hr : r < 5 := by rw [← hr5]; exact Nat.mod_lt _ (by decide)
  have hwx : IntKind.i64.wrap (xm : Int) = (xm : Int) := wrap_i64_in (by omega) (by omega)
  have hm5 := tmod_nat xm 5
  rw [hr5] at hm5
  have hm5 : ((xm : Int)).tmod 5 = (r : Int) := hm5
  obtain ⟨n, hn⟩ : ∃ n, 1 + r = n := ⟨_, rfl⟩
  have hwn : IntKind.i64.wrap (1 + (r : Int)) = (n : Int) := by rw [IntKind.wrap_i64]; omega
  have HNN : Hid (1 ≤ n ∧ n ≤ 7) := Lib.hid (by omega)
  clear hr5 hr hn hx256
  have HBDD := Lib.hid (bounded_any hA)
  have HSH := Lib.hid (shown_any w ht)
  obtain ⟨A, cp, rfl, hlm, hlc, hac⟩ := hA
  obtain ⟨L, hL⟩ : ∃ n, l.length = n := ⟨_, rfl⟩
  have HAC := Lib.hid hac
  have HLL := Lib.hid hL
  have HT := Lib.hid ht
  rw [hL] at HBDD hlm hlc ⊢
  have hcI : (L : Int) ≤ (cp : Int) := by omega
  clear hac hL ht hlm hlc
  cases hbb : boundedB l with
  | false =>
    rw [hbb] at HBDD
    clear hbb
    go_enter Tryz.func5, Tryz.ntmps5
    go_wp2_with (first | (go_at_call 16; refine HBDD.out.mono ?_; rintro e w5 ⟨rfl, rfl⟩) | (go_at_call 10; refine HSH.out.mono ?_; rintro e w1 ⟨rfl, hb1⟩; have HB1 := Lib.hid hb1; clear hb1))
    go_ret
    exact ⟨rfl, HB1.out⟩
  | true =>
    rw [hbb] at HBDD
    obtain ⟨hl150, htx⟩ := bounded_yes hbb
    rw [HLL.out] at hl150
    have HL150 := Lib.hid hl150
    have HTX := Lib.hid htx
    clear hbb hl150 htx
    go_enter Tryz.func5, Tryz.ntmps5
    go_upto_region 4 with (first | (go_at_call 16; refine HBDD.out.mono ?_; rintro e w5 ⟨rfl, rfl⟩) | (go_at_call 10; refine HSH.out.mono ?_; rintro e w1 ⟨rfl, hb1⟩; have HB1 := Lib.hid hb1; clear hb1))
    have HT1 : Hid (TabAt w1) := Lib.hid (HT.out.below HB1.out HT.out.1)
    have HNEW := Lib.hid (new_sys n w1 HNN.out.1 HNN.out.2 HT1.out)
    go_upto_region 7 with (go_at_call 11; refine HNEW.out.mono ?_; rintro e w2 ⟨c, bs, rfl, hs2⟩; have HS2 := Lib.hid hs2; clear hs2)
    clear HNEW HBDD HSH
    have HACT : Hid (∀ W, Below w1.heap.size w1 W → ∀ j, j < L → ∃ b o, A = some ⟨b, o, none⟩ ∧ W.rangeAt b (o + j * 6) (actC (l.getD j default)) ∧ ActOk (l.getD j default) ∧ (l.getD j default).text.length ≤ 100) := Lib.hid fun W hb j hj => by
      obtain ⟨b, o, e, hc⟩ := HAC.out (by rw [HLL.out]; omega)
      obtain ⟨k1, k2⟩ := hc j (by rw [HLL.out]; exact hj)
      exact ⟨b, o, e, fun t u ht => cell_later hb (cell_later HB1.out (k1 t u ht)), k2, HTX.out j (by rw [HLL.out]; exact hj)⟩
    have HSZ : Hid (∀ x : cl.Act, (Tryz.prog.info? 41).map (·.size) = some (actC x).length) := Lib.hid fun x => by rw [act_size]; rfl
    have hmm := @run_makeMap Tryz.prog
    go_upto_region 9 with fail
    clear hmm
    have hal : Below w2.heap.size w2 (w2.alloc (.map #[] 0)) := (Below.refl _ w2).alloc (Nat.le_refl _) _
    have hld0 : LedIs (w2.alloc (.map #[] 0)) w2.heap.size (.map []) 0 cl.gh0 := ⟨World.ownsMap_made _ _ _ _, fun t c hc => by
      left
      have e : (DataW.map [] : DataW Unit).atKey (.int .u64 (t : Int)) (.lit (.int .i64 0)) = .lit (.int .i64 0) := rfl
      rw [e] at hc
      injection hc with hc
      injection hc with _ hc
      exact hc.symm⟩
    have HS3 := Lib.hid (HS2.out.later hal)
    have hmb : w1.heap.size ≤ w2.heap.size ∧ ∀ i, i < n → w2.heap.size ≠ bs i := ⟨HS2.out.bel.size, fun i hi e => by
      obtain ⟨M, hM⟩ := HS2.out.maps i hi
      have h1 : FMap w2 (bs i) M := hM
      have := h1.lt
      omega⟩
    obtain ⟨mb, hmbe⟩ : ∃ b, w2.heap.size = b := ⟨_, rfl⟩
    rw [hmbe] at hld0 hmb ⊢
    have HMB := Lib.hid hmb
    have HL0 := Lib.hid hld0
    clear hal hld0 hmb hmbe HS2
    go_loopw [9] (fun i wr => ∃ (j : Nat) (C : cl.Clu) (g : cl.Gh) (D : DataW Unit) (m : Nat), j ≤ L ∧ i = .int .i64 j ∧ Sys 5000000 w1 c n (20 * j) bs C g wr ∧ LedIs wr mb D m g ∧ m ≤ 7 * j) (fun i _ => L - (intOf i).toNat)
    case atStart => exact ⟨0, _, _, _, 0, Nat.zero_le _, rfl, HS3.out, HL0.out, Nat.zero_le _⟩
    case round =>
      obtain ⟨j, C, g, D, m, hj, rfl, hs, hld, hmj⟩ := hrel
      have HS := Lib.hid hs
      have HLD := Lib.hid (And.intro hld hmj)
      have hwj : IntKind.i64.wrap ((j : Int) + 1) = (j : Int) + 1 := wrap_i64_in (by omega) (by have := HL150.out; omega)
      clear hs hld hmj HS3 HL0
      by_cases hlt : j < L
      · have hltI : (j : Int) < (L : Int) := by omega
        obtain ⟨b, o, hAe, hr, hok, htx⟩ := HACT.out _ HS.out.bel j hlt
        subst hAe
        obtain ⟨x, hx⟩ : ∃ x, l.getD j default = x := ⟨_, rfl⟩
        rw [hx] at hr hok htx
        have HR := Lib.hid hr
        have hcall := does_any HS.out (bd_3000 (by have := HL150.out; omega)) HT1.out (HNN.out.1) x hok htx
        have HCALL := Lib.hid hcall
        have HLT := Lib.hid hlt
        clear hr hok htx hx hcall hlt hj
        go_upto_region 13 with (first | (refine wpList_load_mid rfl 41 _ rfl b (o + j * 6) rfl _ _ HR.out Tryz.underlying41 rfl (HSZ.out _) ?_) | (go_at_call 17; refine HCALL.out.mono ?_; rintro e w5 ⟨v5, rfl, hN⟩; have HN := Lib.hid hN; clear hN))
        obtain ⟨C2, g2, hs2, hle, hst⟩ := HN.out
        have hl2 := (HLD.out.1.stay hst HMB.out.2).le hle
        have HS2 := Lib.hid hs2
        have HL2 := Lib.hid (And.intro hl2 HLD.out.2)
        clear hs2 hle hst hl2 HN HLD HS HR HCALL
        go_loopw [10] (fun k wx => ∃ (q : Nat) (D : DataW Unit) (m : Nat), q ≤ n ∧ k = .int .i64 q ∧ Sys 5000000 w1 c n (20 * j + 20) bs C2 g2 wx ∧ LedIs wx mb D m g2 ∧ m ≤ 7 * j + q) (fun k _ => n - (intOf k).toNat)
        case atStart => exact ⟨0, D, m, Nat.zero_le _, rfl, HS2.out, HL2.out.1, HL2.out.2⟩
        case round =>
          obtain ⟨q, D, m, hq, rfl, hs, hld, hmq⟩ := hrel
          have HS := Lib.hid hs
          have HLD := Lib.hid (And.intro hld hmq)
          have hwq : IntKind.i64.wrap ((q : Int) + 1) = (q : Int) + 1 := wrap_i64_in (by omega) (by have := HNN.out; omega)
          clear hs hld hmq HS2 HL2
          by_cases hltq : q < n
          · have hltqI : (q : Int) < (n : Int) := by omega
            have hqn : q < C2.n := by rw [HS.out.cn]; exact hltq
            have hn1 := HS.out.node (i := q) hltq
            have hok := nodeOf_ok HS.out hltq
            have hfact : (C2.p q).up = true → (nodeOf C2 q).role = 2 → (nodeOf C2 q).id = (q : Int) ∧ (nodeOf C2 q).many = (n : Int) ∧ g2.lead (nodeOf C2 q).term = some q ∧ (nodeOf C2 q).term < 18446744073709551616 := fun hu hr => by
              have e : nodeOf C2 q = (C2.p q).x := by unfold nodeOf; rw [if_pos hu]
              rw [e] at hr ⊢
              have u := HS.out.inv.up q hqn hu
              refine ⟨u.id, by rw [u.many, HS.out.cn], cl.led_by HS.out.inv hqn hu hr, ?_⟩
              have := (HS.out.lim.up q hqn hu).term
              have := HL150.out
              have := HLT.out
              omega
            obtain ⟨x, hx⟩ : ∃ x, nodeOf C2 q = x := ⟨_, rfl⟩
            rw [hx] at hn1 hok hfact
            have HN1 := Lib.hid hn1
            have HOK := Lib.hid hok
            have HFA := Lib.hid hfact
            have HLQ := Lib.hid hltq
            clear hn1 hok hfact hltq hq hqn hx
            go_upto_region 16 with (first | (go_at_call 19; refine HN1.out.mono ?_; rintro e w6 ⟨Ax, dx, rfl, hE6, hb6⟩; obtain ⟨ev, hev⟩ : ∃ v, Value.slice Ax x.log.length dx = v := ⟨_, rfl⟩; have hoe : ev.oneCell' = true := (hev ▸ rfl); rw [hev]; unfold ndV; have HS6 : Hid ((ndC x ev).toArray.size = 30) := Lib.hid (by rw [List.size_toArray, ndC_len HOK.out]); have HZ : Hid (Blk (w6.alloc (.cells #[.int .i64 0, .int .i64 0, .int .u64 0, .int .i64 0, .slice none 0 0, .int .i64 0, .int .i64 0, .int .u64 0, .int .i64 0, .bool false, .bool false, .bool false, .bool false, .bool false, .bool false, .bool false, .int .u64 0, .int .u64 0, .int .u64 0, .int .u64 0, .int .u64 0, .int .u64 0, .int .u64 0, .int .u64 0, .int .u64 0, .int .u64 0, .int .u64 0, .int .u64 0, .int .u64 0, .int .u64 0] 50)) w6.heap.size (ndC zeroN nilV) 50) := Lib.hid (Blk.new w6 _ _); have HOE := Lib.hid hoe; have HB6 := Lib.hid hb6; clear hE6 hb6 hev hoe) | (refine wpList_store_row rfl 50 (.tmp 11) (.tmp 57) rfl w6.heap.size (ndC x ev).toArray rfl rfl _ _ HZ.out (by rw [node_size, HS6.out]) (by rw [HS6.out]; rfl) (ndC_one HOE.out) ?_))
            have hbk := HZ.out.row (ndC x ev)
            have hbl : Below w6.heap.size w6 ((w6.alloc (.cells #[.int .i64 0, .int .i64 0, .int .u64 0, .int .i64 0, .slice none 0 0, .int .i64 0, .int .i64 0, .int .u64 0, .int .i64 0, .bool false, .bool false, .bool false, .bool false, .bool false, .bool false, .bool false, .int .u64 0, .int .u64 0, .int .u64 0, .int .u64 0, .int .u64 0, .int .u64 0, .int .u64 0, .int .u64 0, .int .u64 0, .int .u64 0, .int .u64 0, .int .u64 0, .int .u64 0, .int .u64 0] 50)).setRow w6.heap.size (ndC x ev).toArray) := ((Below.refl _ w6).alloc (Nat.le_refl _) _).trans (below_setRow _ _ _ (Nat.le_refl _))
            have hbw := HB6.out.trans (hbl.mono HB6.out.size)
            obtain ⟨bn, hbn⟩ : ∃ b, w6.heap.size = b := ⟨_, rfl⟩
            rw [hbn] at hbk hbw ⊢
            obtain ⟨W7, hW7⟩ : ∃ W, (w6.alloc (.cells #[.int .i64 0, .int .i64 0, .int .u64 0, .int .i64 0, .slice none 0 0, .int .i64 0, .int .i64 0, .int .u64 0, .int .i64 0, .bool false, .bool false, .bool false, .bool false, .bool false, .bool false, .bool false, .int .u64 0, .int .u64 0, .int .u64 0, .int .u64 0, .int .u64 0, .int .u64 0, .int .u64 0, .int .u64 0, .int .u64 0, .int .u64 0, .int .u64 0, .int .u64 0, .int .u64 0, .int .u64 0] 50)).setRow bn (ndC x ev).toArray = W := ⟨_, rfl⟩
            rw [hW7] at hbk hbw ⊢
            have HS7 := Lib.hid (HS.out.later hbw)
            have HL7 := Lib.hid (HLD.out.1.later hbw)
            have HBK := Lib.hid hbk
            have HMQ := Lib.hid HLD.out.2
            have HUP := Lib.hid (HS7.out.isup HLQ.out)
            clear hbk hbl hbw hbn hW7 HZ HB6 HN1 HS HLD HS6
            cases hu : (C2.p q).up with
            | false =>
              rw [hu] at HUP
              clear hu HBK
              go_wp2_with (go_at_call 20; refine HUP.out.mono ?_; rintro e w8 ⟨rfl, hb8⟩; have HB8 := Lib.hid hb8; clear hb8)
              go_roundw
              case rel => exact ⟨q + 1, D, m, HLQ.out, by go_num, HS7.out.later HB8.out, HL7.out.later HB8.out, by have := HMQ.out; omega⟩
              case measure => have := HLQ.out; simp [intOf]; omega
            | true =>
              rw [hu] at HUP
              by_cases hr2 : x.role = 2
              · obtain ⟨f1, f2, f3, f4⟩ := HFA.out hu hr2
                have MK : Hid (∀ W, Below W7.heap.size W7 W → W.cell? ⟨bn, 0, none⟩ = some (.int .i64 (q : Int)) ∧ W.cell? ⟨bn, 1, none⟩ = some (.int .i64 (n : Int)) ∧ W.cell? ⟨bn, 2, none⟩ = some (.int .u64 (x.term : Int)) ∧ W.cell? ⟨bn, 5, none⟩ = some (.int .i64 2)) := Lib.hid fun W hb => ⟨by rw [← f1]; exact cell_later hb (HBK.out.cell 0 _ rfl), by rw [← f2]; exact cell_later hb (HBK.out.cell 1 _ rfl), cell_later hb (HBK.out.cell 2 _ rfl), by rw [← hr2]; exact cell_later hb (HBK.out.cell 5 _ rfl)⟩
                obtain ⟨t, htt⟩ : ∃ t, x.term = t := ⟨_, rfl⟩
                rw [htt] at MK f3 f4
                have HF3 := Lib.hid f3
                have hkey : keyOf Tryz.prog 28 (.int .u64 (t : Int)) = some (.int .u64 (t : Int)) := keyOf_int_mk Tryz.underlying28 (WalkArith.wf_u64 (by omega))
                have HKEY := Lib.hid hkey
                have hwq1 : IntKind.i64.wrap ((q : Int) + 1) = (q : Int) + 1 := hwq
                clear hu hr2 f1 f2 f3 f4 htt hkey HFA HBK
                go_upto_region 17 with (go_at_call 20; refine HUP.out.mono ?_; rintro e w8 ⟨rfl, hb8⟩; obtain ⟨c0, c1, c2, c5⟩ := MK.out _ hb8; have HL8 := Lib.hid (HL7.out.later hb8); have HS8 := Lib.hid (HS7.out.later hb8); have hown := HL8.out.1; clear hb8)
                clear HS7 HL7 HUP MK
                have hmm : m < maxLen := by
                  have h1 := HMQ.out
                  have h2 := HL150.out
                  have h3 := HLT.out
                  have h4 := HNN.out
                  have h5 := HLQ.out
                  unfold maxLen
                  omega
                have HMM := Lib.hid hmm
                have hq7 : q < 7 := by have := HLQ.out; have := HNN.out; omega
                have HWF : Hid ((Lit.int .i64 ((q : Int) + 1)).wf = true) := Lib.hid (WalkArith.wf_i64 (by omega))
                clear hmm hq7
                go_upto_region 18 with (at_lookup; refine wpList_lookup_own_int _ rfl _ _ 44 rfl 28 3 .i64 lawU64 Tryz.underlying44 Tryz.underlying3 (zeroInt _) mb m _ rfl hown _ _ rfl HKEY.out ?_; intro cc hat hwc)
                have hcc : cc = 0 ∨ cc = (q : Int) + 1 := by
                  rcases HL8.out.2 t cc hat with e | ⟨k', e, hk'⟩
                  · exact .inl e
                  · right
                    have hk2 : q = k' := Option.some.inj (HF3.out.symm.trans hk')
                    rw [e, hk2]
                clear hat hwc
                rcases hcc with rfl | rfl
                · go_wp2_with (at_mapUpdate; refine wpList_mapUpdate_own _ rfl _ _ _ 44 rfl 28 3 lawU64 Tryz.underlying44 _ mb m _ rfl hown HMM.out _ _ _ rfl rfl HKEY.out _ [] (plainElem_int Tryz.underlying3 HWF.out) ?_; intro w9 hown9 hgrow9; have HO9 := Lib.hid (And.intro hown9 hgrow9); clear hown9 hgrow9)
                  go_roundw
                  case rel => exact ⟨q + 1, _, m + 1, HLQ.out, by go_num, HS8.out.mapset HO9.out.2 HMB.out.1 (by obtain ⟨es, ck, h1, _⟩ := HL8.out.1; exact ⟨es, ck, h1⟩) HMB.out.2, HL8.out.put HF3.out HO9.out.1, by have := HMQ.out; omega⟩
                  case measure => have := HLQ.out; simp [intOf]; omega
                · have z1 : (((q : Int) + 1) != 0) = true := by rw [bne_iff_ne]; omega
                  have z2 : (((q : Int) + 1) != ((q : Int) + 1)) = false := by simp
                  go_wp2_with (at_mapUpdate; refine wpList_mapUpdate_own _ rfl _ _ _ 44 rfl 28 3 lawU64 Tryz.underlying44 _ mb m _ rfl hown HMM.out _ _ _ rfl rfl HKEY.out _ [] (plainElem_int Tryz.underlying3 HWF.out) ?_; intro w9 hown9 hgrow9; have HO9 := Lib.hid (And.intro hown9 hgrow9); clear hown9 hgrow9)
                  go_roundw
                  case rel => exact ⟨q + 1, _, m + 1, HLQ.out, by go_num, HS8.out.mapset HO9.out.2 HMB.out.1 (by obtain ⟨es, ck, h1, _⟩ := HL8.out.1; exact ⟨es, ck, h1⟩) HMB.out.2, HL8.out.put HF3.out HO9.out.1, by have := HMQ.out; omega⟩
                  case measure => have := HLQ.out; simp [intOf]; omega
              · have c5 : ∀ W, Below W7.heap.size W7 W → W.cell? ⟨bn, 5, none⟩ = some (.int .i64 x.role) := fun W hb => cell_later hb (HBK.out.cell 5 _ rfl)
                have C5 := Lib.hid c5
                obtain ⟨r0, hr0⟩ : ∃ r, x.role = r := ⟨_, rfl⟩
                rw [hr0] at C5 hr2
                have hrb : (r0 != 2) = true := by simpa using hr2
                clear hu c5 hr2 hr0 HBK HFA
                go_wp2_with (go_at_call 20; refine HUP.out.mono ?_; rintro e w8 ⟨rfl, hb8⟩; have c5 := C5.out _ hb8; have HB8 := Lib.hid hb8; clear hb8)
                go_roundw
                case rel => exact ⟨q + 1, D, m, HLQ.out, by go_num, HS7.out.later HB8.out, HL7.out.later HB8.out, by have := HMQ.out; omega⟩
                case measure => have := HLQ.out; simp [intOf]; omega
          · obtain rfl : q = n := by omega
            clear hltq hq hwq
            go_wp2_with fail
            go_roundw
            case rel => exact ⟨j + 1, C2, g2, D, m, HLT.out, by go_num, by rw [Nat.mul_succ]; exact HS.out, HLD.out.1, by have := HLD.out.2; have := HNN.out.2; omega⟩
            case measure => have := HLT.out; simp [intOf]; omega
      · obtain rfl : j = L := by omega
        have hbel := HS.out.bel
        have HBEL := Lib.hid hbel
        clear hbel hlt hj hwj HS HLD
        go_wp2_with fail
        go_ret
        exact ⟨rfl, HB1.out.trans (HBEL.out.mono HB1.out.size)⟩
end Go.Proofs.YtmcibggjolckoaaGreatDoor
