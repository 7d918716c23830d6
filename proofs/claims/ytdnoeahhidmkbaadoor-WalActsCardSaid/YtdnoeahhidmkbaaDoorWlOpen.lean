/- Open: a log anew. -/
import Derived.Test.YtdnoeahhidmkbaaDoorWlLog
import Derived.Test.YtdnoeahhidmkbaaDoorCrcAllIt
namespace Go.Proofs.YtdnoeahhidmkbaaDoor
open Go Go.RowKit
set_option maxRecDepth 100000

namespace wl
def openE (n : vd.Name) : Bool := decide (n ≠ []) && decide (n.length ≤ 59)
/-- the file is brought in order -/
def mend (d : vd.Disk) (n : vd.Name) : vd.Disk × Nat :=
  if (vd.read d n).2 = 3 ∨ (crcm.allOf (vd.read d n).1).2 < (vd.read d n).1.length then write d n ((vd.read d n).1.take (crcm.allOf (vd.read d n).1).2) else vd.sync d n
def open_ (d : vd.Disk) (n : vd.Name) : vd.Disk × List (List UInt8) × Nat :=
  if openE n = false then (d, [], 1) else
  if (vd.read d n).2 ≠ 0 ∧ (vd.read d n).2 ≠ 3 then (d, [], (vd.read d n).2) else
  if (mend d n).2 ≠ 0 then ((mend d n).1, [], (mend d n).2) else ((mend d n).1, (crcm.allOf (vd.read d n).1).1, 0)
end wl
theorem strs_none (w : World) : Strs w (.slice none 0 0) [] := ⟨none, 0, rfl, fun k hk => by simp at hk⟩
theorem StrsB.apart {B : Nat} {S : List Nat} {w w' : World} {v : Value} {ls : List (List UInt8)} (h : StrsB B w v ls) (hA : Apart S w w') (hS : ∀ x ∈ S, x < B ∨ w.heap.size ≤ x) : Strs w' v ls := by
  obtain ⟨A, c, e, hc⟩ := h
  refine ⟨A, c, e, fun k hk => ?_⟩
  obtain ⟨ad, e2, h1, h2⟩ := hc k hk
  refine ⟨ad, e2, ?_⟩
  have hlt : (ad.add k).block < w.heap.size := World.block_lt_of_cell? _ _ h2
  have hn : (ad.add k).block ∉ S := fun hx => by
    have hb : B ≤ (ad.add k).block := by rw [show (ad.add k).block = ad.block from by simp only [Addr.add]; split <;> rfl]; exact h1
    rcases hS _ hx with h | h <;> omega
  have := hA.block _ hlt hn
  unfold World.cell? at h2 ⊢
  rw [this]; exact h2
theorem owns_apart {w w' : World} {base : Nat} {e : TypeId} {size n : Nat} {v : Value} {xs : List Value} {S : List Nat} (h : w.ownsRow base e size v n xs) (hA : Apart S w w') (hS : ∀ g, v.ownBlock = some g → g ∉ S) : w'.ownsRow base e size v n xs := by
  refine ⟨h.1, ?_⟩
  rcases h.2 with h | ⟨g, cap, cur, rfl, hb, hh, r⟩
  · exact .inl h
  · exact .inr ⟨g, cap, cur, rfl, hb, (hA.block g (Array.getElem?_eq_some_iff.1 hh).1 (hS g rfl)).trans hh, r⟩
/-- a row of strings is none of the disk's blocks -/
theorem own_out2 {w : World} {base n : Nat} {v : Value} {xs : List Value} (h : w.ownsRow base 9 1 v n xs) {p b : Nat} {d : vd.Disk} (hd : Dk w p b d) : ∀ x, v.ownBlock = some x → x ∉ [p, b] := by
  intro x hx
  rcases h.2 with ⟨rfl, _⟩ | ⟨y, cap, cur, rfl, _, hh, _⟩
  · cases hx
  · obtain rfl : y = x := by simpa [Value.ownBlock] using hx
    intro hm
    rcases List.mem_cons.1 hm with rfl | hm
    · have := hd.blk
      unfold Vb at this
      rw [hh] at this
      simp at this
    rcases List.mem_cons.1 hm with rfl | hm
    · obtain ⟨es, c, hb, _⟩ := hd.map
      rw [hh] at hb; cases hb
    cases hm
/-- what a call of Open hands back -/
def Opened (w : World) (p b : Nat) (d : vd.Disk) (n : vd.Name) (e : Ending) (w' : World) : Prop :=
  ∃ lv tv g, e = .returned (.tuple #[lv, tv, .int .i64 ((wl.open_ d n).2.2 : Nat)]) ∧ Dk w' p b (wl.open_ d n).1 ∧ Apart [p, b] w w' ∧ vd.Ok (wl.open_ d n).1 ∧ w.heap.size ≤ g ∧ (∀ w'', Apart [p, b, g] w' w'' → Strs w'' tv (wl.open_ d n).2.1) ∧
    ((wl.open_ d n).2.2 = 0 → lv = .pointer (some ⟨g, 0, none⟩) ∧ Lg w' g p ⟨n, (wl.open_ d n).2.1.length, false⟩) ∧ ((wl.open_ d n).2.2 ≠ 0 → lv = .pointer none) ∧ w'.ownsRow w.heap.size 9 1 tv (wl.open_ d n).2.1.length ((wl.open_ d n).2.1.map strV)
theorem vd.read_len {d : vd.Disk} (hok : vd.Ok d) (n : vd.Name) : (vd.read d n).1.length ≤ d.cap := by
  have h1 := vd.total_del d.files n
  have h2 := hok.tot
  unfold vd.read
  split
  · exact Nat.zero_le _
  · split
    · show (vd.at_ d.files n).1.length ≤ _; omega
    · exact Nat.zero_le _
set_option maxHeartbeats 8000000 in
theorem wal_open {w : World} {p b : Nat} {d : vd.Disk} (n : vd.Name) (hd : Dk w p b d) (hok : vd.Ok d) (hc : d.cap ≤ 10000000) (hn : n.length ≤ 200) (ht : TabAt w) (ht0 : 0 < w.heap.size) :
    Calls Tryd.prog 11 #[dptr p, keyV n] w (Opened w p b d n) := by
  have hnl : n.length ≤ maxLen := by unfold maxLen; omega
  have hrl := vd.read_len hok n
  have hpl := hd.blk.lt
  have hbl := hd.map.lt
  have hrd := vd_read n hd hnl
  obtain ⟨Sx, hS⟩ : ∃ S, (vd.read d n).1 = S := ⟨_, rfl⟩
  obtain ⟨er, her⟩ : ∃ er, (vd.read d n).2 = er := ⟨_, rfl⟩
  obtain ⟨ts, hts⟩ : ∃ ts, (crcm.allOf Sx).1 = ts := ⟨_, rfl⟩
  obtain ⟨en, hen⟩ : ∃ en, (crcm.allOf Sx).2 = en := ⟨_, rfl⟩
  rw [hS, her] at hrd
  rw [hS] at hrl
  have hle := crcm.allOf_le Sx
  rw [hts, hen] at hle
  obtain ⟨SL, hSL⟩ : ∃ SL, Sx.length = SL := ⟨_, rfl⟩
  rw [hSL] at hle hrl
  have hsz : (crcm.mk Sx).size = SL := by rw [crcm.mk_size, hSL]
  have hall : ∀ w', Below w.heap.size w w' → Calls Tryd.prog 36 #[.string (crcm.mk Sx)] w' fun e w2 => ∃ v, e = .returned (.tuple #[v, .int .i64 (en : Nat)]) ∧ w2.ownsRow w'.heap.size 9 1 v ts.length (ts.map strV) ∧ Below w'.heap.size w' w2 := by
    intro w' hb
    have := all_own (crcm.mk Sx) w' (by rw [hsz]; omega) (ht.below hb ht0)
    rw [crcm.mk_toList, hts, hen] at this
    exact this
  obtain ⟨m, hm⟩ : ∃ m, wl.mend d n = m := ⟨_, rfl⟩
  have hmend : m = if er = 3 ∨ en < SL then wl.write d n (Sx.take en) else vd.sync d n := by rw [← hm]; unfold wl.mend; rw [her, hS, hen, hSL]
  have hres : wl.open_ d n = if wl.openE n = false then (d, [], 1) else if er ≠ 0 ∧ er ≠ 3 then (d, [], er) else if m.2 ≠ 0 then (m.1, [], m.2) else (m.1, ts, 0) := by
    unfold wl.open_
    rw [her, hS, hm, hts]
  have hdk : ∀ w', Below w.heap.size w w' → Dk w' p b d := fun w' h => ⟨(h.block _ hpl).trans hd.blk, hd.map.below h⟩
  have hie : (crcm.mk n).toList.isEmpty = n.isEmpty := by rw [mk_toL]
  obtain ⟨N, hN⟩ : ∃ N, n.length = N := ⟨_, rfl⟩
  have hszn : (crcm.mk n).size = N := by rw [crcm.mk_size, hN]
  have HALL := Lib.hid hall
  have HM := Lib.hid hmend
  have HR := Lib.hid hres
  have HK := Lib.hid hdk
  have HOK := Lib.hid hok
  have hex : (crcm.mk Sx).extract 0 en = crcm.mk (Sx.take en) := by rw [Lib.extract_eq]; show (⟨((crcm.mk Sx).data.toList.drop 0 |>.take (en - 0)).toArray⟩ : ByteArray) = _; rw [crcm.mk_toList]; rfl
  have htk : (Sx.take en).length ≤ 1000000000 := by rw [List.length_take]; omega
  clear hall hmend hres hdk hm hS her hts hen hSL hok hd ht
  unfold dptr keyV
  unfold dptr keyV at hrd
  go_enter Tryd.func11, Tryd.ntmps11
  by_cases hg : wl.openE n = true
  · have hg' := hg
    unfold wl.openE at hg
    rw [Bool.and_eq_true, decide_eq_true_iff, decide_eq_true_iff, hN] at hg
    obtain ⟨hne, h59⟩ := hg
    have hni : n.isEmpty = false := by
      cases n with
      | nil => exact absurd rfl hne
      | cons x r => rfl
    rw [hni] at hie
    have HG := Lib.hid hg'
    clear hne hni hg' hN
    go_wp2_with fail
    refine hrd.mono ?_
    rintro e w1 ⟨rfl, hb1⟩
    clear hrd
    by_cases he : er ≠ 0 ∧ er ≠ 3
    · have hb0 : ((er : Int) != 0) = true := by simp; omega
      have hb3 : ((er : Int) != 3) = true := by simp; omega
      have hR2 : wl.open_ d n = (d, [], er) := by rw [HR.out, HG.out, if_neg (by simp), if_pos he]
      have HR2 := Lib.hid hR2
      clear hR2
      go_wp2_with fail
      go_ret3
      unfold Opened
      rw [HR2.out]
      exact ⟨_, _, _, rfl, HK.out _ hb1, .of_below hb1 _, HOK.out, Nat.le_refl _, fun _ _ => strs_none _, fun h => absurd h he.1, fun _ => rfl, World.ownsRow_nil _ _ _ _⟩
    · have her : er = 0 ∨ er = 3 := by omega
      have hR2 : wl.open_ d n = if m.2 ≠ 0 then (m.1, [], m.2) else (m.1, ts, 0) := by rw [HR.out, HG.out, if_neg (by simp), if_neg he]
      have HR2 := Lib.hid hR2
      have hcall := HALL.out w1 hb1
      -- what lies behind crc.All: the log's struct
      have htail : ∀ w2 v, Below w.heap.size w w2 → w2.ownsRow w1.heap.size 9 1 v ts.length (ts.map strV) → ∃ A c, v = .slice A ts.length c ∧ (∀ w'', Apart [p, b, w2.heap.size] w2 w'' → Strs w'' v ts) ∧
          ∀ W, W = w2.alloc (.cells #[dptr p, keyV n, .int .i64 (ts.length : Int), .bool false] 82) → Lg W w2.heap.size p ⟨n, ts.length, false⟩ ∧ Dk W p b d ∧ Apart [p, b] w W ∧ Apart [p, b, w2.heap.size] w2 W ∧ W.ownsRow w.heap.size 9 1 v ts.length (ts.map strV) := by
        intro w2 v hb2 hv
        obtain ⟨A, c, e, hA⟩ := strsB_of_owns rfl hv
        have hs1 := hb1.size
        refine ⟨A, c, e, fun w'' h => StrsB.apart ⟨A, c, e, hA⟩ h (by simp; omega), ?_⟩
        rintro W rfl
        have hb3 : Below w2.heap.size w2 (w2.alloc (.cells #[dptr p, keyV n, .int .i64 (ts.length : Int), .bool false] 82)) := (Below.refl _ w2).alloc (Nat.le_refl _) _
        have hb03 := hb2.trans (hb3.mono hb2.size)
        exact ⟨Vb.new w2 _ _, HK.out _ hb03, .of_below hb03 _, .of_below hb3 _, owns_mono (owns_below hv hb3) (by omega)⟩
      have hwrite : ∀ W g, Lg W g p ⟨n, ts.length, false⟩ → Dk W p b d → Calls Tryd.prog 37 #[.pointer (some ⟨g, 0, none⟩), .string (crcm.mk (Sx.take en))] W (fun e w' => e = .returned (.int .i64 ((wl.write d n (Sx.take en)).2 : Nat)) ∧ Dk w' p b (wl.write d n (Sx.take en)).1 ∧ Apart [p, b] W w' ∧ vd.Ok (wl.write d n (Sx.take en)).1) :=
        fun W g h1 h2 => wal_write (l := ⟨n, ts.length, false⟩) _ h1 h2 HOK.out hn htk
      have hsync : ∀ W, Dk W p b d → Calls Tryd.prog 38 #[.pointer (some ⟨p, 0, none⟩), .string (crcm.mk n)] W (fun e w' => e = .returned (.int .i64 ((vd.sync d n).2 : Nat)) ∧ Dk w' p b (vd.sync d n).1 ∧ Apart [p, b] W w') :=
        fun W h2 => vd_sync n h2 HOK.out hnl
      have HT := Lib.hid htail
      have HW := Lib.hid hwrite
      have HS := Lib.hid hsync
      have hmk0 : ∀ (D2 : vd.Disk) w2 W w5 v, m = (D2, 0) → Dk w5 p b D2 → Apart [p, b] w W → Apart [p, b] W w5 → Below w.heap.size w w2 → Lg W w2.heap.size p ⟨n, ts.length, false⟩ → Dk W p b d → Apart [p, b, w2.heap.size] w2 W → (∀ w'', Apart [p, b, w2.heap.size] w2 w'' → Strs w'' v ts) → vd.Ok D2 → W.ownsRow w.heap.size 9 1 v ts.length (ts.map strV) →
          Opened w p b d n (.returned (.tuple #[.pointer (some ⟨w2.heap.size, 0, none⟩), v, .int .i64 0])) w5 := by
        intro D2 w2 W w5 v hm h1 h2 h3 h4 h5 h6 h7 h8 h9 h10
        unfold Opened
        rw [HR2.out, hm]
        exact ⟨_, _, w2.heap.size, rfl, h1, h2.trans h3, h9, h4.size, fun w'' h => h8 w'' ((h7.trans (h3.mono (by simp))).trans h), fun _ => ⟨rfl, h5.apart h3 (log_out h5 h6)⟩, fun h => absurd rfl h, owns_apart h10 h3 (own_out2 h10 h6)⟩
      have hmk1 : ∀ (D2 : vd.Disk) (e2 : Nat) W w5, m = (D2, e2) → e2 ≠ 0 → Dk w5 p b D2 → Apart [p, b] w W → Apart [p, b] W w5 → vd.Ok D2 →
          Opened w p b d n (.returned (.tuple #[.pointer none, .slice none 0 0, .int .i64 (e2 : Nat)])) w5 := by
        intro D2 e2 W w5 hm h0 h1 h2 h3 h9
        unfold Opened
        rw [HR2.out, hm, if_pos h0]
        exact ⟨_, _, _, rfl, h1, h2.trans h3, h9, Nat.le_refl _, fun _ _ => strs_none _, fun h => absurd h h0, fun _ => rfl, World.ownsRow_nil _ _ _ _⟩
      have HM0 := Lib.hid hmk0
      have HM1 := Lib.hid hmk1
      clear htail hwrite hsync hmk0 hmk1 hR2 he
      rcases her with rfl | rfl
      · by_cases hlt : en < SL
        · have hlti : (en : Int) < (SL : Int) := by omega
          have hm2 : m = wl.write d n (Sx.take en) := by rw [HM.out, if_pos (.inr hlt)]
          obtain ⟨⟨D2, e2⟩, hr⟩ : ∃ r, wl.write d n (Sx.take en) = r := ⟨_, rfl⟩
          rw [hr] at hm2
          have HM2 := Lib.hid hm2
          have HRR := Lib.hid hr
          clear hm2 hr
          go_wp2_with fail
          refine hcall.mono ?_
          rintro e w2 ⟨v, rfl, hv, hb2⟩
          have hb02 := hb1.trans (hb2.mono hb1.size)
          obtain ⟨A, c, rfl, hkeep, hW'⟩ := HT.out w2 v hb02 hv
          obtain ⟨W, hW⟩ : ∃ W, w2.alloc (.cells #[.pointer (some ⟨p, 0, none⟩), .string (crcm.mk n), .int .i64 (ts.length : Int), .bool false] 82) = W := ⟨_, rfl⟩
          obtain ⟨hgW, hdW, hAW, hAW2, hOW⟩ := hW' W hW.symm
          have hw := HW.out W _ hgW hdW
          rw [HRR.out] at hw
          have HKP := Lib.hid hkeep
          have HOW := Lib.hid hOW
          clear hW' hcall hv hkeep hOW
          go_wp2_with fail
          refine hw.mono ?_
          rintro e w5 ⟨rfl, h1, h2, h3⟩
          by_cases h0 : e2 = 0
          · subst h0
            go_wp2_with fail
            go_ret3
            exact HM0.out D2 w2 W w5 _ HM2.out h1 hAW h2 hb02 hgW hdW hAW2 HKP.out h3 HOW.out
          · have h0i : ¬ (e2 : Int) = 0 := by omega
            go_wp2_with fail
            go_ret3
            exact HM1.out D2 e2 W w5 HM2.out h0 h1 hAW h2 h3
        · have hlti : ¬ (en : Int) < (SL : Int) := by omega
          have hm2 : m = vd.sync d n := by rw [HM.out, if_neg (by omega)]
          obtain ⟨⟨D2, e2⟩, hr⟩ : ∃ r, vd.sync d n = r := ⟨_, rfl⟩
          rw [hr] at hm2
          have HM2 := Lib.hid hm2
          have HRR := Lib.hid hr
          clear hm2 hr
          go_wp2_with fail
          refine hcall.mono ?_
          rintro e w2 ⟨v, rfl, hv, hb2⟩
          have hb02 := hb1.trans (hb2.mono hb1.size)
          obtain ⟨A, c, rfl, hkeep, hW'⟩ := HT.out w2 v hb02 hv
          obtain ⟨W, hW⟩ : ∃ W, w2.alloc (.cells #[.pointer (some ⟨p, 0, none⟩), .string (crcm.mk n), .int .i64 (ts.length : Int), .bool false] 82) = W := ⟨_, rfl⟩
          obtain ⟨hgW, hdW, hAW, hAW2, hOW⟩ := hW' W hW.symm
          have hw := HS.out W hdW
          rw [HRR.out] at hw
          have HKP := Lib.hid hkeep
          have HOW := Lib.hid hOW
          clear hW' hcall hv hkeep hOW
          go_wp2_with fail
          refine hw.mono ?_
          rintro e w5 ⟨rfl, h1, h2⟩
          have h3 : vd.Ok D2 := by have := vd.ok_sync HOK.out n; rw [HRR.out] at this; exact this
          by_cases h0 : e2 = 0
          · subst h0
            go_wp2_with fail
            go_ret3
            exact HM0.out D2 w2 W w5 _ HM2.out h1 hAW h2 hb02 hgW hdW hAW2 HKP.out h3 HOW.out
          · have h0i : ¬ (e2 : Int) = 0 := by omega
            go_wp2_with fail
            go_ret3
            exact HM1.out D2 e2 W w5 HM2.out h0 h1 hAW h2 h3
      · have hm2 : m = wl.write d n (Sx.take en) := by rw [HM.out, if_pos (.inl rfl)]
        obtain ⟨⟨D2, e2⟩, hr⟩ : ∃ r, wl.write d n (Sx.take en) = r := ⟨_, rfl⟩
        rw [hr] at hm2
        have HM2 := Lib.hid hm2
        have HRR := Lib.hid hr
        clear hm2 hr
        go_wp2_with fail
        refine hcall.mono ?_
        rintro e w2 ⟨v, rfl, hv, hb2⟩
        have hb02 := hb1.trans (hb2.mono hb1.size)
        obtain ⟨A, c, rfl, hkeep, hW'⟩ := HT.out w2 v hb02 hv
        obtain ⟨W, hW⟩ : ∃ W, w2.alloc (.cells #[.pointer (some ⟨p, 0, none⟩), .string (crcm.mk n), .int .i64 (ts.length : Int), .bool false] 82) = W := ⟨_, rfl⟩
        obtain ⟨hgW, hdW, hAW, hAW2, hOW⟩ := hW' W hW.symm
        have hw := HW.out W _ hgW hdW
        rw [HRR.out] at hw
        have HKP := Lib.hid hkeep
        have HOW := Lib.hid hOW
        clear hW' hcall hv hkeep hOW
        go_wp2_with fail
        refine hw.mono ?_
        rintro e w5 ⟨rfl, h1, h2, h3⟩
        by_cases h0 : e2 = 0
        · subst h0
          go_wp2_with fail
          go_ret3
          exact HM0.out D2 w2 W w5 _ HM2.out h1 hAW h2 hb02 hgW hdW hAW2 HKP.out h3 HOW.out
        · have h0i : ¬ (e2 : Int) = 0 := by omega
          go_wp2_with fail
          go_ret3
          exact HM1.out D2 e2 W w5 HM2.out h0 h1 hAW h2 h3
  · have hR2 : wl.open_ d n = (d, [], 1) := by rw [HR.out, if_pos (by simpa using hg)]
    have HR2 := Lib.hid hR2
    have hfin : Opened w p b d n (.returned (.tuple #[.pointer none, .slice none 0 0, .int .i64 1])) w := by
      unfold Opened
      rw [hR2]
      exact ⟨_, _, _, rfl, HK.out w (Below.refl _ _), .refl _ _, HOK.out, Nat.le_refl _, fun _ _ => strs_none _, fun h => absurd h (by simp), fun _ => rfl, World.ownsRow_nil _ _ _ _⟩
    have HFIN := Lib.hid hfin
    clear hR2 hfin
    by_cases hne : n = []
    · rw [hne, show ([] : List UInt8).isEmpty = true from rfl, ← hne] at hie
      clear hne hg
      go_wp2_with fail
      go_ret3
      exact HFIN.out
    · have hni : n.isEmpty = false := by
        cases n with
        | nil => exact absurd rfl hne
        | cons x r => rfl
      rw [hni] at hie
      have h59 : 59 < N := by
        unfold wl.openE at hg
        rcases Nat.lt_or_ge 59 N with h | h
        · exact h
        · exact absurd (by rw [Bool.and_eq_true, decide_eq_true_iff, decide_eq_true_iff, hN]; exact ⟨hne, h⟩) hg
      clear hne hni hg hN
      go_wp2_with fail
      go_ret3
      exact HFIN.out
end Go.Proofs.YtdnoeahhidmkbaaDoor
