/- WlOpen, WlLaw: one behind the other. -/
import Derived.Test.YtmcibggjolckoaaGreatDoorG8
namespace Go.Proofs.YtmcibggjolckoaaGreatDoor
open Go Go.RowKit
set_option maxRecDepth 100000

namespace wl
def openE (n : vd.Name) : Bool := decide (n ≠ []) && decide (n.length ≤ 59)
/-- the file is brought in order -/
def mend (d : vd.Disk) (n : vd.Name) : vd.Disk × Nat :=
  if (vd.read d n).2 = 3 ∨ (crcm.allOf (vd.read d n).1).2 < (vd.read d n).1.length then write d n ((vd.read d n).1.take (crcm.allOf (vd.read d n).1).2) else vd.sync d n
def open_ (d : vd.Disk) (n : vd.Name) : vd.Disk × List (List UInt8) × Nat :=
  if openE n = false then (d, [], 1) else
  if (vd.read d n).2 ≠ 0 ∧ (vd.read d n).2 ≠ 3 then (d, [], (vd.read d n).2) else
  if (mend d n).2 ≠ 0 then ((mend d n).1, [], (mend d n).2) else ((mend d n).1, (crcm.allOf (vd.read d n).1).1, 0)
end wl
theorem strs_none (w : World) : Strs w (.slice none 0 0) [] := ⟨none, 0, rfl, fun k hk => by simp at hk⟩
theorem StrsB.apart {B : Nat} {S : List Nat} {w w' : World} {v : Value} {ls : List (List UInt8)} (h : StrsB B w v ls) (hA : Apart S w w') (hS : ∀ x ∈ S, x < B ∨ w.heap.size ≤ x) : Strs w' v ls := by
  obtain ⟨A, c, e, hc⟩ := h
  refine ⟨A, c, e, fun k hk => ?_⟩
  obtain ⟨ad, e2, h1, h2⟩ := hc k hk
  refine ⟨ad, e2, ?_⟩
  have hlt : (ad.add k).block < w.heap.size := World.block_lt_of_cell? _ _ h2
  have hn : (ad.add k).block ∉ S := fun hx => by
    have hb : B ≤ (ad.add k).block := by rw [show (ad.add k).block = ad.block from by simp only [Addr.add]; split <;> rfl]; exact h1
    rcases hS _ hx with h | h <;> omega
  have := hA.block _ hlt hn
  unfold World.cell? at h2 ⊢
  rw [this]; exact h2
theorem owns_apart {w w' : World} {base : Nat} {e : TypeId} {size n : Nat} {v : Value} {xs : List Value} {S : List Nat} (h : w.ownsRow base e size v n xs) (hA : Apart S w w') (hS : ∀ g, v.ownBlock = some g → g ∉ S) : w'.ownsRow base e size v n xs := by
  refine ⟨h.1, ?_⟩
  rcases h.2 with h | ⟨g, cap, cur, rfl, hb, hh, r⟩
  · exact .inl h
  · exact .inr ⟨g, cap, cur, rfl, hb, (hA.block g (Array.getElem?_eq_some_iff.1 hh).1 (hS g rfl)).trans hh, r⟩
/-- a row of strings is none of the disk's blocks -/
theorem own_out2 {w : World} {base n : Nat} {v : Value} {xs : List Value} (h : w.ownsRow base 9 1 v n xs) {p b : Nat} {d : vd.Disk} (hd : Dk w p b d) : ∀ x, v.ownBlock = some x → x ∉ [p, b] := by
  intro x hx
  rcases h.2 with ⟨rfl, _⟩ | ⟨y, cap, cur, rfl, _, hh, _⟩
  · cases hx
  · obtain rfl : y = x := by simpa [Value.ownBlock] using hx
    intro hm
    rcases List.mem_cons.1 hm with rfl | hm
    · have := hd.blk
      unfold Vb at this
      rw [hh] at this
      simp at this
    rcases List.mem_cons.1 hm with rfl | hm
    · obtain ⟨es, c, hb, _⟩ := hd.map
      rw [hh] at hb; cases hb
    cases hm
/-- what a call of Open hands back -/
def Opened (w : World) (p b : Nat) (d : vd.Disk) (n : vd.Name) (e : Ending) (w' : World) : Prop :=
  ∃ lv tv g, e = .returned (.tuple #[lv, tv, .int .i64 ((wl.open_ d n).2.2 : Nat)]) ∧ Dk w' p b (wl.open_ d n).1 ∧ Apart [p, b] w w' ∧ vd.Ok (wl.open_ d n).1 ∧ w.heap.size ≤ g ∧ (∀ w'', Apart [p, b, g] w' w'' → Strs w'' tv (wl.open_ d n).2.1) ∧
    ((wl.open_ d n).2.2 = 0 → lv = .pointer (some ⟨g, 0, none⟩) ∧ Lg w' g p ⟨n, (wl.open_ d n).2.1.length, false⟩) ∧ ((wl.open_ d n).2.2 ≠ 0 → lv = .pointer none) ∧ w'.ownsRow w.heap.size 9 1 tv (wl.open_ d n).2.1.length ((wl.open_ d n).2.1.map strV)
theorem vd.read_len {d : vd.Disk} (hok : vd.Ok d) (n : vd.Name) : (vd.read d n).1.length ≤ d.cap := by
  have h1 := vd.total_del d.files n
  have h2 := hok.tot
  unfold vd.read
  split
  · exact Nat.zero_le _
  · split
    · show (vd.at_ d.files n).1.length ≤ _; omega
    · exact Nat.zero_le _
set_option maxHeartbeats 8000000 in
theorem wal_open {w : World} {p b : Nat} {d : vd.Disk} (n : vd.Name) (hd : Dk w p b d) (hok : vd.Ok d) (hc : d.cap ≤ 10000000) (hn : n.length ≤ 200) (ht : TabAt w) (ht0 : 0 < w.heap.size) :
    Calls Tryz.prog 54 #[dptr p, keyV n] w (Opened w p b d n) := by
  have hnl : n.length ≤ maxLen := by unfold maxLen; omega
  have hrl := vd.read_len hok n
  have hpl := hd.blk.lt
  have hbl := hd.map.lt
  have hrd := vd_read n hd hnl
  obtain ⟨Sx, hS⟩ : ∃ S, (vd.read d n).1 = S := ⟨_, rfl⟩
  obtain ⟨er, her⟩ : ∃ er, (vd.read d n).2 = er := ⟨_, rfl⟩
  obtain ⟨ts, hts⟩ : ∃ ts, (crcm.allOf Sx).1 = ts := ⟨_, rfl⟩
  obtain ⟨en, hen⟩ : ∃ en, (crcm.allOf Sx).2 = en := ⟨_, rfl⟩
  rw [hS, her] at hrd
  rw [hS] at hrl
  have hle := crcm.allOf_le Sx
  rw [hts, hen] at hle
  obtain ⟨SL, hSL⟩ : ∃ SL, Sx.length = SL := ⟨_, rfl⟩
  rw [hSL] at hle hrl
  have hsz : (crcm.mk Sx).size = SL := by rw [crcm.mk_size, hSL]
  have hall : ∀ w', Below w.heap.size w w' → Calls Tryz.prog 73 #[.string (crcm.mk Sx)] w' fun e w2 => ∃ v, e = .returned (.tuple #[v, .int .i64 (en : Nat)]) ∧ w2.ownsRow w'.heap.size 9 1 v ts.length (ts.map strV) ∧ Below w'.heap.size w' w2 := by
    intro w' hb
    have := all_own (crcm.mk Sx) w' (by rw [hsz]; omega) (ht.below hb ht0)
    rw [crcm.mk_toList, hts, hen] at this
    exact this
  obtain ⟨m, hm⟩ : ∃ m, wl.mend d n = m := ⟨_, rfl⟩
  have hmend : m = if er = 3 ∨ en < SL then wl.write d n (Sx.take en) else vd.sync d n := by rw [← hm]; unfold wl.mend; rw [her, hS, hen, hSL]
  have hres : wl.open_ d n = if wl.openE n = false then (d, [], 1) else if er ≠ 0 ∧ er ≠ 3 then (d, [], er) else if m.2 ≠ 0 then (m.1, [], m.2) else (m.1, ts, 0) := by
    unfold wl.open_
    rw [her, hS, hm, hts]
  have hdk : ∀ w', Below w.heap.size w w' → Dk w' p b d := fun w' h => ⟨(h.block _ hpl).trans hd.blk, hd.map.below h⟩
  have hie : (crcm.mk n).toList.isEmpty = n.isEmpty := by rw [mk_toL]
  obtain ⟨N, hN⟩ : ∃ N, n.length = N := ⟨_, rfl⟩
  have hszn : (crcm.mk n).size = N := by rw [crcm.mk_size, hN]
  have HALL := Lib.hid hall
  have HM := Lib.hid hmend
  have HR := Lib.hid hres
  have HK := Lib.hid hdk
  have HOK := Lib.hid hok
  have hex : (crcm.mk Sx).extract 0 en = crcm.mk (Sx.take en) := by rw [Lib.extract_eq]; show (⟨((crcm.mk Sx).data.toList.drop 0 |>.take (en - 0)).toArray⟩ : ByteArray) = _; rw [crcm.mk_toList]; rfl
  have htk : (Sx.take en).length ≤ 1000000000 := by rw [List.length_take]; omega
  clear hall hmend hres hdk hm hS her hts hen hSL hok hd ht
  unfold dptr keyV
  unfold dptr keyV at hrd
  go_enter Tryz.func54, Tryz.ntmps54
  by_cases hg : wl.openE n = true
  · have hg' := hg
    unfold wl.openE at hg
    rw [Bool.and_eq_true, decide_eq_true_iff, decide_eq_true_iff, hN] at hg
    obtain ⟨hne, h59⟩ := hg
    have hni : n.isEmpty = false := by
      cases n with
      | nil => exact absurd rfl hne
      | cons x r => rfl
    rw [hni] at hie
    have HG := Lib.hid hg'
    clear hne hni hg' hN
    go_wp2_with fail
    refine hrd.mono ?_
    rintro e w1 ⟨rfl, hb1⟩
    clear hrd
    by_cases he : er ≠ 0 ∧ er ≠ 3
    · have hb0 : ((er : Int) != 0) = true := by simp; omega
      have hb3 : ((er : Int) != 3) = true := by simp; omega
      have hR2 : wl.open_ d n = (d, [], er) := by rw [HR.out, HG.out, if_neg (by simp), if_pos he]
      have HR2 := Lib.hid hR2
      clear hR2
      go_wp2_with fail
      go_ret3
      unfold Opened
      rw [HR2.out]
      exact ⟨_, _, _, rfl, HK.out _ hb1, .of_below hb1 _, HOK.out, Nat.le_refl _, fun _ _ => strs_none _, fun h => absurd h he.1, fun _ => rfl, World.ownsRow_nil _ _ _ _⟩
    · have her : er = 0 ∨ er = 3 := by omega
      have hR2 : wl.open_ d n = if m.2 ≠ 0 then (m.1, [], m.2) else (m.1, ts, 0) := by rw [HR.out, HG.out, if_neg (by simp), if_neg he]
      have HR2 := Lib.hid hR2
      have hcall := HALL.out w1 hb1
      -- what lies behind crc.All: the log's struct
      have htail : ∀ w2 v, Below w.heap.size w w2 → w2.ownsRow w1.heap.size 9 1 v ts.length (ts.map strV) → ∃ A c, v = .slice A ts.length c ∧ (∀ w'', Apart [p, b, w2.heap.size] w2 w'' → Strs w'' v ts) ∧
          ∀ W, W = w2.alloc (.cells #[dptr p, keyV n, .int .i64 (ts.length : Int), .bool false] 121) → Lg W w2.heap.size p ⟨n, ts.length, false⟩ ∧ Dk W p b d ∧ Apart [p, b] w W ∧ Apart [p, b, w2.heap.size] w2 W ∧ W.ownsRow w.heap.size 9 1 v ts.length (ts.map strV) := by
        intro w2 v hb2 hv
        obtain ⟨A, c, e, hA⟩ := strsB_of_owns rfl hv
        have hs1 := hb1.size
        refine ⟨A, c, e, fun w'' h => StrsB.apart ⟨A, c, e, hA⟩ h (by simp; omega), ?_⟩
        rintro W rfl
        have hb3 : Below w2.heap.size w2 (w2.alloc (.cells #[dptr p, keyV n, .int .i64 (ts.length : Int), .bool false] 121)) := (Below.refl _ w2).alloc (Nat.le_refl _) _
        have hb03 := hb2.trans (hb3.mono hb2.size)
        exact ⟨Vb.new w2 _ _, HK.out _ hb03, .of_below hb03 _, .of_below hb3 _, owns_mono (owns_below hv hb3) (by omega)⟩
      have hwrite : ∀ W g, Lg W g p ⟨n, ts.length, false⟩ → Dk W p b d → Calls Tryz.prog 74 #[.pointer (some ⟨g, 0, none⟩), .string (crcm.mk (Sx.take en))] W (fun e w' => e = .returned (.int .i64 ((wl.write d n (Sx.take en)).2 : Nat)) ∧ Dk w' p b (wl.write d n (Sx.take en)).1 ∧ Apart [p, b] W w' ∧ vd.Ok (wl.write d n (Sx.take en)).1) :=
        fun W g h1 h2 => wal_write (l := ⟨n, ts.length, false⟩) _ h1 h2 HOK.out hn htk
      have hsync : ∀ W, Dk W p b d → Calls Tryz.prog 75 #[.pointer (some ⟨p, 0, none⟩), .string (crcm.mk n)] W (fun e w' => e = .returned (.int .i64 ((vd.sync d n).2 : Nat)) ∧ Dk w' p b (vd.sync d n).1 ∧ Apart [p, b] W w') :=
        fun W h2 => vd_sync n h2 HOK.out hnl
      have HT := Lib.hid htail
      have HW := Lib.hid hwrite
      have HS := Lib.hid hsync
      have hmk0 : ∀ (D2 : vd.Disk) w2 W w5 v, m = (D2, 0) → Dk w5 p b D2 → Apart [p, b] w W → Apart [p, b] W w5 → Below w.heap.size w w2 → Lg W w2.heap.size p ⟨n, ts.length, false⟩ → Dk W p b d → Apart [p, b, w2.heap.size] w2 W → (∀ w'', Apart [p, b, w2.heap.size] w2 w'' → Strs w'' v ts) → vd.Ok D2 → W.ownsRow w.heap.size 9 1 v ts.length (ts.map strV) →
          Opened w p b d n (.returned (.tuple #[.pointer (some ⟨w2.heap.size, 0, none⟩), v, .int .i64 0])) w5 := by
        intro D2 w2 W w5 v hm h1 h2 h3 h4 h5 h6 h7 h8 h9 h10
        unfold Opened
        rw [HR2.out, hm]
        exact ⟨_, _, w2.heap.size, rfl, h1, h2.trans h3, h9, h4.size, fun w'' h => h8 w'' ((h7.trans (h3.mono (by simp))).trans h), fun _ => ⟨rfl, h5.apart h3 (log_out h5 h6)⟩, fun h => absurd rfl h, owns_apart h10 h3 (own_out2 h10 h6)⟩
      have hmk1 : ∀ (D2 : vd.Disk) (e2 : Nat) W w5, m = (D2, e2) → e2 ≠ 0 → Dk w5 p b D2 → Apart [p, b] w W → Apart [p, b] W w5 → vd.Ok D2 →
          Opened w p b d n (.returned (.tuple #[.pointer none, .slice none 0 0, .int .i64 (e2 : Nat)])) w5 := by
        intro D2 e2 W w5 hm h0 h1 h2 h3 h9
        unfold Opened
        rw [HR2.out, hm, if_pos h0]
        exact ⟨_, _, _, rfl, h1, h2.trans h3, h9, Nat.le_refl _, fun _ _ => strs_none _, fun h => absurd h h0, fun _ => rfl, World.ownsRow_nil _ _ _ _⟩
      have HM0 := Lib.hid hmk0
      have HM1 := Lib.hid hmk1
      clear htail hwrite hsync hmk0 hmk1 hR2 he
      rcases her with rfl | rfl
      · by_cases hlt : en < SL
        · have hlti : (en : Int) < (SL : Int) := by omega
          have hm2 : m = wl.write d n (Sx.take en) := by rw [HM.out, if_pos (.inr hlt)]
          obtain ⟨⟨D2, e2⟩, hr⟩ : ∃ r, wl.write d n (Sx.take en) = r := ⟨_, rfl⟩
          rw [hr] at hm2
          have HM2 := Lib.hid hm2
          have HRR := Lib.hid hr
          clear hm2 hr
          go_wp2_with fail
          refine hcall.mono ?_
          rintro e w2 ⟨v, rfl, hv, hb2⟩
          have hb02 := hb1.trans (hb2.mono hb1.size)
          obtain ⟨A, c, rfl, hkeep, hW'⟩ := HT.out w2 v hb02 hv
          obtain ⟨W, hW⟩ : ∃ W, w2.alloc (.cells #[.pointer (some ⟨p, 0, none⟩), .string (crcm.mk n), .int .i64 (ts.length : Int), .bool false] 121) = W := ⟨_, rfl⟩
          obtain ⟨hgW, hdW, hAW, hAW2, hOW⟩ := hW' W hW.symm
          have hw := HW.out W _ hgW hdW
          rw [HRR.out] at hw
          have HKP := Lib.hid hkeep
          have HOW := Lib.hid hOW
          clear hW' hcall hv hkeep hOW
          go_wp2_with fail
          refine hw.mono ?_
          rintro e w5 ⟨rfl, h1, h2, h3⟩
          by_cases h0 : e2 = 0
          · subst h0
            go_wp2_with fail
            go_ret3
            exact HM0.out D2 w2 W w5 _ HM2.out h1 hAW h2 hb02 hgW hdW hAW2 HKP.out h3 HOW.out
          · have h0i : ¬ (e2 : Int) = 0 := by omega
            go_wp2_with fail
            go_ret3
            exact HM1.out D2 e2 W w5 HM2.out h0 h1 hAW h2 h3
        · have hlti : ¬ (en : Int) < (SL : Int) := by omega
          have hm2 : m = vd.sync d n := by rw [HM.out, if_neg (by omega)]
          obtain ⟨⟨D2, e2⟩, hr⟩ : ∃ r, vd.sync d n = r := ⟨_, rfl⟩
          rw [hr] at hm2
          have HM2 := Lib.hid hm2
          have HRR := Lib.hid hr
          clear hm2 hr
          go_wp2_with fail
          refine hcall.mono ?_
          rintro e w2 ⟨v, rfl, hv, hb2⟩
          have hb02 := hb1.trans (hb2.mono hb1.size)
          obtain ⟨A, c, rfl, hkeep, hW'⟩ := HT.out w2 v hb02 hv
          obtain ⟨W, hW⟩ : ∃ W, w2.alloc (.cells #[.pointer (some ⟨p, 0, none⟩), .string (crcm.mk n), .int .i64 (ts.length : Int), .bool false] 121) = W := ⟨_, rfl⟩
          obtain ⟨hgW, hdW, hAW, hAW2, hOW⟩ := hW' W hW.symm
          have hw := HS.out W hdW
          rw [HRR.out] at hw
          have HKP := Lib.hid hkeep
          have HOW := Lib.hid hOW
          clear hW' hcall hv hkeep hOW
          go_wp2_with fail
          refine hw.mono ?_
          rintro e w5 ⟨rfl, h1, h2⟩
          have h3 : vd.Ok D2 := by have := vd.ok_sync HOK.out n; rw [HRR.out] at this; exact this
          by_cases h0 : e2 = 0
          · subst h0
            go_wp2_with fail
            go_ret3
            exact HM0.out D2 w2 W w5 _ HM2.out h1 hAW h2 hb02 hgW hdW hAW2 HKP.out h3 HOW.out
          · have h0i : ¬ (e2 : Int) = 0 := by omega
            go_wp2_with fail
            go_ret3
            exact HM1.out D2 e2 W w5 HM2.out h0 h1 hAW h2 h3
      · have hm2 : m = wl.write d n (Sx.take en) := by rw [HM.out, if_pos (.inl rfl)]
        obtain ⟨⟨D2, e2⟩, hr⟩ : ∃ r, wl.write d n (Sx.take en) = r := ⟨_, rfl⟩
        rw [hr] at hm2
        have HM2 := Lib.hid hm2
        have HRR := Lib.hid hr
        clear hm2 hr
        go_wp2_with fail
        refine hcall.mono ?_
        rintro e w2 ⟨v, rfl, hv, hb2⟩
        have hb02 := hb1.trans (hb2.mono hb1.size)
        obtain ⟨A, c, rfl, hkeep, hW'⟩ := HT.out w2 v hb02 hv
        obtain ⟨W, hW⟩ : ∃ W, w2.alloc (.cells #[.pointer (some ⟨p, 0, none⟩), .string (crcm.mk n), .int .i64 (ts.length : Int), .bool false] 121) = W := ⟨_, rfl⟩
        obtain ⟨hgW, hdW, hAW, hAW2, hOW⟩ := hW' W hW.symm
        have hw := HW.out W _ hgW hdW
        rw [HRR.out] at hw
        have HKP := Lib.hid hkeep
        have HOW := Lib.hid hOW
        clear hW' hcall hv hkeep hOW
        go_wp2_with fail
        refine hw.mono ?_
        rintro e w5 ⟨rfl, h1, h2, h3⟩
        by_cases h0 : e2 = 0
        · subst h0
          go_wp2_with fail
          go_ret3
          exact HM0.out D2 w2 W w5 _ HM2.out h1 hAW h2 hb02 hgW hdW hAW2 HKP.out h3 HOW.out
        · have h0i : ¬ (e2 : Int) = 0 := by omega
          go_wp2_with fail
          go_ret3
          exact HM1.out D2 e2 W w5 HM2.out h0 h1 hAW h2 h3
  · have hR2 : wl.open_ d n = (d, [], 1) := by rw [HR.out, if_pos (by simpa using hg)]
    have HR2 := Lib.hid hR2
    have hfin : Opened w p b d n (.returned (.tuple #[.pointer none, .slice none 0 0, .int .i64 1])) w := by
      unfold Opened
      rw [hR2]
      exact ⟨_, _, _, rfl, HK.out w (Below.refl _ _), .refl _ _, HOK.out, Nat.le_refl _, fun _ _ => strs_none _, fun h => absurd h (by simp), fun _ => rfl, World.ownsRow_nil _ _ _ _⟩
    have HFIN := Lib.hid hfin
    clear hR2 hfin
    by_cases hne : n = []
    · rw [hne, show ([] : List UInt8).isEmpty = true from rfl, ← hne] at hie
      clear hne hg
      go_wp2_with fail
      go_ret3
      exact HFIN.out
    · have hni : n.isEmpty = false := by
        cases n with
        | nil => exact absurd rfl hne
        | cons x r => rfl
      rw [hni] at hie
      have h59 : 59 < N := by
        unfold wl.openE at hg
        rcases Nat.lt_or_ge 59 N with h | h
        · exact h
        · exact absurd (by rw [Bool.and_eq_true, decide_eq_true_iff, decide_eq_true_iff, hN]; exact ⟨hne, h⟩) hg
      clear hne hni hg hN
      go_wp2_with fail
      go_ret3
      exact HFIN.out
end Go.Proofs.YtmcibggjolckoaaGreatDoor
namespace Go.Proofs.YtmcibggjolckoaaGreatDoor
open Go Go.RowKit
set_option maxRecDepth 100000

namespace vd
theorem put_put (M : Files) (n : Name) (f g : File) : put (put M n f) n g = put M n g := by
  induction M with
  | nil => simp [put]
  | cons x r ih =>
    obtain ⟨m, h⟩ := x
    by_cases hm : m = n
    · simp [put, hm]
    · simp [put, hm, ih]
theorem del_none (M : Files) (n : Name) (h : has M n = false) : del M n = M := by
  induction M with
  | nil => rfl
  | cons x r ih =>
    obtain ⟨m, g⟩ := x
    unfold has at h
    by_cases hm : m = n
    · rw [if_pos hm] at h; cases h
    · rw [if_neg hm] at h
      unfold del
      rw [if_neg hm, ih h]
theorem del_put_none (M : Files) (n : Name) (f : File) (h : has M n = false) : del (put M n f) n = M := by
  induction M with
  | nil => simp [put, del]
  | cons x r ih =>
    obtain ⟨m, g⟩ := x
    unfold has at h
    by_cases hm : m = n
    · rw [if_pos hm] at h; cases h
    · rw [if_neg hm] at h
      unfold put
      rw [if_neg hm]
      unfold del
      rw [if_neg hm, ih h]
theorem has_del (M : Files) (n : Name) (hd : (M.map (·.1)).Nodup) : has (del M n) n = false := by
  cases h : has (del M n) n with
  | false => rfl
  | true =>
    have h1 := (has_names _ _).1 h
    clear h
    induction M with
    | nil => simp [del] at h1
    | cons x r ih =>
      obtain ⟨m, g⟩ := x
      rw [List.map_cons, List.nodup_cons] at hd
      unfold del at h1
      by_cases hm : m = n
      · rw [if_pos hm] at h1
        rw [← hm] at h1
        exact absurd h1 hd.1
      · rw [if_neg hm, List.map_cons] at h1
        rcases List.mem_cons.1 h1 with e | e
        · exact absurd e.symm hm
        · exact ih hd.2 e
theorem put_len (M : Files) (n : Name) (f : File) : (put M n f).length = if has M n then M.length else M.length + 1 := by
  induction M with
  | nil => rfl
  | cons x r ih =>
    obtain ⟨m, g⟩ := x
    unfold put has
    by_cases hm : m = n
    · rw [if_pos hm, if_pos hm]; rfl
    · rw [if_neg hm, if_neg hm, List.length_cons, ih]
      cases has r n <;> rfl
theorem del_len (M : Files) (n : Name) : (del M n).length ≤ M.length := (del_sub M n).length_le
theorem total_del_le (M : Files) (n : Name) : total (del M n) ≤ total M := by have := total_del M n; omega
/-- nothing is cut -/
def Quiet (d : Disk) : Prop := d.off = false ∧ d.left = 0
theorem Quiet.files {d : Disk} (h : Quiet d) (M : Files) : Quiet { d with files := M } := h
theorem done_quiet {d : Disk} (h : Quiet d) (f2 : Files) (a : Bool) : done d f2 a = { d with files := f2 } ∧ doneE d = 0 := by
  obtain ⟨h1, h2⟩ := h
  have h3 : less d = d := by unfold less; rw [h2]; cases d; simp_all
  have h4 : goes d a = true := by unfold goes; rw [h2]; rfl
  refine ⟨?_, ?_⟩
  · unfold done
    rw [h4, h3]
    show (if d.left = 1 then _ else _) = _
    rw [if_neg (by omega)]; rfl
  · unfold doneE; rw [h2]; rfl
theorem err_quiet {d : Disk} (h : Quiet d) {n : Name} (hn : good n = true) : nameErr d.off [n] = 0 := by
  unfold nameErr; rw [h.1]; simp [hn]
theorem there_quiet {d : Disk} (h : Quiet d) {n : Name} (hn : good n = true) (hh : has d.files n = true) (f2 : Files) (a : Bool) : there d n f2 a = ({ d with files := f2 }, 0) := by
  obtain ⟨h1, h2⟩ := done_quiet h f2 a
  unfold there
  rw [err_quiet h hn, hh, h1, h2]; rfl
theorem there_none {d : Disk} (h : Quiet d) {n : Name} (hn : good n = true) (hh : has d.files n = false) (f2 : Files) (a : Bool) : there d n f2 a = (d, 3) := by
  unfold there
  rw [err_quiet h hn, hh]; rfl
end vd
namespace wl
open vd
theorem good_of {n : Name} (h : openE n = true) : good n = true ∧ good (n ++ [43]) = true ∧ n ≠ n ++ [43] := by
  unfold openE at h
  rw [Bool.and_eq_true, decide_eq_true_iff, decide_eq_true_iff] at h
  refine ⟨?_, ?_, ?_⟩
  · unfold good; rw [Bool.and_eq_true, decide_eq_true_iff, decide_eq_true_iff]; exact ⟨h.1, by omega⟩
  · unfold good; rw [Bool.and_eq_true, decide_eq_true_iff, decide_eq_true_iff, List.length_append]; exact ⟨by simp, by simp; omega⟩
  · intro e
    have := congrArg List.length e
    rw [List.length_append] at this
    simp at this
theorem run_ok {f : Op1} {r : List Op1} {d d' : Disk} (h : f d = (d', 0)) : run (f :: r) d = run r d' := by
  show (if (f d).2 ≠ 0 then f d else run r (f d).1) = _
  rw [h]; rfl
theorem mend_eq {d : Disk} {n : Name} {S : List UInt8} {e : Nat} (hr : vd.read d n = (S, e)) : mend d n = if e = 3 ∨ (crcm.allOf S).2 < S.length then write d n (S.take (crcm.allOf S).2) else vd.sync d n := by
  unfold mend; rw [hr]
theorem open_eq {d : Disk} {n : Name} {S : List UInt8} {e : Nat} (hn : openE n = true) (hr : vd.read d n = (S, e)) : open_ d n = if e ≠ 0 ∧ e ≠ 3 then (d, [], e) else if (mend d n).2 ≠ 0 then ((mend d n).1, [], (mend d n).2) else ((mend d n).1, (crcm.allOf S).1, 0) := by
  unfold open_; rw [hn, hr]; rfl
theorem change_ok {d d2 : Disk} {l : L} {ls : List (List UInt8)} {many : Nat} {op : List UInt8 → Op1} (hl : l.off = false) (hb : bytes ls = (crcm.flat ls, 0)) (h : op (crcm.flat ls) d = (d2, 0)) : change d l ls many op = (d2, { l with many := many }, 0) := by
  unfold change
  rw [if_neg (by rw [hl]; simp), hb]
  show (if (0 : Nat) ≠ 0 then _ else ((op (crcm.flat ls) d).1, told l (op (crcm.flat ls) d).2 many, (op (crcm.flat ls) d).2)) = _
  rw [if_neg (by simp), h]
  rfl
theorem del_quiet {d : Disk} (h : Quiet d) {o : Name} (ho : good o = true) : del d o = ({ d with files := vd.del d.files o }, 0) := by
  unfold del vd.delete
  cases hh : has d.files o with
  | true => rw [there_quiet h ho hh]; rfl
  | false => rw [there_none h ho hh, del_none _ _ hh]; rfl
theorem write_quiet {d : Disk} (h : Quiet d) (hok : Ok d) {n : Name} (hn : openE n = true) (s : List UInt8) (hl : d.files.length < 200) (hr : total (vd.del d.files (n ++ [43])) + s.length ≤ d.cap) :
    write d n s = ({ d with files := vd.put (vd.del d.files (n ++ [43])) n (s, s.length) }, 0) := by
  obtain ⟨g1, g2, g3⟩ := good_of hn
  obtain ⟨o, ho⟩ : ∃ o, n ++ [43] = o := ⟨_, rfl⟩
  rw [ho] at g2 g3 hr
  unfold write
  rw [ho]
  have a1 := del_quiet h g2
  obtain ⟨M, hM⟩ : ∃ M, vd.del d.files o = M := ⟨_, rfl⟩
  have hno : has M o = false := by rw [← hM]; exact has_del _ _ hok.nod
  have hML : M.length < 200 := by rw [← hM]; have := del_len d.files o; omega
  rw [hM] at a1 hr ⊢
  have q1 : Quiet { d with files := M } := h
  have a2 : vd.create { d with files := M } o = ({ d with files := vd.put M o ([], 0) }, 0) := by
    obtain ⟨h1, h2⟩ := done_quiet q1 (vd.put M o ([], 0)) false
    unfold vd.create
    rw [err_quiet q1 g2]
    show (if (0 : Nat) ≠ 0 then _ else if has M o = true then _ else if 200 ≤ M.length then _ else _) = _
    rw [if_neg (by simp), hno, if_neg (by simp), if_neg (by omega), h1, h2]
  have e2 : at_ (vd.put M o ([], 0)) o = ([], 0) := by rw [at_put, if_pos rfl]
  have e3 : has (vd.put M o ([], 0)) o = true := by rw [has_put]; simp
  have e4 : total (vd.put M o ([], 0)) = total M := by
    have := total_put M o ([], 0)
    have k : (at_ M o).1.length = 0 := by
      have h2 := total_del M o
      rw [del_none M o hno] at h2; omega
    simp at this; omega
  have q2 : Quiet { d with files := vd.put M o ([], 0) } := h
  have a3 : vd.append { d with files := vd.put M o ([], 0) } o s = ({ d with files := vd.put M o (s, 0) }, 0) := by
    unfold vd.append
    rw [if_neg]
    · rw [there_quiet q2 g2 e3]
      show (({ d with files := vd.put (vd.put M o ([], 0)) o ((at_ (vd.put M o ([], 0)) o).1 ++ s, (at_ (vd.put M o ([], 0)) o).2) } : Disk), 0) = _
      rw [e2, put_put]; rfl
    · show ¬ (_ ∧ _ ∧ d.cap < total (vd.put M o ([], 0)) + s.length)
      rw [e4]; omega
  have q3 : Quiet { d with files := vd.put M o (s, 0) } := h
  have e5 : has (vd.put M o (s, 0)) o = true := by rw [has_put]; simp
  have a4 : vd.sync { d with files := vd.put M o (s, 0) } o = ({ d with files := vd.put M o (s, s.length) }, 0) := by
    unfold vd.sync
    rw [there_quiet q3 g2 e5]
    show (({ d with files := vd.put (vd.put M o (s, 0)) o ((at_ (vd.put M o (s, 0)) o).1, (at_ (vd.put M o (s, 0)) o).1.length) } : Disk), 0) = _
    rw [at_put, if_pos rfl, put_put]
  have q4 : Quiet { d with files := vd.put M o (s, s.length) } := h
  have e6 : has (vd.put M o (s, s.length)) o = true := by rw [has_put]; simp
  have a5 : vd.rename { d with files := vd.put M o (s, s.length) } o n = ({ d with files := vd.put M n (s, s.length) }, 0) := by
    unfold vd.rename
    have : nameErr d.off [o, n] = 0 := by unfold nameErr; rw [h.1]; simp [g1, g2]
    show (if nameErr d.off [o, n] ≠ 0 then _ else there _ _ _ _) = _
    rw [this, if_neg (by simp), there_quiet q4 g2 e6]
    show (({ d with files := vd.put (vd.del (vd.put M o (s, s.length)) o) n (at_ (vd.put M o (s, s.length)) o) } : Disk), 0) = _
    rw [at_put, if_pos rfl, del_put_none _ _ _ hno]
  exact (run_ok a1).trans ((run_ok a2).trans ((run_ok a3).trans ((run_ok a4).trans (run_ok a5))))
theorem append_quiet {d : Disk} (h : Quiet d) {n : Name} (hn : good n = true) (hh : has d.files n = true) (s : List UInt8) (hr : total d.files + s.length ≤ d.cap) :
    run (appendOps n s) d = ({ d with files := vd.put d.files n ((at_ d.files n).1 ++ s, ((at_ d.files n).1 ++ s).length) }, 0) := by
  have a1 : vd.append d n s = ({ d with files := vd.put d.files n ((at_ d.files n).1 ++ s, (at_ d.files n).2) }, 0) := by
    unfold vd.append
    rw [if_neg (by omega), there_quiet h hn hh]
  have q1 : Quiet { d with files := vd.put d.files n ((at_ d.files n).1 ++ s, (at_ d.files n).2) } := h
  have e1 : has (vd.put d.files n ((at_ d.files n).1 ++ s, (at_ d.files n).2)) n = true := by rw [has_put]; simp
  have a2 : vd.sync { d with files := vd.put d.files n ((at_ d.files n).1 ++ s, (at_ d.files n).2) } n = ({ d with files := vd.put d.files n ((at_ d.files n).1 ++ s, ((at_ d.files n).1 ++ s).length) }, 0) := by
    unfold vd.sync
    rw [there_quiet q1 hn e1]
    show (({ d with files := vd.put (vd.put d.files n ((at_ d.files n).1 ++ s, (at_ d.files n).2)) n ((at_ (vd.put d.files n ((at_ d.files n).1 ++ s, (at_ d.files n).2)) n).1, (at_ (vd.put d.files n ((at_ d.files n).1 ++ s, (at_ d.files n).2)) n).1.length) } : Disk), 0) = _
    rw [at_put, if_pos rfl, put_put]
  exact (run_ok a1).trans (run_ok a2)
theorem read_quiet {d : Disk} (h : Quiet d) {n : Name} (hn : good n = true) : vd.read d n = if has d.files n then ((at_ d.files n).1, 0) else ([], 3) := by
  unfold vd.read
  rw [err_quiet h hn, if_neg (by simp)]
/-- a log that is not there yet -/
theorem open_new {d : Disk} (h : Quiet d) (hok : Ok d) {n : Name} (hn : openE n = true) (hh : has d.files n = false) (hl : d.files.length < 200) :
    open_ d n = ({ d with files := vd.put (vd.del d.files (n ++ [43])) n ([], 0) }, [], 0) := by
  have hr := read_quiet h (good_of hn).1
  rw [hh] at hr
  simp only [Bool.false_eq_true, if_false] at hr
  have hw := write_quiet h hok hn [] hl (by have := total_del_le d.files (n ++ [43]); have := hok.tot; simp; omega)
  have hm : mend d n = ({ d with files := vd.put (vd.del d.files (n ++ [43])) n ([], 0) }, 0) := by
    rw [mend_eq hr, if_pos (.inl rfl)]
    exact hw
  rw [open_eq hn hr, if_neg (by simp), hm]
  rfl
/-- a log whose file is whole -/
theorem open_whole {d : Disk} (h : Quiet d) {n : Name} (hn : openE n = true) (hh : has d.files n = true) (ts : List (List UInt8)) (ha : crcm.allOf (at_ d.files n).1 = (ts, (at_ d.files n).1.length)) :
    open_ d n = ({ d with files := vd.put d.files n ((at_ d.files n).1, (at_ d.files n).1.length) }, ts, 0) := by
  have hr := read_quiet h (good_of hn).1
  rw [hh] at hr
  simp only [if_true] at hr
  have hm : mend d n = ({ d with files := vd.put d.files n ((at_ d.files n).1, (at_ d.files n).1.length) }, 0) := by
    rw [mend_eq hr, ha, if_neg (by simp)]
    unfold vd.sync
    rw [there_quiet h (good_of hn).1 hh]
  rw [open_eq hn hr, if_neg (by simp), hm, ha]
  rfl
theorem bytes_fit (ls : List (List UInt8)) (h : ∀ t ∈ ls, t.length ≤ 65535) : bytes ls = (crcm.flat ls, 0) := by
  unfold bytes
  rw [if_pos]
  rw [List.all_eq_true]
  intro t ht
  exact decide_eq_true (h t ht)
theorem allOf_whole (ls : List (List UInt8)) (h : ∀ t ∈ ls, t.length ≤ 65535) : crcm.allOf (crcm.flat ls) = (ls, (crcm.flat ls).length) := by
  have := crcm.allOf_flat ls [] h (crcm.flat ls).length (Nat.le_refl _)
  rw [List.append_nil, List.take_length, Nat.sub_self] at this
  rw [this]
  simp [crcm.flat, crcm.allOf, crcm.all]
/-- a call of Append that is not cut -/
theorem append_log {d : Disk} (h : Quiet d) {l : L} (hl : l.off = false) (hn : good l.name = true) (hh : has d.files l.name = true) (ls : List (List UInt8)) (hf : ∀ t ∈ ls, t.length ≤ 65535) (hr : total d.files + (crcm.flat ls).length ≤ d.cap) :
    append d l ls = ({ d with files := vd.put d.files l.name ((at_ d.files l.name).1 ++ crcm.flat ls, ((at_ d.files l.name).1 ++ crcm.flat ls).length) }, { l with many := l.many + ls.length }, 0) := by
  exact change_ok hl (bytes_fit ls hf) (append_quiet h hn hh _ hr)
theorem reset_log {d : Disk} (h : Quiet d) (hok : Ok d) {l : L} (hl : l.off = false) (hn : openE l.name = true) (ls : List (List UInt8)) (hf : ∀ t ∈ ls, t.length ≤ 65535) (hL : d.files.length < 200) (hr : total (vd.del d.files (l.name ++ [43])) + (crcm.flat ls).length ≤ d.cap) :
    reset d l ls = ({ d with files := vd.put (vd.del d.files (l.name ++ [43])) l.name (crcm.flat ls, (crcm.flat ls).length) }, { l with many := ls.length }, 0) := by
  exact change_ok hl (bytes_fit ls hf) (write_quiet h hok hn _ hL hr)
end wl
end Go.Proofs.YtmcibggjolckoaaGreatDoor
