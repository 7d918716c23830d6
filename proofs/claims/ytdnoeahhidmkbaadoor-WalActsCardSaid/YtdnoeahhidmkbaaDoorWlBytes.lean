/- bytes of texts: a loop over a strings.Builder. -/
import Derived.Test.YtdnoeahhidmkbaaDoorStrB
import Derived.Test.YtdnoeahhidmkbaaDoorCrcAll
import Derived.Test.YtdnoeahhidmkbaaDoorCrcCutMath
namespace Go.Proofs.YtdnoeahhidmkbaaDoor
open Go Go.RowKit
set_option maxRecDepth 100000

theorem Bld.below {B b : Nat} {bs : List Value} {w w' : World} (h : Bld B b bs w) (hb : Below w.heap.size w w') : Bld B b bs w' := by
  have k : ∀ {q}, Lib.BuilderAt 137 5 B b q bs w → Lib.BuilderAt 137 5 B b q bs w' := by
    rintro q ⟨hB, v, hbk, hown, hne⟩
    exact ⟨hB, v, (hb.block b (Array.getElem?_eq_some_iff.1 hbk).1).trans hbk, owns_below hown hb, hne⟩
  rcases h with h | h
  · exact .inl (k h)
  · exact .inr (k h)
namespace wl
def fits (t : List UInt8) : Bool := decide (t.length ≤ 65535)
def bytes (ls : List (List UInt8)) : List UInt8 × Nat := if ls.all fits then (crcm.flat ls, 0) else ([], 71)
end wl
theorem flat_take (ls : List (List UInt8)) (k : Nat) (h : k < ls.length) : (crcm.flat (ls.take k)).length + (6 + (ls.getD k []).length) ≤ (crcm.flat ls).length := by
  have h1 : ls = ls.take k ++ (ls.getD k [] :: ls.drop (k + 1)) := by
    rw [List.getD_eq_getElem?_getD, List.getElem?_eq_getElem h]
    show ls = ls.take k ++ (ls[k] :: ls.drop (k + 1))
    rw [List.getElem_cons_drop, List.take_append_drop]
  have h2 := congrArg (fun l => (crcm.flat l).length) h1
  simp only [crcm.flat_append, crcm.flat_cons, List.length_append, crcm.body_len] at h2
  omega
set_option maxHeartbeats 4000000 in
theorem wal_bytes (v : Value) (ls : List (List UInt8)) (w : World) (hv : Strs w v ls) (hf : (crcm.flat ls).length ≤ 1000000000) (hl : ls.length ≤ 1000000000) (ht : TabAt w) :
    Calls Tryd.prog 71 #[v] w fun e w' => e = .returned (.tuple #[.string (crcm.mk (wl.bytes ls).1), .int .i64 ((wl.bytes ls).2 : Nat)]) ∧ Below w.heap.size w w' := by
  obtain ⟨A, c, rfl, hcells⟩ := hv
  have hsn : ∀ k, k < ls.length → ls.take (k + 1) = ls.take k ++ [ls.getD k []] := fun k h => by rw [List.take_add_one, List.getD_eq_getElem?_getD, List.getElem?_eq_getElem h]; rfl
  have hft := flat_take ls
  obtain ⟨n, hn⟩ : ∃ n, ls.length = n := ⟨_, rfl⟩
  have htk : ls.take n = ls := by rw [← hn]; exact List.take_length
  obtain ⟨F, hF⟩ : ∃ F, (crcm.flat ls).length = F := ⟨_, rfl⟩
  rw [hF] at hf hft
  rw [hn] at hcells hsn hl hft ⊢
  have hno : ∀ k, k < n → 65535 < (ls.getD k []).length → wl.bytes ls = ([], 71) := fun k hk h => by
    unfold wl.bytes
    rw [if_neg]
    rw [Bool.not_eq_true, List.all_eq_false]
    refine ⟨ls.getD k [], ?_, by simp [wl.fits]; exact h⟩
    rw [List.getD_eq_getElem?_getD, List.getElem?_eq_getElem (by rw [hn]; exact hk)]
    exact List.getElem_mem _
  have HC := Lib.hid hcells
  have HSN := Lib.hid hsn
  have HTK := Lib.hid htk
  have HFT := Lib.hid hft
  have HNO := Lib.hid hno
  clear hcells hsn htk hn hft hF hno
  go_enter Tryd.func71, Tryd.ntmps71
  go_wp2_with fail
  go_loopw [11] (fun i wr => ∃ k : Nat, k ≤ n ∧ i = .int .i64 k ∧ (ls.take k).all wl.fits = true ∧ Bld w.heap.size w.heap.size (Lib.byteCells (crcm.flat (ls.take k))) wr ∧ Below w.heap.size w wr) (fun i _ => n - (Go.RowKit.intOf i).toNat)
  case atStart => exact ⟨0, Nat.zero_le _, rfl, rfl, Lib.fresh_isBuilder _ _ w, (Below.refl _ w).alloc (Nat.le_refl _) _⟩
  case round =>
    obtain ⟨k, hk, rfl, hall, hB, hbw⟩ := hrel
    have HALL := Lib.hid hall
    have HB := Lib.hid hB
    clear hall hB
    have hws := hbw.size
    have ht2 := ht.below hbw ht.1
    by_cases hlt : k < n
    · obtain ⟨ad, rfl, c0⟩ := HC.out k hlt
      have c1 := cell_later hbw c0
      have hs := HSN.out k hlt
      have hft := HFT.out k hlt
      have hno := HNO.out k hlt
      obtain ⟨t, htt⟩ : ∃ t, ls.getD k [] = t := ⟨_, rfl⟩
      rw [htt] at c0 c1 hs hft hno
      obtain ⟨N, hN⟩ : ∃ N, t.length = N := ⟨_, rfl⟩
      rw [hN] at hft hno
      have hsz : (crcm.mk t).size ≤ maxLen := by rw [crcm.mk_size, hN]; unfold maxLen; omega
      have hput := put_any (crcm.mk t) wr hsz ht2
      rw [crcm.mk_toList] at hput
      by_cases hw : 65535 < N
      · have hp : crcm.put t = ([], 71) := by unfold crcm.put; rw [if_pos (by rw [hN]; exact hw)]
        rw [hp] at hput
        have HNN := Lib.hid (hno hw)
        clear hno hs htt hN hp c0
        go_wp2_with fail
        refine hput.mono ?_
        rintro e w1 ⟨rfl, hb1⟩
        go_wp2_with fail
        go_ret2
        rw [HNN.out]
        exact ⟨rfl, hbw.trans (hb1.mono hws)⟩
      · have hp : crcm.put t = (crcm.body t, 0) := by unfold crcm.put; rw [if_neg (by rw [hN]; exact hw)]
        rw [hp] at hput
        have hfit : wl.fits t = true := by unfold wl.fits; rw [hN]; exact decide_eq_true (by omega)
        have hbl : (crcm.body t).length = 6 + N := by rw [crcm.body_len, hN]
        have HS := Lib.hid hs
        have HFI := Lib.hid hfit
        clear hno hs htt hN hp c0 hfit
        have hbs : (Lib.byteCells (crcm.flat (ls.take k))).length + (crcm.mk (crcm.body t)).size ≤ 140737488355328 := by rw [Lib.byteCells_length, crcm.mk_size, hbl]; omega
        have HBS := Lib.hid hbs
        clear hbs hbl
        go_wp2_with fail
        refine hput.mono ?_
        rintro e w1 ⟨rfl, hb1⟩
        have hb01 := hbw.trans (hb1.mono hws)
        go_wp2_with fail
        refine (bld_write _ _ _ (crcm.mk (crcm.body t)) _ (HB.out.below hb1) HBS.out hb01.size).mono ?_
        rintro e w2 ⟨⟨x, rfl⟩, hB2, hb2⟩
        go_wp2_with fail
        go_roundw
        case rel =>
          refine ⟨k + 1, by omega, by go_num, by rw [HS.out, List.all_append, HALL.out, List.all_cons, HFI.out]; rfl, ?_, hb01.trans hb2⟩
          rw [HS.out, crcm.flat_snoc, Lib.byteCells_append]
          exact hB2
        case measure => simp [Go.RowKit.intOf]; omega
    · obtain rfl : k = n := by omega
      have hall := HALL.out
      have hB := HB.out
      rw [HTK.out] at hall hB
      have hres : wl.bytes ls = (crcm.flat ls, 0) := by unfold wl.bytes; rw [if_pos hall]
      have HR := Lib.hid hres
      have hstr := bld_string _ _ _ _ hB hws
      clear hall hres hB
      go_wp2_with fail
      refine hstr.mono ?_
      rintro e w1 ⟨rfl, hb1⟩
      go_wp2_with fail
      go_ret2
      rw [HR.out]
      exact ⟨rfl, hbw.trans hb1⟩
end Go.Proofs.YtdnoeahhidmkbaaDoor
