/- law17's msgs, ref17.SameMsgs of one list, twice: walked. -/
import Derived.Test.YtkoidphhlfjlhaaRfSame17
namespace Go.Proofs.Ytkoidphhlfjlhaa
open Go Go.RowKit Go.Deep
set_option maxRecDepth 100000

/-- messages that lie in a slice (of whichever of the two types) -/
def MsgsIn (w : World) (v : Value) (ms : List rf.Msg) : Prop := ∃ A c, v = .slice A ms.length c ∧ ms.length ≤ c ∧ c ≤ maxLen ∧ (0 < ms.length → ∃ b o, A = some ⟨b, o, none⟩ ∧ ∀ k, k < ms.length → ∃ A2 c2, Ents w (.slice A2 (ms.getD k rf.msg0).ents.length c2) (ms.getD k rf.msg0).ents ∧ w.rangeAt b (o + k * 9) (msgC (ms.getD k rf.msg0) (.slice A2 (ms.getD k rf.msg0).ents.length c2)))
theorem rangeAt_below {w w' : World} {b o : Nat} {cs : List Value} (h : w.rangeAt b o cs) (hb : Below w.heap.size w w') : w'.rangeAt b o cs := fun j v hv => cell_later hb (h j v hv)
theorem MsgsIn.below {w w' : World} {v : Value} {ms : List rf.Msg} (h : MsgsIn w v ms) (hb : Below w.heap.size w w') : MsgsIn w' v ms := by
  obtain ⟨A, c, e, hl, hm, h0⟩ := h
  refine ⟨A, c, e, hl, hm, fun hh => ?_⟩
  obtain ⟨b, o, e2, h1⟩ := h0 hh
  refine ⟨b, o, e2, fun k hk => ?_⟩
  obtain ⟨A2, c2, h2, h3⟩ := h1 k hk
  exact ⟨A2, c2, h2.below hb, rangeAt_below h3 hb⟩
theorem msgC_len (m : rf.Msg) (ev : Value) : (msgC m ev).length = 9 := rfl
theorem flat_get (l : List (rf.Msg × Value)) (k j : Nat) (p : rf.Msg × Value) (hp : l[k]? = some p) (hj : j < 9) : (l.flatMap fun p => msgC p.1 p.2)[k * 9 + j]? = (msgC p.1 p.2)[j]? := by
  induction l generalizing k with
  | nil => simp at hp
  | cons x r ih =>
    rw [List.flatMap_cons]
    cases k with
    | zero =>
      simp at hp
      subst hp
      rw [List.getElem?_append_left (by rw [msgC_len]; omega)]
      simp
    | succ k =>
      simp at hp
      rw [List.getElem?_append_right (by rw [msgC_len]; omega), msgC_len, show (k + 1) * 9 + j - 9 = k * 9 + j by omega]
      exact ih k hp
/-- a row of messages of the call's own, each with its entries: read as a slice -/
theorem msgsIn_of_row {w : World} {base : Nat} {t : TypeId} {sv : Value} {ms : List rf.Msg} {evs : List Value} (hl : evs.length = ms.length) (h : w.ownsRow base t 9 sv ms.length ((ms.zip evs).flatMap fun p => msgC p.1 p.2)) (he : ∀ p ∈ ms.zip evs, Ents w p.2 p.1.ents) : MsgsIn w sv ms := by
  have hv := h.1
  rcases h.2 with ⟨e1, e2⟩ | ⟨g, cap, cur, e1, _, hh, h1, h2, h3⟩
  · refine ⟨none, 0, by rw [e1, e2], by omega, by unfold maxLen; omega, fun h0 => by omega⟩
  · refine ⟨some ⟨g, 0, none⟩, cap, e1, h1, h2, fun h0 => ⟨g, 0, rfl, fun k hk => ?_⟩⟩
    obtain ⟨ev, hev⟩ : ∃ ev, evs[k]? = some ev := ⟨evs[k]'(by omega), List.getElem?_eq_getElem (by omega)⟩
    have hm : ms[k]? = some (ms.getD k rf.msg0) := by rw [List.getD_eq_getElem?_getD, List.getElem?_eq_getElem hk]; rfl
    have hz : (ms.zip evs)[k]? = some (ms.getD k rf.msg0, ev) := by rw [List.getElem?_zip_eq_some]; exact ⟨hm, hev⟩
    have hE := he _ (List.mem_of_getElem? hz)
    obtain ⟨A2, c2, e2⟩ := ents_form hE
    dsimp only at e2 hE
    subst e2
    refine ⟨A2, c2, hE, fun j v hj => ?_⟩
    have hj9 : j < 9 := (List.getElem?_eq_some_iff.1 hj).1
    have hc := h.cells (g := g) (by rw [e1]; rfl) (k * 9 + j) v (by rw [flat_get _ k j _ hz hj9]; exact hj)
    rw [addr_add] at hc
    rw [show 0 + k * 9 + j = 0 + (k * 9 + j) by omega]
    exact hc
theorem Sent.msgs {base : Nat} {w : World} {sv : Value} {ms : List rf.Msg} (h : Sent base w sv ms) : MsgsIn w sv ms := by
  obtain ⟨evs, h1, h2, h3⟩ := h
  exact msgsIn_of_row h1 h2 (fun p hp => (h3 p hp).1)
theorem owns_below {a w : World} {base : Nat} {e : TypeId} {size n : Nat} {v : Value} {xs : List Value} (h : a.ownsRow base e size v n xs) (hb : Below a.heap.size a w) : w.ownsRow base e size v n xs := by
  refine ⟨h.1, ?_⟩
  rcases h.2 with h2 | ⟨g, cap, cur, h2, h3, hh, h4⟩
  · exact .inl h2
  · exact .inr ⟨g, cap, cur, h2, h3, (hb.block g (Array.getElem?_eq_some_iff.1 hh).1).trans hh, h4⟩
theorem info_rmsg : (Try.prog.info? 70).map (fun i => (i.zero, i.size, i.bytes)) = some (some (.agg #[.int .i64 0, .int .i64 0, .int .i64 0, .int .u64 0, .int .u64 0, .int .u64 0, .int .u64 0, .slice none 0 0, .bool false]), 9, 88) := by kernel_rfl
/-- entries that lie in a row of their own -/
def REnts (base : Nat) (w : World) (p : rf.Msg × Value) : Prop := ∃ A c, p.2 = .slice A p.1.ents.length c ∧ w.ownsRow base 84 2 p.2 p.1.ents.length (entCells p.1.ents)
theorem REnts.kept {base : Nat} {w w' : World} {p : rf.Msg × Value} {row : Option Nat} (h : REnts base w p) (hg : w.grownBy w' row) (hr : ∀ k, row = some k → ∃ cur, w.heap[k]? = some (.cells cur 70 (0, 0))) : REnts base w' p := by
  obtain ⟨A, c, e, ho⟩ := h
  refine ⟨A, c, e, ho.kept hg ?_⟩
  rcases ho.2 with ⟨e2, _⟩ | ⟨g, cap, cur, e2, _, hh, _⟩
  · left; rw [e2]; rfl
  · right
    rw [e2]
    intro e3
    obtain ⟨cur2, h2⟩ := hr g e3.symm
    rw [hh] at h2
    injection h2 with h2
    injection h2 with _ h4 _
    exact absurd h4 (by decide)
theorem REnts.later {base : Nat} {w w' : World} {p : rf.Msg × Value} (h : REnts base w p) (hb : Below w.heap.size w w') : REnts base w' p := by
  obtain ⟨A, c, e, ho⟩ := h
  exact ⟨A, c, e, owns_below ho hb⟩
theorem zip_take_snoc {ms : List rf.Msg} {evs : List Value} {k : Nat} (hk : k < ms.length) (hl : evs.length = k) (ev : Value) : (ms.take (k + 1)).zip (evs ++ [ev]) = (ms.take k).zip evs ++ [(ms.getD k rf.msg0, ev)] := by
  have e : ms.take (k + 1) = ms.take k ++ [ms.getD k rf.msg0] := by
    rw [List.take_add_one, List.getD_eq_getElem?_getD, List.getElem?_eq_getElem hk]; rfl
  rw [e, List.zip_append (by rw [List.length_take, hl]; omega)]
  rfl
set_option maxHeartbeats 8000000 in
theorem msgs_any (v : Value) (ms : List rf.Msg) (w : World) (hv : MsgsIn w v ms) (hl : ms.length ≤ 1000) (hall : ∀ m ∈ ms, m.ents.length ≤ 10000) :
    Calls Try.prog 13 #[v] w fun e w' => ∃ A c, e = .returned (.slice A ms.length c) ∧ MsgsIn w' (.slice A ms.length c) ms ∧ Below w.heap.size w w' := by
  obtain ⟨i0, hi, hz0, hz1, hz2⟩ := info_parts info_rmsg
  obtain ⟨A, c, rfl, hc, hcm, h0⟩ := hv
  obtain ⟨n, hn⟩ : ∃ n, ms.length = n := ⟨_, rfl⟩
  rw [hn] at hl h0 hc ⊢
  have Hn := Lib.hid hn
  have H0 := Lib.hid h0
  have HALL := Lib.hid hall
  clear hn h0 hall
  go_enter Try.func13, Try.ntmps13
  go_wp2_with fail
  have hown0 := World.ownsRow_made (base := w.heap.size) (e := 70) (size := 9) w #[] 0 (Nat.le_refl _) (by unfold maxLen; omega) rfl
  have hb0 : Below w.heap.size w (w.alloc (.cells #[] 70)) := (Below.refl _ w).alloc (Nat.le_refl _) _
  have HO0 := Lib.hid hown0
  have HB0 := Lib.hid hb0
  clear hown0 hb0
  go_loopw [3, 4] (fun u i wr => ∃ (k : Nat) (evs : List Value), k ≤ n ∧ i = .int .i64 k ∧ evs.length = k ∧ wr.ownsRow w.heap.size 70 9 u k (((ms.take k).zip evs).flatMap fun p => msgC p.1 p.2) ∧ (∀ p ∈ (ms.take k).zip evs, REnts w.heap.size wr p) ∧ Below w.heap.size w wr) (fun _ i _ => n - (intOf i).toNat)
  case atStart => exact ⟨0, [], Nat.zero_le _, rfl, rfl, HO0.out, (fun p hp => by simp at hp), HB0.out⟩
  case round =>
    obtain ⟨k, evs, hk, rfl, hel, hown, hev, hbel⟩ := hrel
    by_cases hlt : k < n
    · obtain ⟨b, o, rfl, hA⟩ := H0.out (by omega)
      obtain ⟨A2, c2, hE, hR⟩ := hA k hlt
      have hsn := fun ev => zip_take_snoc (evs := evs) (by rw [Hn.out]; exact hlt : k < ms.length) hel ev
      have hm : (ms.getD k rf.msg0) ∈ ms := by
        rw [List.getD_eq_getElem?_getD, List.getElem?_eq_getElem (by rw [Hn.out]; exact hlt)]
        exact List.getElem_mem _
      obtain ⟨m, hmm⟩ : ∃ m, ms.getD k rf.msg0 = m := ⟨_, rfl⟩
      rw [hmm] at hE hR hm
      simp only [hmm] at hsn
      have hE2 := hE.below hbel
      have hR2 := rangeAt_below hR hbel
      have hcall := msg_any m A2 c2 wr hE2 (HALL.out m hm)
      unfold msgV msgC at hcall
      have hkn : (k : Int) < (n : Int) := by omega
      obtain ⟨xs, hxs⟩ : ∃ xs, (((ms.take k).zip evs).flatMap fun p => msgC p.1 p.2) = xs := ⟨_, rfl⟩
      rw [hxs] at hown
      obtain ⟨Au, cu, hu⟩ := owns_slice hown
      subst hu
      have HSN := Lib.hid hsn
      have HOW := Lib.hid hown
      have HBE := Lib.hid hbel
      have HR2 := Lib.hid hR2
      have HCL := Lib.hid hcall
      have HEV := Lib.hid hev
      have HXS := Lib.hid hxs
      have HEL := Lib.hid hel
      have HSZ : Hid ((Try.prog.info? 27).map (·.size) = some (msgC m (.slice A2 m.ents.length c2)).length) := Lib.hid (by rw [msg_size]; rfl)
      clear hA hE hR hmm hxs hown hbel hsn hm hE2 hR2 hcall hev hel
      have q0 : wr.cell? ⟨b, o + k * 9, none⟩ = some (.int .i64 m.kind) := HR2.out 0 _ rfl
      have q1 : wr.cell? ⟨b, o + k * 9 + 1, none⟩ = some (.int .i64 m.frm) := HR2.out 1 _ rfl
      have q2 : wr.cell? ⟨b, o + k * 9 + 2, none⟩ = some (.int .i64 m.dst) := HR2.out 2 _ rfl
      have q3 : wr.cell? ⟨b, o + k * 9 + 3, none⟩ = some (.int .u64 (m.term : Int)) := HR2.out 3 _ rfl
      have q4 : wr.cell? ⟨b, o + k * 9 + 4, none⟩ = some (.int .u64 (m.index : Int)) := HR2.out 4 _ rfl
      have q5 : wr.cell? ⟨b, o + k * 9 + 5, none⟩ = some (.int .u64 (m.at_ : Int)) := HR2.out 5 _ rfl
      have q6 : wr.cell? ⟨b, o + k * 9 + 6, none⟩ = some (.int .u64 (m.commit : Int)) := HR2.out 6 _ rfl
      have q7 : wr.cell? ⟨b, o + k * 9 + 7, none⟩ = some (.slice A2 m.ents.length c2) := HR2.out 7 _ rfl
      have q8 : wr.cell? ⟨b, o + k * 9 + 8, none⟩ = some (.bool m.ok) := HR2.out 8 _ rfl
      go_wp2_with (first | (go_at_call 26; refine HCL.out.mono ?_; rintro e w6 ⟨A6, c6, rfl, ho6, hb6⟩) | (at_builtin; refine wpList_append_opt _ rfl (.tmp 12) (.tmp 18) 49 rfl w.heap.size 70 i0 _ 9 88 Try.underlying49 hi hz0 hz1 hz2 rfl (by decide) (.slice Au k cu) k xs rfl ((owns_below HOW.out hb6).alloc _) (some ⟨w6.heap.size, 0, none⟩) 1 1 (msgC m (.slice A6 m.ents.length c6)) rfl rfl (fun _ => ⟨_, rfl, cells_newL w6 (msgC m (.slice A6 m.ents.length c6)) _⟩) (msgC_one rfl) (by unfold maxLen; omega) (by omega) (by have q1 := HBE.out.size; have q2 := hb6.size; simp; omega) ?_; intro v' w3 hown' hgrow'; obtain ⟨A', c', hv'⟩ := owns_slice hown'; subst hv'))
      have hb6' : Below w.heap.size w w6 := HBE.out.trans (hb6.mono HBE.out.size)
      have hb3 := (hb6'.alloc hb6'.size (.cells (msgC m (.slice A6 m.ents.length c6)).toArray 70)).grown hgrow' (by have := hb6'.size; simp; omega) (fun j hj => (HOW.out.lt j hj).1)
      rw [← HXS.out, show ((ms.take k).zip evs).flatMap (fun p => msgC p.1 p.2) ++ msgC m (.slice A6 m.ents.length c6) = ((ms.take (k + 1)).zip (evs ++ [.slice A6 m.ents.length c6])).flatMap (fun p => msgC p.1 p.2) by rw [HSN.out, List.flatMap_append]; simp] at hown'
      have hrow : ∀ g, (Value.slice Au k cu).ownBlock = some g → ∃ cur, (w6.alloc (.cells (msgC m (.slice A6 m.ents.length c6)).toArray 70)).heap[g]? = some (.cells cur 70 (0, 0)) := by
        intro g hg
        rcases ((owns_below HOW.out hb6).alloc (.cells (msgC m (.slice A6 m.ents.length c6)).toArray 70)).2 with ⟨e1, _⟩ | ⟨g2, cap, cur, e1, _, hh, _⟩
        · rw [e1] at hg; cases hg
        · rw [e1] at hg
          injection hg with hg
          have hg : g2 = g := hg
          subst hg
          exact ⟨cur, hh⟩
      have hev3 : ∀ p ∈ (ms.take (k + 1)).zip (evs ++ [.slice A6 m.ents.length c6]), REnts w.heap.size w3 p := by
        rw [HSN.out]
        intro p hp
        rcases List.mem_append.1 hp with h1 | h1
        · exact (((HEV.out p h1).later hb6).later ((Below.refl _ w6).alloc (Nat.le_refl _) _)).kept hgrow' hrow
        · simp at h1
          subst h1
          have h2 : REnts w.heap.size w6 (m, .slice A6 m.ents.length c6) := ⟨A6, c6, rfl, owns_below0 ho6 HBE.out.size⟩
          exact (h2.later ((Below.refl _ w6).alloc (Nat.le_refl _) _)).kept hgrow' hrow
      have HO3 := Lib.hid hown'
      have HB3 := Lib.hid hb3
      have HE3 := Lib.hid hev3
      clear hown' hb3 hgrow' hev3 hrow hb6' hb6 ho6 q0 q1 q2 q3 q4 q5 q6 q7 q8
      go_wp2_with fail
      go_roundw
      case rel => exact ⟨k + 1, _, by omega, by go_num, by rw [List.length_append, HEL.out]; rfl, HO3.out, HE3.out, HB3.out⟩
      case measure => simp [intOf]; omega
    · obtain rfl : k = n := by omega
      obtain ⟨Au, cu, hu⟩ := owns_slice hown
      subst hu
      have htk : ms.take k = ms := List.take_of_length_le (by rw [Hn.out]; exact Nat.le_refl _)
      rw [htk] at hown hev
      rw [← Hn.out] at hel hown
      have hfin : MsgsIn wr (.slice Au ms.length cu) ms := msgsIn_of_row hel hown (fun p hp => by obtain ⟨_, _, _, h⟩ := hev p hp; exact ents_of_owns h)
      rw [Hn.out] at hfin
      have HE := Lib.hid hfin
      have HBL := Lib.hid hbel
      clear hown hbel htk hfin hev hel
      go_wp2
      go_ret
      exact ⟨Au, cu, rfl, HE.out, HBL.out⟩
set_option maxHeartbeats 8000000 in
theorem samemsgs_self (A A' : Option Addr) (c c' n : Nat) (ms : List rf.Msg) (w : World) (hv : MsgsIn w (.slice A n c) ms) (hv2 : MsgsIn w (.slice A' n c') ms) (hn : ms.length = n) (hl : n ≤ 1000) (hall : ∀ m ∈ ms, m.ents.length ≤ 10000) :
    Calls Try.prog 12 #[.slice A n c, .slice A' n c'] w fun e w' => e = .returned (.bool true) ∧ Below w.heap.size w w' := by
  obtain ⟨B, d, e, hc, hcm, h0⟩ := hv
  obtain ⟨B', d', e', hc', hcm', h0'⟩ := hv2
  obtain ⟨rfl, rfl⟩ : B = A ∧ d = c := by injection e with e1 _ e2; exact ⟨e1.symm, e2.symm⟩
  obtain ⟨rfl, rfl⟩ : B' = A' ∧ d' = c' := by injection e' with e1 _ e2; exact ⟨e1.symm, e2.symm⟩
  rw [hn] at hc hc' h0 h0'
  have H0 := Lib.hid h0
  have H1 := Lib.hid h0'
  have HALL := Lib.hid hall
  have Hn := Lib.hid hn
  clear h0 h0' hall hn e e'
  go_enter Try.func12, Try.ntmps12
  go_wp2_with fail
  go_loopw [5] (fun i wr => ∃ k : Nat, k ≤ n ∧ i = .int .i64 k ∧ Below w.heap.size w wr) (fun i _ => n - (intOf i).toNat)
  case atStart => exact ⟨0, Nat.zero_le _, rfl, Below.refl _ _⟩
  case round =>
    obtain ⟨k, hk, rfl, hbel⟩ := hrel
    by_cases hlt : k < n
    · obtain ⟨b, o, rfl, hA⟩ := H0.out (by omega)
      obtain ⟨b', o', rfl, hA'⟩ := H1.out (by omega)
      obtain ⟨A1, c1, hE1, hR1⟩ := hA k hlt
      obtain ⟨A2, c2, hE2, hR2⟩ := hA' k hlt
      have hm : (ms.getD k rf.msg0) ∈ ms := by
        rw [List.getD_eq_getElem?_getD, List.getElem?_eq_getElem (by rw [Hn.out]; exact hlt)]
        exact List.getElem_mem _
      obtain ⟨m, hmm⟩ : ∃ m, ms.getD k rf.msg0 = m := ⟨_, rfl⟩
      rw [hmm] at hE1 hR1 hE2 hR2 hm
      have HR1 := Lib.hid (rangeAt_below hR1 hbel)
      have HR2 := Lib.hid (rangeAt_below hR2 hbel)
      have hkn : (k : Int) < (n : Int) := by omega
      have q0 : wr.cell? ⟨b, o + k * 9, none⟩ = some (.int .i64 m.kind) := HR1.out 0 _ rfl
      have q1 : wr.cell? ⟨b, o + k * 9 + 1, none⟩ = some (.int .i64 m.frm) := HR1.out 1 _ rfl
      have q2 : wr.cell? ⟨b, o + k * 9 + 2, none⟩ = some (.int .i64 m.dst) := HR1.out 2 _ rfl
      have q3 : wr.cell? ⟨b, o + k * 9 + 3, none⟩ = some (.int .u64 (m.term : Int)) := HR1.out 3 _ rfl
      have q4 : wr.cell? ⟨b, o + k * 9 + 4, none⟩ = some (.int .u64 (m.index : Int)) := HR1.out 4 _ rfl
      have q5 : wr.cell? ⟨b, o + k * 9 + 5, none⟩ = some (.int .u64 (m.at_ : Int)) := HR1.out 5 _ rfl
      have q6 : wr.cell? ⟨b, o + k * 9 + 6, none⟩ = some (.int .u64 (m.commit : Int)) := HR1.out 6 _ rfl
      have q7 : wr.cell? ⟨b, o + k * 9 + 7, none⟩ = some (.slice A1 m.ents.length c1) := HR1.out 7 _ rfl
      have q8 : wr.cell? ⟨b, o + k * 9 + 8, none⟩ = some (.bool m.ok) := HR1.out 8 _ rfl
      obtain ⟨X, g, hX, hg, hbX, kg⟩ := box_blk wr (msgC m (.slice A1 m.ents.length c1)) 70
      obtain ⟨Y, g', hY, hg', hbY, kg'⟩ := box_blk X (msgC m (.slice A2 m.ents.length c2)) 70
      obtain rfl : g' = g + 1 := by rw [← hg', ← hX, ← hg]; simp
      have HR2X := Lib.hid (rangeAt_below HR2.out hbX)
      have r0 : X.cell? ⟨b', o' + k * 9, none⟩ = some (.int .i64 m.kind) := HR2X.out 0 _ rfl
      have r1 : X.cell? ⟨b', o' + k * 9 + 1, none⟩ = some (.int .i64 m.frm) := HR2X.out 1 _ rfl
      have r2 : X.cell? ⟨b', o' + k * 9 + 2, none⟩ = some (.int .i64 m.dst) := HR2X.out 2 _ rfl
      have r3 : X.cell? ⟨b', o' + k * 9 + 3, none⟩ = some (.int .u64 (m.term : Int)) := HR2X.out 3 _ rfl
      have r4 : X.cell? ⟨b', o' + k * 9 + 4, none⟩ = some (.int .u64 (m.index : Int)) := HR2X.out 4 _ rfl
      have r5 : X.cell? ⟨b', o' + k * 9 + 5, none⟩ = some (.int .u64 (m.at_ : Int)) := HR2X.out 5 _ rfl
      have r6 : X.cell? ⟨b', o' + k * 9 + 6, none⟩ = some (.int .u64 (m.commit : Int)) := HR2X.out 6 _ rfl
      have r7 : X.cell? ⟨b', o' + k * 9 + 7, none⟩ = some (.slice A2 m.ents.length c2) := HR2X.out 7 _ rfl
      have r8 : X.cell? ⟨b', o' + k * 9 + 8, none⟩ = some (.bool m.ok) := HR2X.out 8 _ rfl
      have hbXY := hbX.trans (hbY.mono hbX.size)
      have hwY := hbel.trans (hbXY.mono hbel.size)
      have hcall := same16_self 0 0 A1 A2 m.ents.length c1 c2 m.ents Y (hE1.below hwY) (hE2.below hwY) (by have := HALL.out m hm; omega)
      have kgY := kg.below hbY
      have HX := Lib.hid hX
      have HY := Lib.hid hY
      have HCL := Lib.hid hcall
      have HWY := Lib.hid hwY
      have HG := Lib.hid kgY
      have HG' := Lib.hid kg'
      clear hA hA' hE1 hE2 hR1 hR2 hm hmm hX hY hbX hbY hbXY hwY hcall kg kg' kgY hbel
      go_upto_region 7 with fail
      rw [show wr.alloc (.cells #[.int .i64 m.kind, .int .i64 m.frm, .int .i64 m.dst, .int .u64 (m.term : Int), .int .u64 (m.index : Int), .int .u64 (m.at_ : Int), .int .u64 (m.commit : Int), .slice A1 m.ents.length c1, .bool m.ok] 70) = X from HX.out]
      go_upto_region 8 with fail
      rw [show X.alloc (.cells #[.int .i64 m.kind, .int .i64 m.frm, .int .i64 m.dst, .int .u64 (m.term : Int), .int .u64 (m.index : Int), .int .u64 (m.at_ : Int), .int .u64 (m.commit : Int), .slice A2 m.ents.length c2, .bool m.ok] 70) = Y from HY.out]
      clear q0 r0 q1 r1 q2 r2 q3 r3 q4 r4 q5 r5 q6 r6 q7 r7 q8 r8
      have s7 := HG.out.cell 7 _ rfl
      have t7 := HG'.out.cell 7 _ rfl
      go_wp2_with fail
      refine HCL.out.mono ?_
      rintro e w6 ⟨rfl, hb6⟩
      have k6 := HG.out.below hb6
      have k6' := HG'.out.below hb6
      have s0 := k6.cell 0 _ rfl
      have t0 := k6'.cell 0 _ rfl
      have s1 := k6.cell 1 _ rfl
      have t1 := k6'.cell 1 _ rfl
      have s2 := k6.cell 2 _ rfl
      have t2 := k6'.cell 2 _ rfl
      have s3 := k6.cell 3 _ rfl
      have t3 := k6'.cell 3 _ rfl
      have s4 := k6.cell 4 _ rfl
      have t4 := k6'.cell 4 _ rfl
      have s5 := k6.cell 5 _ rfl
      have t5 := k6'.cell 5 _ rfl
      have s6 := k6.cell 6 _ rfl
      have t6 := k6'.cell 6 _ rfl
      have s8 := k6.cell 8 _ rfl
      have t8 := k6'.cell 8 _ rfl
      have HW6 := Lib.hid (HWY.out.trans (hb6.mono HWY.out.size))
      clear k6 k6' hb6 s7 t7
      go_wp2_with fail
      go_roundw
      case rel => exact ⟨k + 1, by omega, by go_num, HW6.out⟩
      case measure => simp [intOf]; omega
    · obtain rfl : k = n := by omega
      have HBL := Lib.hid hbel
      clear hbel
      go_wp2
      go_ret
      exact ⟨rfl, HBL.out⟩
end Go.Proofs.Ytkoidphhlfjlhaa
