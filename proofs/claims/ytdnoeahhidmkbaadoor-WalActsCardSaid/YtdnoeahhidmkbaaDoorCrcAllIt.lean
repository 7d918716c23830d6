/- crc.All walked: it comes to all texts, and where the last one ends. -/
import Derived.Test.YtdnoeahhidmkbaaDoorCrcIter
import Derived.RegionIn
import Derived.BigRegionIn
namespace Go.Proofs.YtdnoeahhidmkbaaDoor
open Go Go.RowKit
set_option maxRecDepth 100000

attribute [local go_sem] Oper.semAt_some

theorem KeepS.trans {n₀ Bs : Nat} {A B C : World} (h : KeepS n₀ Bs A B) (k : KeepS n₀ Bs B C) : KeepS n₀ Bs A C := ⟨h.1.trans k.1, k.2.trans h.2⟩
theorem texts_stops (n : Nat) (hn : 1 ≤ n) (Bs n₀ : Nat) (s : ByteArray) (hs : s.size ≤ 10000000) (hn₀ : 0 < n₀) (w : World) (hsz : n₀ ≤ w.heap.size) (hb : w.heap[Bs]? = some (.cells #[.string s] 9 (0, 0))) (ht : TabAt w) :
    SeqStopsK Fence.wide n Tryd.prog 85 #[.pointer (some ⟨Bs, 0, none⟩)] encP (KeepS n₀ Bs) (fun ys => ys = crcm.pairsFrom 0 s.data.toList) (fun pre => pre <+: crcm.pairsFrom 0 s.data.toList) (crcm.pairsFrom 0 s.data.toList).length w :=
  fun l J Jx W hW hJ _ hY h0 => texts1_in n hn l Bs n₀ s hs hn₀ J Jx W hJ hY ((hW.block Bs (lt_of_block hb)).trans hb) (Nat.le_trans hsz hW.size) (ht.below hW ht.1) h0

theorem texts_in (n : Nat) (s : ByteArray) (w : World) :
    CallsIn Fence.wide n Tryd.prog 60 #[.string s] w fun e w' => e = .returned (.func (.func 85) #[] #[.pointer (some ⟨w.heap.size, 0, none⟩)]) ∧ w' = w.alloc (.cells #[.string s] 9) := by
  refine callsIn_of_wp Tryd.func60 rfl trivial ?_ rfl
  simp only [Tryd.ntmps60, List.size_toArray, List.length_cons, List.length_nil, Nat.reduceAdd, Nat.reduceSub, Array.replicate_succ, Array.replicate_zero, List.push_toArray, List.append_toArray, List.nil_append, List.cons_append]
  gi_wp2
  go_ret
  exact ⟨rfl, rfl⟩

theorem row_far {W : World} {base : Nat} {e : TypeId} {size k : Nat} {v : Value} {xs : List Value} (hr : W.ownsRow base e size v k xs) {B : Nat} (h : B < base) : some B ≠ v.ownBlock := by
  intro e'
  have := (hr.lt B e'.symm).1
  omega
theorem box_grown {W w1 : World} {B base : Nat} {t e : TypeId} {size k : Nat} {u v : Value} {xs : List Value} {tmp : Obj} (hv : Boxed W B t u) (h : B < base) (hrow : W.ownsRow base e size v k xs) (hg : (W.alloc tmp).grownBy w1 v.ownBlock) : Boxed w1 B t u :=
  (hv.alloc tmp).kept hg (row_far hrow h)
theorem grown_keeps {W w1 : World} {base : Nat} {e : TypeId} {size k : Nat} {v : Value} {xs : List Value} {tmp : Obj} (hrow : W.ownsRow base e size v k xs) (hgrow : (W.alloc tmp).grownBy w1 v.ownBlock) : KeepsOthers W w1 := by
  refine (KeepsOthers.alloc W tmp).trans (KeepsOthers.of_grownBy hgrow fun j o ej hj => ?_)
  rcases (hrow.alloc tmp).2 with ⟨rfl, _⟩ | ⟨g, cap, cur, rfl, _, hgb, _⟩
  · simp [Value.ownBlock] at ej
  · obtain rfl : g = j := by simpa [Value.ownBlock] using ej
    rw [hgb] at hj; cases hj; rfl
theorem grown_below {W w1 : World} {base n₀ : Nat} {e : TypeId} {size k : Nat} {v : Value} {xs : List Value} {tmp : Obj} (hrow : W.ownsRow base e size v k xs) (hgrow : (W.alloc tmp).grownBy w1 v.ownBlock) (h : n₀ ≤ base) (hn : n₀ ≤ W.heap.size) : Below n₀ W w1 :=
  ((Below.refl n₀ W).alloc hn tmp).grown hgrow (by simp; omega) fun j ej => Nat.le_trans h (hrow.lt j ej).1
theorem box_own {β : Type} (B : Nat) (t : TypeId) (f : β → Value) : Own (fun s W => Boxed W B t (f s)) := fun s X Y row h hg hrow =>
  h.kept hg (fun e' => by
    obtain ⟨o, ho, hc⟩ := hrow B e'.symm
    rw [show X.heap[B]? = _ from h] at ho; cases ho; cases hc)

theorem owns_mono {w : World} {base base' : Nat} {e : TypeId} {size n : Nat} {v : Value} {xs : List Value} (h : w.ownsRow base e size v n xs) (hb : base' ≤ base) : w.ownsRow base' e size v n xs := by
  refine ⟨h.1, ?_⟩
  rcases h.2 with h | ⟨g, cap, cur, e1, h1, r⟩
  · exact .inl h
  · exact .inr ⟨g, cap, cur, e1, Nat.le_trans hb h1, r⟩
/-- a slice of strings in blocks from B on -/
def StrsB (B : Nat) (w : World) (v : Value) (ls : List (List UInt8)) : Prop :=
  ∃ A c, v = .slice A ls.length c ∧ ∀ k, k < ls.length → ∃ ad, A = some ad ∧ B ≤ ad.block ∧ w.cell? (ad.add k) = some (.string (crcm.mk (ls.getD k [])))
theorem StrsB.strs {B : Nat} {w : World} {v : Value} {ls : List (List UInt8)} (h : StrsB B w v ls) : Strs w v ls := by
  obtain ⟨A, c, e, hc⟩ := h
  exact ⟨A, c, e, fun k hk => by obtain ⟨ad, e2, _, h2⟩ := hc k hk; exact ⟨ad, e2, h2⟩⟩
theorem StrsB.below {B : Nat} {w w' : World} {v : Value} {ls : List (List UInt8)} (h : StrsB B w v ls) (hb : Below w.heap.size w w') : StrsB B w' v ls := by
  obtain ⟨A, c, e, hc⟩ := h
  exact ⟨A, c, e, fun k hk => by obtain ⟨ad, e2, h1, h2⟩ := hc k hk; exact ⟨ad, e2, h1, cell_later hb h2⟩⟩
theorem StrsB.mono {B B' : Nat} {w : World} {v : Value} {ls : List (List UInt8)} (h : StrsB B w v ls) (hB : B' ≤ B) : StrsB B' w v ls := by
  obtain ⟨A, c, e, hc⟩ := h
  exact ⟨A, c, e, fun k hk => by obtain ⟨ad, e2, h1, h2⟩ := hc k hk; exact ⟨ad, e2, Nat.le_trans hB h1, h2⟩⟩
theorem strsB_of_owns {w : World} {base : Nat} {e : TypeId} {v : Value} {n : Nat} {ls : List (List UInt8)} (hn : n = ls.length) (h : w.ownsRow base e 1 v n (ls.map strV)) : StrsB base w v ls := by
  obtain ⟨A, c, e1, hc⟩ := strs_of_owns hn h
  refine ⟨A, c, e1, fun k hk => ?_⟩
  obtain ⟨ad, e2, h2⟩ := hc k hk
  refine ⟨ad, e2, ?_, h2⟩
  subst e2
  exact (h.lt ad.block (by rw [e1]; rfl)).1
set_option maxRecDepth 100000 in
set_option maxHeartbeats 4000000 in
theorem all_own (s : ByteArray) (w : World) (hs : s.size ≤ 10000000) (ht : TabAt w) :
    Calls Tryd.prog 36 #[.string s] w fun e w' => ∃ v, e = .returned (.tuple #[v, .int .i64 ((crcm.allOf s.data.toList).2 : Nat)]) ∧ w'.ownsRow w.heap.size 9 1 v (crcm.allOf s.data.toList).1.length ((crcm.allOf s.data.toList).1.map strV) ∧ Below w.heap.size w w' := by
  obtain ⟨i0, hi, hz0, hz1, hz2⟩ := info_parts info_string
  refine (callsIn_wide (n := 3)).1 ?_
  refine callsIn_of_wp_marks Tryd.func36 rfl trivial ?_ rfl
  simp only [Tryd.ntmps36, List.size_toArray, List.length_cons, List.length_nil, Nat.reduceAdd, Nat.reduceSub, Array.replicate_succ, Array.replicate_zero, List.push_toArray, List.append_toArray, List.nil_append, List.cons_append]
  gi_wp2_with (refine ⟨trivial, ?_⟩; gi_at_call 60; refine (texts_in _ _ _).mono ?_; rintro e w' ⟨rfl, rfl⟩)
  have hpa := crcm.pairs_all s.data.toList.length 0 s.data.toList (Nat.le_refl _)
  rw [crcm.size_len] at hpa
  have Hpa := Lib.hid hpa
  have hnp : (crcm.pairsFrom 0 s.data.toList).length ≤ 10000000 := by have := hpa.2.2; omega
  clear hpa
  have bO := Boxed.new w 26 (.slice none 0 0)
  have bE := Boxed.new (w.alloc (.cells #[.slice none 0 0] 26)) 3 (.int .i64 0)
  have bS := Boxed.new ((w.alloc (.cells #[.slice none 0 0] 26)).alloc (.cells #[.int .i64 0] 3)) 9 (.string s)
  simp only [World.size_alloc] at bE bS
  have hB0 : Below w.heap.size w (((w.alloc (.cells #[.slice none 0 0] 26)).alloc (.cells #[.int .i64 0] 3)).alloc (.cells #[.string s] 9)) := (((Below.refl _ w).alloc (Nat.le_refl _) _).alloc (by simp) _).alloc (by simp; omega) _
  have ht0 := ht.below hB0 ht.1
  refine wpIn_rangeFunc_ownG rfl (by decide) (gf := 85) (lb := #[.pointer (some ⟨w.heap.size + 1 + 1, 0, none⟩)]) rfl trivial (enters_of Tryd.func85 (by kernel_rfl) rfl)
    (texts_stops 2 (by decide) (w.heap.size + 1 + 1) w.heap.size s hs ht.1 _ (by simp; omega) bS ht0) KeepS.trans
    (fun W l o o' hl h h1 h2 => ⟨belowK_b (w := (((w.alloc (.cells #[.slice none 0 0] 26)).alloc (.cells #[.int .i64 0] 3)).alloc (.cells #[.string s] 9))) (by simp; omega) W l o o' hl h h1 h2, World.putObj_heap_other (by simp at hl; omega)⟩) (Below.refl _ _) (fun _ => rfl)
    (fun pre W => (∃ v, Boxed W w.heap.size 26 v ∧ W.ownsRow (w.heap.size + 3) 9 1 v pre.length ((pre.map (·.2)).map strV) ∧ True) ∧ Boxed W (w.heap.size + 1) 3 (.int .i64 (crcm.lastEnd 0 pre : Nat)) ∧ Boxed W (w.heap.size + 1 + 1) 9 (.string s) ∧ Below w.heap.size w W)
    (fun _ _ _ => False)
    (OwnFrom.and (Own.from (holdsRow_own (w.heap.size + 3) w.heap.size 26 9 1 (fun pre : List (Nat × List UInt8) => pre.length) (fun pre => (pre.map (·.2)).map strV) (fun _ _ => True)) _) (OwnFrom.and (Own.from (box_own _ _ (fun pre : List (Nat × List UInt8) => Value.int .i64 (crcm.lastEnd 0 pre : Nat))) _) (OwnFrom.and (Own.from (box_own _ _ (fun _ : List (Nat × List UInt8) => Value.string s)) _) (ownFrom_below (Nat.le_refl _) (by simp; omega)))))
    (fun _ _ _ _ _ hs _ _ => hs)
    ⟨⟨_, (bO.alloc _).alloc _, World.ownsRow_nil _ _ _ _, trivial⟩, bE.alloc _, bS, hB0⟩
    (fun x => { tmps := #[.string s, undef, .pointer (some ⟨w.heap.size, 0, none⟩), .pointer (some ⟨w.heap.size + 1, 0, none⟩), .int .i64 (x.1 : Int), .string (crcm.mk x.2), .string s, .func (.func 85) #[] #[.pointer (some ⟨w.heap.size + 1 + 1, 0, none⟩)], .int .i64 (x.1 : Int), .string (crcm.mk x.2), undef, undef, undef, undef, undef, undef, undef], defers := [] }) ?assign ?body ?done ?stop
  case assign =>
    intro l x W K hK
    dsimp only [encP]
    gi_wp2
    exact hK
  case body =>
    rintro l pre x W ⟨⟨v, hv, hrow, _⟩, hE, hS, hB⟩ hlt
    have hc := hv.cell
    have hsz3 : w.heap.size + 3 ≤ W.heap.size := by have := hS.lt; omega
    gi_wp2_with (gi_at_builtin; refine wpListIn_append_own _ rfl _ _ 26 rfl (w.heap.size + 3) 9 i0 (.string .empty) 1 16 Tryd.underlying26 hi hz0 hz1 hz2 rfl (by decide) _ _ _ rfl (hrow.alloc _) ⟨W.heap.size, 0, none⟩ 1 1 [strV x.2] rfl rfl (cell_one_new _ _ _) (strV_one _) (by unfold maxLen; omega) (by omega) (by simp; omega) ?_; intro v' w1 hown' hgrow _; obtain ⟨g', cap', rfl⟩ := ownsRow_succ hown'; have hv1 := box_grown hv (by omega) hrow hgrow; have hE1 := box_grown hE (by omega) hrow hgrow; have hS1 := box_grown hS (by omega) hrow hgrow; have hc1 := hv1.cell; have hf1 := hv1.frozen; have he1 := hE1.cell; have hef := hE1.frozen)
    have hgr : (W.alloc (.cells #[strV x.2] 9)).grownBy w1 v.ownBlock := hgrow
    have hko := grown_keeps hrow hgr
    have hbl := grown_below hrow hgr (Nat.le_add_right w.heap.size 3) (by omega)
    have hlen : pre.length + 1 = (pre ++ [x]).length := by simp
    have hmap : (pre.map (·.2)).map strV ++ [strV x.2] = ((pre ++ [x]).map (·.2)).map strV := by simp
    refine ⟨((hko.trans (KeepsOthers.setCell _ _ _)).trans (KeepsOthers.setCell _ _ _)).from _, ⟨(hbl.setCell (p := ⟨w.heap.size, 0, none⟩) (Nat.le_refl _) _).setCell (p := ⟨w.heap.size + 1, 0, none⟩) (Nat.le_succ _) _, ?_⟩, ⟨_, (hv1.set _).other (by omega) _, ?_, trivial⟩, ?_, (hS1.other (by omega) _).other (by omega) _, hB.trans ((hbl.setCell (p := ⟨w.heap.size, 0, none⟩) (Nat.le_refl _) _).setCell (p := ⟨w.heap.size + 1, 0, none⟩) (Nat.le_succ _) _)⟩
    · exact ((hS1.other (B' := w.heap.size) (by omega) _).other (B' := w.heap.size + 1) (by omega) _).trans hS.symm
    · rw [← hlen, ← hmap]
      exact (hown'.kept (grownBy_setCell' _ _ _) (.inr (row_far hown' (by omega)).symm)).kept (grownBy_setCell' _ _ _) (.inr (row_far hown' (by omega)).symm)
    · rw [crcm.lastEnd_snoc]
      exact (hE1.other (by omega) _).set _
  case done =>
    rintro D ys W hD rfl ⟨⟨v, hv, hrow, _⟩, hE, hS, hB⟩ hK
    have hc := hv.cell
    have hcf := hv.frozen
    have he := hE.cell
    have hef := hE.frozen
    obtain ⟨a, n, c, rfl⟩ : ∃ a n c, v = .slice a n c := by
      rcases hrow.2 with ⟨h, _⟩ | ⟨g, cap, cur, h, _⟩
      · exact ⟨_, _, _, h⟩
      · exact ⟨_, _, _, h⟩
    gi_wp2
    gi_region
    gi_wp2
    obtain ⟨W2, hW2⟩ : ∃ W2, ((W.setCell ⟨w.heap.size, 0, none⟩ (Value.slice a n c)).setCell ⟨w.heap.size + 1, 0, none⟩ (Value.int .i64 (crcm.lastEnd 0 (crcm.pairsFrom 0 s.data.toList) : Nat))).drew = W2 := ⟨_, rfl⟩
    have hK2 : W2.heap[D]? = some (.deferred (some [])) := by rw [← hW2]; exact (((KeepsOthers.setCell _ _ _).trans (KeepsOthers.setCell _ _ _)).trans (KeepsOthers.drew _)).same D _ hK rfl
    have hv2 : Boxed W2 w.heap.size 26 (.slice a n c) := by rw [← hW2]; exact (hv.set _).other (by omega) _
    have he2 : Boxed W2 (w.heap.size + 1) 3 (.int .i64 (crcm.lastEnd 0 (crcm.pairsFrom 0 s.data.toList) : Nat)) := by rw [← hW2]; exact (hE.other (by omega) _).set _
    have hr2 : W2.ownsRow (w.heap.size + 3) 9 1 (.slice a n c) (crcm.pairsFrom 0 s.data.toList).length (((crcm.pairsFrom 0 s.data.toList).map (·.2)).map strV) := by
      rw [← hW2]; exact ((hrow.kept (grownBy_setCell' _ _ _) (.inr (row_far hrow (by omega)).symm)).kept (grownBy_setCell' _ _ _) (.inr (row_far hrow (by omega)).symm)).drew
    have hb2 : Below w.heap.size w W2 := by rw [← hW2]; exact ((hB.setCell (p := ⟨w.heap.size, 0, none⟩) (Nat.le_refl _) _).setCell (p := ⟨w.heap.size + 1, 0, none⟩) (Nat.le_succ _) _).drew
    rw [hW2]
    clear hW2
    refine ⟨by simp, .inl ⟨_, _, rfl, run_takeDeferred hK2, ?_⟩⟩
    have hc3 := cell_kept hv2.cell (grownBy_putObj' _ D (.deferred none)) (fun r e => by cases e; exact ⟨_, hK2, rfl⟩)
    have he3 := cell_kept he2.cell (grownBy_putObj' _ D (.deferred none)) (fun r e => by cases e; exact ⟨_, hK2, rfl⟩)
    have hr3 := ownsRow_putObj hr2 (.deferred none) hK2 rfl
    have hb3 : Below w.heap.size w (W2.putObj D (.deferred none)) := hb2.trans (belowK_b (w := w) (Nat.le_refl _) W2 D _ _ (by simp at hD; omega) hK2 rfl rfl)
    refine ⟨.tuple #[.slice a n c, .int .i64 (crcm.lastEnd 0 (crcm.pairsFrom 0 s.data.toList) : Nat)], ?_, .slice a n c, ?_, ?_, hb3⟩
    · simp [results, Tryd.f36, go_sem, hc3, he3]
    · rw [Hpa.out.2.1, Nat.zero_add]
    · rw [← Hpa.out.1]
      refine owns_mono ?_ (show w.heap.size ≤ w.heap.size + 3 by omega)
      rw [List.length_map]
      exact hr3
  case stop =>
    rintro D c pre W _ _ h _
    exact h.elim
theorem all_from (s : ByteArray) (w : World) (hs : s.size ≤ 10000000) (ht : TabAt w) :
    Calls Tryd.prog 36 #[.string s] w fun e w' => ∃ v, e = .returned (.tuple #[v, .int .i64 ((crcm.allOf s.data.toList).2 : Nat)]) ∧ StrsB w.heap.size w' v (crcm.allOf s.data.toList).1 ∧ Below w.heap.size w w' :=
  (all_own s w hs ht).mono (by rintro e w' ⟨v, h1, h2, h3⟩; exact ⟨v, h1, strsB_of_owns rfl h2, h3⟩)
theorem all_any (s : ByteArray) (w : World) (hs : s.size ≤ 10000000) (ht : TabAt w) :
    Calls Tryd.prog 36 #[.string s] w fun e w' => ∃ v, e = .returned (.tuple #[v, .int .i64 ((crcm.allOf s.data.toList).2 : Nat)]) ∧ Strs w' v (crcm.allOf s.data.toList).1 ∧ Below w.heap.size w w' :=
  (all_from s w hs ht).mono (by rintro e w' ⟨v, h1, h2, h3⟩; exact ⟨v, h1, h2.strs, h3⟩)
end Go.Proofs.YtdnoeahhidmkbaaDoor
