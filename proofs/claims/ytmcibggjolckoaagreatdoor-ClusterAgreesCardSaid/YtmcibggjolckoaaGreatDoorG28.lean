/- ClPut, ClUp: one behind the other. -/
import Derived.Test.YtmcibggjolckoaaGreatDoorG27
import Derived.Test.YtmcibggjolckoaaGreatDoorG23
namespace Go.Proofs.YtmcibggjolckoaaGreatDoor
namespace cl
open rl (Ent e0)
section
variable {n : Nat} {s : Nat → St} {g : Gh}
theorem fits_take {a : Log} (h : Fits g a) (k : Nat) : Fits g (a.take k) := by
  intro j hj
  rw [List.length_take] at hj
  have ht : tm (a.take k) j = tm a j := by
    unfold tm
    rw [List.getD_eq_getElem?_getD, List.getElem?_take, if_pos (by omega), ← List.getD_eq_getElem?_getD]
  rw [ht]
  have h1 := h j (by omega)
  refine Ag.trans ?_ h1
  have h2 := ag_take a (min k a.length) (Nat.min_le_right _ _)
  have h3 : a.take (min k a.length) = a.take k := by rw [← List.take_eq_take_min]
  rw [h3] at h2
  exact h2.le (by omega)
/-- these entries are those of the leader from index p on -/
def Slice (a : Log) (p : Nat) (e : Log) : Prop := p + e.length ≤ a.length ∧ ∀ j, j < e.length → e[j]? = a[p + j]?
theorem termAt_tm {l : Log} {p : Nat} (h0 : p ≠ 0) (h : p ≤ l.length) : rl.termAt l p = (tm l (p - 1), true) := by
  unfold rl.termAt
  rw [if_neg h0, if_neg (by omega)]
  rfl
/-- what a match leaves -/
structure Took (g : Gh) (l a : Log) (p : Nat) (e : Log) (l' : Log) : Prop where
  ag : Ag l' a (p + e.length)
  keep : ∀ (b : Log) (k : Nat), Ag b l k → Ag b a k → Ag b l' k
  fits : Fits g l'
  top : ∀ T, (∀ k, k < l.length → tm l k ≤ T) → (∀ k, k < a.length → tm a k ≤ T) → ∀ k, k < l'.length → tm l' k ≤ T
theorem match_took {l a e : Log} {p pt : Nat} (hl : Fits g l) (ha : Fits g a) (hs : Slice a p e) (h1 : rl.termAt l p = (pt, true)) (h2 : pt = (rl.termAt a p).1) : Took g l a p e (rl.match_ l p pt e).1 ∧ (rl.match_ l p pt e).2 = (p + e.length, 0) := by
  have hpa : p ≤ a.length := by have := hs.1; omega
  have hpl : p ≤ l.length := by
    unfold rl.termAt at h1
    by_cases h0 : p = 0
    · omega
    · rw [if_neg h0] at h1
      by_cases hh : l.length < p
      · rw [if_pos hh] at h1; simp at h1
      · omega
  have hag : Ag l a p := by
    by_cases h0 : p = 0
    · rw [h0]; exact Ag.zero _ _
    · rw [termAt_tm h0 hpl] at h1
      rw [termAt_tm h0 hpa] at h2
      have e1 : tm l (p - 1) = pt := by injection h1
      have h3 := fits_same hl ha (k := p - 1) (by omega) (by omega) (by rw [e1, h2])
      rwa [show p - 1 + 1 = p by omega] at h3
  obtain ⟨q, hq⟩ : ∃ q, rl.common (l.drop p) e = q := ⟨_, rfl⟩
  have q1 : q ≤ l.length - p := by rw [← hq, ← List.length_drop]; exact rl.common_le1 _ _
  have q2 : q ≤ e.length := by rw [← hq]; exact rl.common_le2 _ _
  have hdrop : ∀ j, tm l (p + j) = ((l.drop p).getD j e0).1 := fun j => by
    unfold tm
    rw [List.getD_eq_getElem?_getD, List.getD_eq_getElem?_getD, List.getElem?_drop]
  have hent : ∀ j, j < e.length → tm a (p + j) = (e.getD j e0).1 := fun j hj => by
    unfold tm
    rw [List.getD_eq_getElem?_getD, List.getD_eq_getElem?_getD, hs.2 j hj]
  have hagq : Ag l a (p + q) := by
    by_cases h0 : q = 0
    · rw [h0]; exact hag
    · have e1 := rl.common_spec (l.drop p) e (q - 1) (by omega)
      have e2 := hdrop (q - 1)
      have e3 := hent (q - 1) (by omega)
      have h3 := fits_same hl ha (k := p + (q - 1)) (by omega) (by have := hs.1; omega) (by rw [e2, e3, e1])
      rwa [show p + (q - 1) + 1 = p + q by omega] at h3
  unfold rl.match_
  rw [if_pos h1, hq]
  by_cases hlt : q < e.length
  · rw [if_pos hlt]
    have hl' : l.take (p + q) ++ e.drop q = a.take (p + e.length) := by
      apply List.ext_getElem?
      intro j
      have hlen : (l.take (p + q)).length = p + q := by rw [List.length_take]; omega
      by_cases hj : j < p + q
      · rw [List.getElem?_append_left (by omega), List.getElem?_take, if_pos hj, List.getElem?_take, if_pos (by omega)]
        exact hagq.2.2 j hj
      · rw [List.getElem?_append_right (by omega), hlen, List.getElem?_drop, List.getElem?_take]
        by_cases hj2 : j < p + e.length
        · rw [if_pos hj2, show q + (j - (p + q)) = j - p by omega, hs.2 (j - p) (by omega), show p + (j - p) = j by omega]
        · rw [if_neg hj2, List.getElem?_eq_none (by omega)]
    dsimp only
    rw [hl']
    have hat := ag_take a (p + e.length) hs.1
    refine ⟨⟨hat, fun b k hb1 hb2 => ?_, fits_take ha _, fun T _ h k hk => by
      have h2 := hat.tm (j := k) (by rw [List.length_take] at hk; omega)
      rw [h2]
      exact h k (by rw [List.length_take] at hk; omega)⟩, rfl⟩
    have hk : k ≤ p + q := by
      apply Classical.byContradiction
      intro hgt
      have hb3 := hb1.symm.trans hb2
      have h4 : q < (l.drop p).length := by rw [List.length_drop]; have := hb1.2.1; omega
      have h5 := rl.common_stop (l.drop p) e (by omega) (by omega)
      rw [hq] at h5
      have h6 := hb3.tm (j := p + q) (by omega)
      rw [hdrop, hent q hlt] at h6
      exact h5 h6
    exact hb2.trans (hat.symm.le (by omega))
  · rw [if_neg hlt]
    have hqe : q = e.length := by omega
    subst hqe
    exact ⟨⟨hagq, fun b k hb1 _ => hb1, hl, fun T h _ => h⟩, rfl⟩
/-- what was heard of a node -/
def took (g : Gh) (i T x : Nat) : Gh := { g with ack := upd2 g.ack T i (max (g.ack T i) x) }
theorem turn_put (C : Core n s g) {i f p : Nat} {e l' : Log} (hi : i < n) (hl : g.lead (s i).t = some f) (hs : Slice (g.L (s i).t) p e) (ht : Took g (s i).l (g.L (s i).t) p e l') :
    Turn n s g i ⟨(s i).t, (s i).v, l'⟩ (took g i (s i).t (p + e.length)) := by
  obtain ⟨T, hT⟩ : ∃ T, (s i).t = T := ⟨_, rfl⟩
  rw [hT] at hl hs ht ⊢
  have hle : (s i).t ≤ (⟨T, (s i).v, l'⟩ : St).t := Nat.le_of_eq hT
  have e5 : (took g i T (p + e.length)).ack T i = max (g.ack T i) (p + e.length) := upd2_same _ _ _ _
  have e6 : ∀ t j, t ≠ T ∨ j ≠ i → (took g i T (p + e.length)).ack t j = g.ack t j := fun t j h => upd2_other _ _ h
  have le : Le s g (upd s i ⟨T, (s i).v, l'⟩) (took g i T (p + e.length)) := by
    refine ⟨upd_le hle, fun _ => Ag.refl _ (Nat.le_refl _), id, id, fun _ => rfl, fun t j => ?_, fun t j h => ?_⟩
    · by_cases he : t = T ∧ j = i
      · obtain ⟨rfl, rfl⟩ := he
        rw [e5]; omega
      · rw [e6 t j (by omega)]; exact Nat.le_refl _
    · refine e6 t j ?_
      by_cases hj : j = i
      · subst hj; left; omega
      · exact .inr hj
  have hkeep : ∀ t k, Own g t k → k ≤ g.ack t i → Ag (g.L t) l' k ∨ Blocked n (upd s i ⟨T, (s i).v, l'⟩) (took g i T (p + e.length)) t k := by
    intro t k ho hk
    rcases C.node hi ho hk with h1 | h1
    · have hd := (C.ackd (t := t) (j := i) (by have := ho.1; omega)).2
      by_cases h2 : t = T
      · subst h2
        exact .inl (ht.keep _ _ h1 (Ag.refl _ ho.2.1))
      · rcases C.safe (t := t) (t' := T) (by omega) (by rw [hl]; simp) ho with h3 | h3
        · exact .inl (ht.keep _ _ h1 h3)
        · exact .inr (h3.later le)
    · exact .inr (h1.later le)
  refine ⟨hi, le, fun _ _ _ => rfl, e6, fun _ _ => rfl, fun _ _ => rfl, fun {c} hc => ?_, fun hv => ?_, fun {c} hc => ?_, fun h => C.ldn h, ?_, fun k hk => C.topL T k hk, ?_, fun k hk => ?_, ?_, fun {t k} h1 h2 ho => ?_, fun {t k} ho hk => ?_, fun {t k c} hc htt ho hk => ?_⟩
  · have hc2 : g.gr (s i).t i = some c := by rw [hT]; exact hc
    obtain ⟨h1, _, _, h4⟩ := C.grd hc2
    exact ⟨h1, Nat.le_trans (by rw [← hT]; exact h4) (le.t c), C.v1 hc2⟩
  · obtain ⟨c, h1, h2⟩ := C.v2 hi hv
    exact ⟨c, h1, by rw [← hT]; exact h2⟩
  · obtain ⟨h1, h2, h3⟩ := C.ldd hc
    exact ⟨h1, Nat.le_trans h2 (le.t c), h3⟩
  · have h := (C.fitL T).later le
    exact h
  · exact ht.fits.later le
  · exact ht.top T (by rw [← hT]; exact C.topS hi) (C.topL T) k hk
  · show (took g i T (p + e.length)).ack T i ≤ (g.L T).length
    rw [e5]
    have := C.ackl T i
    have := hs.1
    omega
  · have h := or_later (C.safe h1 h2 ho) le (Ag.refl _ (Nat.le_refl _))
    exact h
  · by_cases hold : k ≤ g.ack t i
    · exact hkeep t k (ho.back le (Nat.le_trans hold (C.ackl t i))) hold
    · have htT : t = T := by
        apply Classical.byContradiction
        intro hne
        rw [e6 t i (.inl hne)] at hk
        exact hold hk
      subst htT
      rw [e5] at hk
      exact .inl (ht.ag.symm.le (by omega))
  · have h := or_later (C.vote (t' := T) (j := i) (i := c) hc htt ho hk) le (Ag.refl _ (Nat.le_refl _))
    exact h
end
end cl
end Go.Proofs.YtmcibggjolckoaaGreatDoor
namespace Go.Proofs.YtmcibggjolckoaaGreatDoor
namespace cl
open rl (Ent e0)
def stOf (x : rf.Node) : St := ⟨x.term, x.vote, x.log⟩
structure UpOk (n : Nat) (s : Nat → St) (g : Gh) (i : Nat) (x : rf.Node) : Prop where
  id : x.id = (i : Int)
  many : x.many = (n : Int)
  st : s i = stOf x
  r1 : x.role = 1 → g.cand x.term i = x.log ∧ g.lead x.term ≠ some i ∧ x.vote = (i : Int) ∧ ∀ j, j < n → x.votes.getD j false = true → g.gr x.term j = some i
  r2 : x.role = 2 → g.lead x.term = some i ∧ g.L x.term = x.log ∧ x.vote = (i : Int) ∧ ∀ j, j < n → x.mat.getD j 0 ≤ g.ack x.term j
  com : CommitOk n g x.term x.log x.commit
  len : x.votes.length = 7 ∧ x.mat.length = 7
structure MsgOk (n : Nat) (s : Nat → St) (g : Gh) (m : rf.Msg) : Prop where
  dom : ∃ f d : Nat, m.frm = (f : Int) ∧ m.dst = (d : Int) ∧ f < n ∧ d < n ∧ m.term ≤ (s f).t
  k1 : ∀ f : Nat, m.frm = (f : Int) → m.kind = 1 → m.index = (g.cand m.term f).length ∧ m.at_ = rl.lastTerm (g.cand m.term f) ∧ Fits g (g.cand m.term f)
  k2 : ∀ f d : Nat, m.frm = (f : Int) → m.dst = (d : Int) → m.kind = 2 → m.ok = true → g.gr m.term f = some d
  k3 : ∀ f : Nat, m.frm = (f : Int) → m.kind = 3 → g.lead m.term = some f ∧ Slice (g.L m.term) m.index m.ents ∧ m.at_ = (rl.termAt (g.L m.term) m.index).1 ∧ CommitOk n g m.term (g.L m.term) (min m.commit (m.index + m.ents.length))
  k4 : ∀ f : Nat, m.frm = (f : Int) → m.kind = 4 → m.ok = true → m.index ≤ g.ack m.term f
section
variable {n : Nat} {s s' : Nat → St} {g g' : Gh}
theorem CommitOk.less {T c c' : Nat} {l : Log} (h : CommitOk n g T l c) (hc : c' ≤ c) : CommitOk n g T l c' := by
  rcases h with h | ⟨t, k, h1, h2, h3, h4⟩
  · exact .inl (by omega)
  · exact .inr ⟨t, k, h1, h2, by omega, h4.le hc⟩
theorem Slice.later {a a' : Log} {p : Nat} {e : Log} (h : Slice a p e) (ha : Ag a a' a.length) : Slice a' p e :=
  ⟨Nat.le_trans h.1 ha.2.1, fun j hj => (h.2 j hj).trans (ha.2.2 (p + j) (by have := h.1; omega))⟩
theorem termAt_later {a a' : Log} {p : Nat} (hp : p ≤ a.length) (ha : Ag a a' a.length) : rl.termAt a' p = rl.termAt a p := by
  by_cases h0 : p = 0
  · rw [h0]; rfl
  · rw [termAt_tm h0 hp, termAt_tm h0 (Nat.le_trans hp ha.2.1), ha.tm (j := p - 1) (by omega)]
theorem MsgOk.later {m : rf.Msg} (h : MsgOk n s g m) (hl : Le s g s' g') : MsgOk n s' g' m := by
  obtain ⟨f, d, h1, h2, h3, h4, h5⟩ := h.dom
  refine ⟨⟨f, d, h1, h2, h3, h4, Nat.le_trans h5 (hl.t f)⟩, fun b hb hk => ?_, fun b c hb hc hk ho => hl.gr (h.k2 b c hb hc hk ho), fun b hb hk => ?_, fun b hb hk ho => Nat.le_trans (h.k4 b hb hk ho) (hl.ack _ _)⟩
  · obtain rfl : b = f := by omega
    obtain ⟨q1, q2, q3⟩ := h.k1 b hb hk
    rw [hl.cand h5]
    exact ⟨q1, q2, q3.later hl⟩
  · obtain ⟨q1, q2, q3, q4⟩ := h.k3 b hb hk
    have hL := hl.L m.term
    exact ⟨hl.lead q1, q2.later hL, by rw [termAt_later (by have := q2.1; omega) hL]; exact q3, q4.later hl (Nat.le_refl _) (hL.le (by have := q2.1; omega))⟩
/-- node i goes on -/
structure Goes (n : Nat) (s : Nat → St) (g : Gh) (i : Nat) (x : rf.Node) (out : List rf.Msg) (g' : Gh) : Prop where
  core : Core n (upd s i (stOf x)) g'
  le : Le s g (upd s i (stOf x)) g'
  up : UpOk n (upd s i (stOf x)) g' i x
  out : ∀ m ∈ out, MsgOk n (upd s i (stOf x)) g' m
  L : ∀ t j, j ≠ i → g.lead t = some j → g'.L t = g.L t
  lead : ∀ t j, j ≠ i → g'.lead t = some j → g.lead t = some j
theorem upd_id (i : Nat) (a : St) (h : s i = a) : upd s i a = s := by
  funext j
  by_cases hj : j = i
  · subst hj; rw [upd_same, h]
  · rw [upd_other _ _ hj]
theorem upd_upd (i : Nat) (a b : St) : upd (upd s i a) i b = upd s i b := by
  funext j
  by_cases hj : j = i
  · subst hj; rw [upd_same, upd_same]
  · rw [upd_other _ _ hj, upd_other _ _ hj, upd_other _ _ hj]
/-- nothing is kept anew -/
theorem Goes.stay (C : Core n s g) {i : Nat} {x : rf.Node} {out : List rf.Msg} (hu : UpOk n s g i x) (ho : ∀ m ∈ out, MsgOk n s g m) : Goes n s g i x out g := by
  have e := upd_id i (stOf x) hu.st
  refine ⟨?_, ?_, ?_, ?_, fun _ _ _ _ => rfl, fun _ _ _ h => h⟩ <;> rw [e]
  · exact C
  · exact Le.refl _ _
  · exact hu
  · exact ho
theorem Goes.trans {i : Nat} {x y : rf.Node} {o o2 : List rf.Msg} {g1 g2 : Gh} (h : Goes n s g i x o g1) (k : Goes n (upd s i (stOf x)) g1 i y o2 g2) : Goes n s g i y (o ++ o2) g2 := by
  have e := upd_upd (s := s) i (stOf x) (stOf y)
  obtain ⟨k1, k2, k3, k4, k5, k6⟩ := k
  rw [e] at k1 k2 k3 k4
  refine ⟨k1, h.le.trans k2, k3, fun m hm => ?_, fun t j hj hl => (k5 t j hj (h.le.lead hl)).trans (h.L t j hj hl), fun t j hj hl => h.lead t j hj (k6 t j hj hl)⟩
  rcases List.mem_append.1 hm with h1 | h1
  · exact (h.out m h1).later k2
  · exact k4 m h1
/-- other nodes stay -/
theorem UpOk.other {i j : Nat} {x y : rf.Node} {out : List rf.Msg} (h : UpOk n s g j y) (hj : j ≠ i) (hg : Goes n s g i x out g') : UpOk n (upd s i (stOf x)) g' j y := by
  have ht : (s j).t = y.term := by rw [h.st]; rfl
  refine ⟨h.id, h.many, by rw [upd_other _ _ hj]; exact h.st, fun hr => ?_, fun hr => ?_, h.com.later hg.le (Nat.le_refl _) (Ag.refl _ ?_), h.len⟩
  · obtain ⟨h1, h2, h3, h4⟩ := h.r1 hr
    exact ⟨by rw [hg.le.cand (by rw [ht]; exact Nat.le_refl _)]; exact h1, fun e => h2 (hg.lead _ j hj e), h3, fun k hk hv => hg.le.gr (h4 k hk hv)⟩
  · obtain ⟨h1, h2, h3, h4⟩ := h.r2 hr
    exact ⟨hg.le.lead h1, by rw [hg.L _ j hj h1]; exact h2, h3, fun k hk => Nat.le_trans (h4 k hk) (hg.le.ack _ _)⟩
  · rcases h.com with h1 | ⟨t, k, _, _, _, h4⟩
    · rw [h1]; exact Nat.zero_le _
    · exact h4.2.1
/-- a later term -/
theorem goes_back (C : Core n s g) {i : Nat} (hi : i < n) {x : rf.Node} (hu : UpOk n s g i x) {T : Nat} (hT : x.term < T) : Goes n s g i (rf.back x T) [] g := by
  have e : rf.back x T = { x with role := 0, lead := -1, term := T, vote := -1 } := by unfold rf.back; rw [if_pos hT]
  have es : stOf (rf.back x T) = ⟨T, -1, (s i).l⟩ := by rw [e, hu.st]; rfl
  have ht : (s i).t < T := by rw [hu.st]; exact hT
  have tu := turn_bump C hi ht
  refine ⟨by rw [es]; exact tu.core C, by rw [es]; exact tu.le, ?_, fun m hm => (by cases hm), fun _ _ _ _ => rfl, fun _ _ _ h => h⟩
  rw [es]
  refine ⟨by rw [e]; exact hu.id, by rw [e]; exact hu.many, by rw [upd_same, ← es], fun h => ?_, fun h => ?_, ?_, by rw [e]; exact hu.len⟩
  · rw [e] at h; exact absurd (show (0 : Int) = 1 from h) (by decide)
  · rw [e] at h; exact absurd (show (0 : Int) = 2 from h) (by decide)
  · rw [e]
    refine hu.com.later tu.le (Nat.le_of_lt hT) (Ag.refl _ ?_)
    rcases hu.com with h1 | ⟨t, k, _, _, _, h4⟩
    · rw [h1]; exact Nat.zero_le _
    · exact h4.2.1
theorem CommitOk.len {T c : Nat} {l : Log} (h : CommitOk n g T l c) : c ≤ l.length := by
  rcases h with h1 | ⟨t, k, _, _, _, h4⟩
  · rw [h1]; exact Nat.zero_le _
  · exact h4.2.1
theorem goes_fresh (C : Core n s g) {i : Nat} (hi : i < n) {x : rf.Node} (hu : UpOk n s g i x) (m : rf.Msg) : Goes n s g i (rf.fresh x m) [] g := by
  unfold rf.fresh
  split
  · rename_i h
    exact goes_back C hi hu h
  · exact Goes.stay C hu (fun _ h => by cases h)
/-- only what is not kept changes, and no role -/
theorem UpOk.with {i : Nat} {x y : rf.Node} (h : UpOk n s g i x) (e1 : y.id = x.id) (e2 : y.many = x.many) (e3 : stOf y = stOf x) (e4 : y.role = x.role ∨ y.role = 0) (e5 : y.votes = x.votes) (e6 : y.mat = x.mat) (e7 : y.commit = x.commit) : UpOk n s g i y := by
  have t1 : y.term = x.term := congrArg St.t e3
  have t2 : y.vote = x.vote := congrArg St.v e3
  have t3 : y.log = x.log := congrArg St.l e3
  refine ⟨e1.trans h.id, e2.trans h.many, h.st.trans e3.symm, fun hr => ?_, fun hr => ?_, by rw [t1, t3, e7]; exact h.com, by rw [e5, e6]; exact h.len⟩
  · rw [t1, t2, t3, e5]
    exact h.r1 (by omega)
  · rw [t1, t2, t3, e6]
    exact h.r2 (by omega)
end
end cl
end Go.Proofs.YtmcibggjolckoaaGreatDoor
