/- ClHand, ClNode: one behind the other. -/
import Derived.Test.YtmcibggjolckoaaGreatDoorG28
namespace Go.Proofs.YtmcibggjolckoaaGreatDoor
namespace cl
open rl (Ent e0)
section
variable {n : Nat} {s s' : Nat → St} {g g' : Gh}
theorem size_eq {x : rf.Node} (h : x.many = (n : Int)) (h7 : n ≤ 7) : rf.size x = n := by
  unfold rf.size
  rw [h]
  omega
theorem maj_of {x : rf.Node} (h : x.many = (n : Int)) (h7 : n ≤ 7) {p : Nat → Bool} (hp : rf.majority x p = true) : maj n p := by
  unfold rf.majority rf.count at hp
  rw [size_eq h h7, h] at hp
  simp only [decide_eq_true_eq] at hp
  unfold maj
  omega
/-- what is committed by what was heard -/
theorem tally_com {x : rf.Node} (hm : x.many = (n : Int)) (h7 : n ≤ 7) (hc : CommitOk n g x.term x.log x.commit) (hL : g.L x.term = x.log) (hmat : ∀ j, j < n → x.mat.getD j 0 ≤ g.ack x.term j) : CommitOk n g x.term x.log (rf.tally x).commit := by
  have key : ∀ i, i ≤ x.log.length → CommitOk n g x.term x.log (rf.tallyAt x i).commit := by
    intro i
    induction i with
    | zero => intro _; exact hc
    | succ i ih =>
      intro hi
      unfold rf.tallyAt
      split
      · split
        · rename_i h
          simp only [Bool.and_eq_true, beq_iff_eq] at h
          obtain ⟨h1, h2⟩ := h
          rw [termAt_tm (by omega) hi] at h1
          refine .inr ⟨x.term, i + 1, Nat.le_refl _, ⟨⟨by omega, by rw [hL]; exact hi, by rw [hL]; exact h1⟩, maj_mono (maj_of hm h7 h2) fun j hj hd => ?_⟩, Nat.le_refl _, by rw [hL]; exact Ag.refl _ hi⟩
          simp only [decide_eq_true_eq] at hd ⊢
          exact Nat.le_trans hd (hmat j hj)
        · exact ih (by omega)
      · exact hc
  exact key _ (Nat.le_refl _)
theorem slice_drop (a : Log) (p k : Nat) (hp : p ≤ a.length) : Slice a p ((a.drop p).take k) := by
  refine ⟨by rw [List.length_take, List.length_drop]; omega, fun j hj => ?_⟩
  rw [List.length_take, List.length_drop] at hj
  rw [List.getElem?_take, if_pos (by omega), List.getElem?_drop]
/-- a leader's message -/
theorem putMsg_ok {i j : Nat} {x : rf.Node} (hi : i < n) (hj : j < n) (hid : x.id = (i : Int)) (hst : s i = stOf x) (hl : g.lead x.term = some i) (hL : g.L x.term = x.log) (hc : CommitOk n g x.term x.log x.commit) {y : rf.Node} (hy1 : y.id = x.id) (hy2 : y.term = x.term) : MsgOk n s g (rf.stamp y (rf.putMsg x j)) := by
  have ht : (s i).t = x.term := by rw [hst]; rfl
  have hn : rf.nextOf x j - 1 ≤ x.log.length := by unfold rf.nextOf; omega
  refine ⟨⟨i, j, by show y.id = _; rw [hy1]; exact hid, rfl, hi, hj, by show y.term ≤ _; rw [hy2, ht]; exact Nat.le_refl _⟩, fun f _ hk => ?_, fun f d _ _ hk => ?_, fun f hf _ => ?_, fun f _ hk => ?_⟩
  · exact absurd (show (3 : Int) = 1 from hk) (by decide)
  · exact absurd (show (3 : Int) = 2 from hk) (by decide)
  · have hfi : f = i := by
      have h1 : y.id = (f : Int) := hf
      rw [hy1, hid] at h1
      omega
    subst hfi
    show g.lead y.term = some f ∧ Slice (g.L y.term) (rf.nextOf x j - 1) ((x.log.drop (rf.nextOf x j - 1)).take 20) ∧ (rl.termAt x.log (rf.nextOf x j - 1)).1 = (rl.termAt (g.L y.term) (rf.nextOf x j - 1)).1 ∧ CommitOk n g y.term (g.L y.term) (min x.commit _)
    rw [hy2, hL]
    exact ⟨hl, slice_drop _ _ _ hn, rfl, hc.less (Nat.min_le_left _ _)⟩
  · exact absurd (show (3 : Int) = 4 from hk) (by decide)
theorem puts_ok {i : Nat} {x : rf.Node} (hi : i < n) (h7 : n ≤ 7) (hid : x.id = (i : Int)) (hm : x.many = (n : Int)) (hst : s i = stOf x) (hl : g.lead x.term = some i) (hL : g.L x.term = x.log) (hc : CommitOk n g x.term x.log x.commit) : ∀ m ∈ rf.puts x, MsgOk n s g m := by
  intro m hmm
  unfold rf.puts at hmm
  obtain ⟨j, hj, rfl⟩ := List.mem_map.1 hmm
  unfold rf.others at hj
  rw [size_eq hm h7] at hj
  exact putMsg_ok hi (List.mem_range.1 (List.mem_filter.1 hj).1) hid hst hl hL hc rfl rfl
/-- an entry more of a leader -/
theorem goes_add (C : Core n s g) {i : Nat} (hi : i < n) (h7 : n ≤ 7) {x : rf.Node} (text : List UInt8) (hid : x.id = (i : Int)) (hm : x.many = (n : Int)) (hst : s i = stOf x) (hrole : x.role = 2) (hv : x.vote = (i : Int))
    (hL : (g.lead x.term = none ∧ g.cand x.term i = x.log ∧ maj n (fun j => decide (g.gr x.term j = some i))) ∨ (g.lead x.term = some i ∧ g.L x.term = x.log)) (hmat : ∀ j, j < n → x.mat.getD j 0 ≤ g.ack x.term j) (h7v : x.votes.length = 7) (h7m : x.mat.length = 7) (hc : CommitOk n g x.term x.log x.commit) :
    ∃ g', Goes n s g i (rf.add x text).1 (rf.add x text).2 g' := by
  have e1 : (s i).t = x.term := by rw [hst]; rfl
  have e2 : (s i).v = x.vote := by rw [hst]; rfl
  have e3 : (s i).l = x.log := by rw [hst]; rfl
  have tu := turn_more C hi text (by rw [e1, e3]; exact hL)
  rw [e1, e2, e3] at tu
  obtain ⟨l', hl'⟩ : ∃ l', x.log ++ [(x.term, text)] = l' := ⟨_, rfl⟩
  rw [hl'] at tu
  have hlen : l'.length = x.log.length + 1 := by rw [← hl']; simp
  obtain ⟨y, hy⟩ : ∃ y, rf.grown x text = y := ⟨_, rfl⟩
  have y1 : y.id = (i : Int) := by rw [← hy]; exact hid
  have y2 : y.many = (n : Int) := by rw [← hy]; exact hm
  have y3 : y.term = x.term := by rw [← hy]; rfl
  have y4 : y.log = l' := by rw [← hy, ← hl']; rfl
  have y5 : y.commit = x.commit := by rw [← hy]; rfl
  have y6 : y.vote = x.vote := by rw [← hy]; rfl
  have y7 : y.mat = x.mat.set i (x.log.length + 1) := by rw [← hy]; show x.mat.set x.id.toNat _ = _; rw [hid]; rfl
  have y8 : y.role = 2 := by rw [← hy]; exact hrole
  have es : stOf (rf.tally y) = ⟨x.term, x.vote, l'⟩ := by rw [tally_with]; show (⟨y.term, y.vote, y.log⟩ : St) = _; rw [y3, y6, y4]
  have g1 : (more g i x.term l').L x.term = l' := upd_same _ _ _
  have g2 : (more g i x.term l').lead x.term = some i := upd_same _ _ _
  have g3 : (more g i x.term l').ack x.term i = l'.length := upd2_same _ _ _ _
  have g4 : ∀ t j, t ≠ x.term ∨ j ≠ i → (more g i x.term l').ack t j = g.ack t j := fun t j h => upd2_other _ _ h
  have hmat2 : ∀ j, j < n → y.mat.getD j 0 ≤ (more g i x.term l').ack x.term j := by
    intro j hj
    rw [y7, List.getD_eq_getElem?_getD, List.getElem?_set]
    by_cases hij : i = j
    · subst hij
      rw [if_pos rfl, if_pos (by omega), g3]
      show x.log.length + 1 ≤ _
      omega
    · rw [if_neg hij, ← List.getD_eq_getElem?_getD, g4 _ _ (.inr (fun e => hij e.symm))]
      exact hmat j hj
  have hcom0 : CommitOk n (more g i x.term l') x.term l' x.commit := hc.later tu.le (Nat.le_refl _) (by rw [← hl']; exact (ag_append _ _).le hc.len)
  have hcom : CommitOk n (more g i x.term l') x.term l' (rf.tally y).commit := by
    have h := tally_com (n := n) (g := more g i x.term l') (x := y) y2 h7 (by rw [y3, y4, y5]; exact hcom0) (by rw [y3, y4]; exact g1) (by rw [y3]; exact hmat2)
    rw [y3, y4] at h
    exact h
  have t1 : (rf.tally y).id = (i : Int) := by rw [tally_with]; exact y1
  have t2 : (rf.tally y).many = (n : Int) := by rw [tally_with]; exact y2
  have t3 : (rf.tally y).term = x.term := by rw [tally_with]; exact y3
  have t4 : (rf.tally y).log = l' := by rw [tally_with]; exact y4
  have t5 : (rf.tally y).mat = y.mat := by rw [tally_with]
  have t6 : (rf.tally y).vote = x.vote := by rw [tally_with]; exact y6
  have t7 : (rf.tally y).role = 2 := by rw [tally_with]; exact y8
  have hadd : rf.add x text = (rf.tally y, rf.puts (rf.tally y)) := by unfold rf.add; rw [hy]
  rw [hadd]
  refine ⟨more g i x.term l', ?_, ?_, ?_, ?_, fun t j hj hl => ?_, fun t j hj hl => ?_⟩
  · rw [es]; exact tu.core C
  · rw [es]; exact tu.le
  · refine ⟨t1, t2, by rw [upd_same], fun h => ?_, fun _ => ?_, by rw [t3, t4]; exact hcom, ?_⟩
    · rw [t7] at h; exact absurd h (by decide)
    · rw [t3, t4, t6, t5]
      exact ⟨g2, g1, hv, hmat2⟩
    · rw [t5, y7, tally_with]
      exact ⟨by show y.votes.length = 7; rw [← hy]; exact h7v, by rw [List.length_set]; exact h7m⟩
  · exact puts_ok hi h7 t1 t2 (by rw [upd_same]) (by rw [t3]; exact g2) (by rw [t3, t4]; exact g1) (by rw [t3, t4]; exact hcom)
  · show upd g.L x.term l' t = g.L t
    refine upd_other _ _ fun ht => ?_
    subst ht
    rcases hL with ⟨h1, _⟩ | ⟨h1, _⟩ <;> rw [h1] at hl
    · cases hl
    · injection hl with hl; exact hj hl.symm
  · have hl2 : upd g.lead x.term (some i) t = some j := hl
    by_cases ht : t = x.term
    · subst ht
      rw [upd_same] at hl2
      injection hl2 with hl2
      exact absurd hl2.symm hj
    · rwa [upd_other _ _ ht] at hl2
/-- a vote is asked for -/
theorem goes_ask (C : Core n s g) {i : Nat} (hi : i < n) {x : rf.Node} (hu : UpOk n s g i x) {m : rf.Msg} (hm : MsgOk n s g m) (hk : m.kind = 1) (hne : m.frm ≠ x.id) : ∃ g', Goes n s g i (rf.ask x m).1 (rf.ask x m).2 g' := by
  obtain ⟨f, d, f1, _, fn, _, ft⟩ := hm.dom
  have e1 : (s i).t = x.term := by rw [hu.st]; rfl
  have e2 : (s i).v = x.vote := by rw [hu.st]; rfl
  have e3 : (s i).l = x.log := by rw [hu.st]; rfl
  have rep : ∀ (b : Bool) (s1 : Nat → St) (g1 : Gh) (y : rf.Node), y.id = x.id → y.term = x.term → (x.term ≤ (s1 i).t) → (b = true → g1.gr x.term i = some f) → MsgOk n s1 g1 (rf.stamp y { rf.msg0 with kind := 2, dst := m.frm, ok := b }) := by
    intro b s1 g1 y hy1 hy2 ht hb
    refine ⟨⟨i, f, by show y.id = _; rw [hy1]; exact hu.id, f1, hi, fn, by show y.term ≤ _; rw [hy2]; exact ht⟩, fun _ _ hk => ?_, fun a c ha hc _ ho => ?_, fun _ _ hk => ?_, fun _ _ hk => ?_⟩
    · exact absurd (show (2 : Int) = 1 from hk) (by decide)
    · have ha2 : y.id = (a : Int) := ha
      have hc2 : m.frm = (c : Int) := hc
      rw [hy1, hu.id] at ha2
      obtain rfl : a = i := by omega
      obtain rfl : c = f := by omega
      show g1.gr y.term a = some c
      rw [hy2]
      exact hb ho
    · exact absurd (show (2 : Int) = 3 from hk) (by decide)
    · exact absurd (show (2 : Int) = 4 from hk) (by decide)
  unfold rf.ask
  by_cases hok : rf.askOk x m = true
  · rw [if_pos hok]
    unfold rf.askOk at hok
    simp only [Bool.and_eq_true, Bool.or_eq_true, decide_eq_true_eq] at hok
    obtain ⟨⟨ht, hv⟩, hn⟩ := hok
    obtain ⟨q1, q2, q3⟩ := hm.k1 f f1 hk
    rw [ht] at q1 q2 q3 ft
    rw [q1, q2] at hn
    have tu := turn_grant C hi fn (by rw [e1]; exact ft) (by rw [e2]; rw [f1] at hv; exact hv) (by rw [e1]; exact q3) (by rw [e1, e3]; exact hn)
    rw [e1, e3] at tu
    have es : stOf { x with vote := m.frm, idle := 0 } = ⟨x.term, (f : Int), x.log⟩ := by show (⟨x.term, m.frm, x.log⟩ : St) = _; rw [f1]
    have hr0 : x.role ≠ 1 ∧ x.role ≠ 2 := by
      constructor
      · intro hr
        have := (hu.r1 hr).2.2.1
        have := hu.id
        omega
      · intro hr
        have := (hu.r2 hr).2.2.1
        have := hu.id
        omega
    refine ⟨{ g with gr := upd2 g.gr x.term i (some f) }, by rw [es]; exact tu.core C, by rw [es]; exact tu.le, ?_, ?_, fun _ _ _ _ => rfl, fun _ _ _ h => h⟩
    · rw [es]
      exact ⟨hu.id, hu.many, by rw [upd_same, ← es], fun h => absurd h hr0.1, fun h => absurd h hr0.2, hu.com.later tu.le (Nat.le_refl _) (Ag.refl _ hu.com.len), hu.len⟩
    · intro b hb
      rw [List.mem_singleton.1 hb, es]
      exact rep true _ _ x rfl rfl (by rw [upd_same]; exact Nat.le_refl _) (fun _ => upd2_same _ _ _ _)
  · rw [if_neg hok]
    exact ⟨g, Goes.stay C hu fun b hb => by
      rw [List.mem_singleton.1 hb]
      exact rep false s g x rfl rfl (by rw [e1]; exact Nat.le_refl _) (fun h => by cases h)⟩
/-- it leads -/
theorem goes_lead (C : Core n s g) {i : Nat} (hi : i < n) (h7 : n ≤ 7) {x : rf.Node} (hid : x.id = (i : Int)) (hm : x.many = (n : Int)) (hst : s i = stOf x) (hv : x.vote = (i : Int)) (hl : g.lead x.term ≠ some i) (hc : g.cand x.term i = x.log) (hmaj : maj n fun j => decide (g.gr x.term j = some i))
    (h7v : x.votes.length = 7) (hcom : CommitOk n g x.term x.log x.commit) : ∃ g', Goes n s g i (rf.lead x).1 (rf.lead x).2 g' := by
  have hnone : g.lead x.term = none := by
    cases e : g.lead x.term with
    | none => rfl
    | some b =>
      exfalso
      obtain ⟨_, _, h3⟩ := C.ldd e
      obtain ⟨j, _, j1, j2⟩ := maj_meet h3 hmaj
      simp only [decide_eq_true_eq] at j1 j2
      rw [j1] at j2
      injection j2 with j2
      rw [e, j2] at hl
      exact hl rfl
  exact goes_add C hi h7 (x := rf.led x) [] hid hm hst rfl hv (.inl ⟨hnone, hc, hmaj⟩) (fun j _ => by
    have e : (rf.led x).mat = List.replicate 7 0 := rfl
    rw [e, List.getD_eq_getElem?_getD, List.getElem?_replicate]
    split <;> exact Nat.zero_le _) h7v (by show (List.replicate 7 0).length = 7; rfl) hcom
/-- a vote is counted -/
theorem goes_voted (C : Core n s g) {i k : Nat} (hi : i < n) (h7 : n ≤ 7) {x : rf.Node} (hu : UpOk n s g i x) (hr : x.role = 1) (hk : k < n) (hg : g.gr x.term k = some i) : ∃ g', Goes n s g i (rf.voted x (k : Int)).1 (rf.voted x (k : Int)).2 g' := by
  obtain ⟨r1, r2, r3, r4⟩ := hu.r1 hr
  have hv : ∀ j, j < n → (x.votes.set k true).getD j false = true → g.gr x.term j = some i := by
    intro j hj h
    by_cases hjk : j = k
    · subst hjk; exact hg
    · rw [List.getD_eq_getElem?_getD, List.getElem?_set, if_neg (fun e => hjk e.symm), ← List.getD_eq_getElem?_getD] at h
      exact r4 j hj h
  have hu2 : UpOk n s g i { x with votes := x.votes.set k true } := ⟨hu.id, hu.many, hu.st, fun _ => ⟨r1, r2, r3, hv⟩, fun h => by
    have h1 : x.role = 2 := h
    omega, hu.com, by show (x.votes.set k true).length = 7 ∧ _; rw [List.length_set]; exact hu.len⟩
  unfold rf.voted
  rw [if_pos (by omega), Int.toNat_natCast]
  by_cases he : rf.elected { x with votes := x.votes.set k true } = true
  · rw [if_pos he]
    exact goes_lead C hi h7 hu2.id hu2.many hu2.st r3 r2 r1 (maj_mono (maj_of hu2.many h7 he) fun j hj h => decide_eq_true (hv j hj h)) hu2.len.1 hu2.com
  · rw [if_neg he]
    exact ⟨g, Goes.stay C hu2 (fun _ h => by cases h)⟩
theorem goes_vote (C : Core n s g) {i : Nat} (hi : i < n) (h7 : n ≤ 7) {x : rf.Node} (hu : UpOk n s g i x) {m : rf.Msg} (hm : MsgOk n s g m) (hk : m.kind = 2) (hd : m.dst = x.id) : ∃ g', Goes n s g i (rf.vote x m).1 (rf.vote x m).2 g' := by
  obtain ⟨f, d, f1, d1, fn, _, _⟩ := hm.dom
  unfold rf.vote
  split
  · rename_i h
    obtain ⟨h1, h2, h3⟩ := h
    have hdi : d = i := by have := hu.id; omega
    subst hdi
    rw [f1]
    exact goes_voted C hi h7 hu h1 fn (by rw [← h2]; exact hm.k2 f d f1 d1 hk h3)
  · exact ⟨g, Goes.stay C hu (fun _ h => by cases h)⟩
/-- what is answered to a leader -/
theorem reply_ok {i f : Nat} {y : rf.Node} {ix : Nat} {b : Bool} {d : Int} (hi : i < n) (fn : f < n) (hid : y.id = (i : Int)) (hd : d = (f : Int)) (ht : y.term ≤ (s i).t) (ha : b = true → ix ≤ g.ack y.term i) : MsgOk n s g (rf.stamp y { rf.msg0 with kind := 4, dst := d, ok := b, index := ix }) := by
  refine ⟨⟨i, f, hid, hd, hi, fn, ht⟩, fun _ _ hk => ?_, fun _ _ _ _ hk => ?_, fun _ _ hk => ?_, fun a h1 _ ho => ?_⟩
  · exact absurd (show (4 : Int) = 1 from hk) (by decide)
  · exact absurd (show (4 : Int) = 2 from hk) (by decide)
  · exact absurd (show (4 : Int) = 3 from hk) (by decide)
  · have h2 : y.id = (a : Int) := h1
    obtain rfl : a = i := by omega
    exact ha ho
theorem goes_put (C : Core n s g) {i : Nat} (hi : i < n) {x : rf.Node} (hu : UpOk n s g i x) {m : rf.Msg} (hm : MsgOk n s g m) (hk : m.kind = 3) (hle : m.term ≤ x.term) : ∃ g', Goes n s g i (rf.put x m).1 (rf.put x m).2 g' := by
  obtain ⟨f, d, f1, _, fn, _, _⟩ := hm.dom
  have e1 : (s i).t = x.term := by rw [hu.st]; rfl
  have e2 : (s i).v = x.vote := by rw [hu.st]; rfl
  have e3 : (s i).l = x.log := by rw [hu.st]; rfl
  unfold rf.put
  by_cases hlt : m.term < x.term
  · rw [if_pos hlt]
    refine ⟨g, Goes.stay C hu fun b hb => ?_⟩
    rw [List.mem_singleton.1 hb]
    exact reply_ok (y := x) (ix := 0) (b := false) hi fn hu.id f1 (by rw [e1]; exact Nat.le_refl _) (fun h => by cases h)
  · rw [if_neg hlt]
    have hT : m.term = x.term := by omega
    obtain ⟨q1, q2, q3, q4⟩ := hm.k3 f f1 hk
    rw [hT] at q1 q2 q3 q4
    obtain ⟨z, hz⟩ : ∃ z, rf.taken x m = z := ⟨_, rfl⟩
    have hzt : z = { x with role := 0, lead := m.frm, idle := 0 } := by
      rw [← hz]
      unfold rf.taken rf.back
      rw [if_neg (by omega)]
    have zu : UpOk n s g i z := by
      rw [hzt]
      exact hu.with rfl rfl rfl (.inr rfl) rfl rfl rfl
    have zlog : z.log = x.log := by rw [hzt]
    have zterm : z.term = x.term := by rw [hzt]
    have zrole : z.role = 0 := by rw [hzt]
    rw [hz]
    by_cases hta : rl.termAt x.log m.index = (m.at_, true)
    · have hfx : Fits g x.log := by rw [← e3]; exact C.fitS hi
      obtain ⟨tk, hsnd⟩ := match_took hfx (C.fitL x.term) q2 hta q3
      obtain ⟨l', hl'⟩ : ∃ l', (rl.match_ x.log m.index m.at_ m.ents).1 = l' := ⟨_, rfl⟩
      have hmatch : rl.match_ z.log m.index m.at_ m.ents = (l', m.index + m.ents.length, 0) := by
        rw [zlog, ← hl', ← hsnd]
      rw [hmatch]
      show ∃ g', Goes n s g i { z with log := l', commit := max x.commit (min m.commit (m.index + m.ents.length)) } [rf.stamp z { rf.msg0 with kind := 4, dst := m.frm, ok := true, index := m.index + m.ents.length }] g'
      rw [hl'] at tk
      have tu := turn_put C (l' := l') hi (by rw [e1]; exact q1) (by rw [e1]; exact q2) (by rw [e1, e3]; exact tk)
      rw [e1, e2] at tu
      have es : ∀ c, stOf { z with log := l', commit := c } = ⟨x.term, x.vote, l'⟩ := fun c => by rw [hzt]; rfl
      have ga : m.index + m.ents.length ≤ (took g i x.term (m.index + m.ents.length)).ack x.term i := by
        have : (took g i x.term (m.index + m.ents.length)).ack x.term i = _ := upd2_same _ _ _ _
        rw [this]; omega
      have hcom : CommitOk n (took g i x.term (m.index + m.ents.length)) x.term l' (max x.commit (min m.commit (m.index + m.ents.length))) := by
        have hold : CommitOk n (took g i x.term (m.index + m.ents.length)) x.term l' x.commit := by
          rcases hu.com with h | ⟨t, k, h1, h2, h3, h4⟩
          · exact .inl h
          · refine .inr ⟨t, k, h1, h2.later tu.le, h3, ?_⟩
            by_cases htT : t = x.term
            · subst htT
              exact tk.keep _ _ h4 (Ag.refl _ h4.1)
            · rcases C.safe (t := t) (t' := x.term) (by omega) (by rw [q1]; simp) h2.1 with h5 | h5
              · exact tk.keep _ _ h4 (h5.le h3)
              · exact (not_both h2 h5).elim
        have hnew : CommitOk n (took g i x.term (m.index + m.ents.length)) x.term l' (min m.commit (m.index + m.ents.length)) :=
          q4.later tu.le (Nat.le_refl _) (tk.ag.symm.le (Nat.min_le_right _ _))
        rcases Nat.le_total x.commit (min m.commit (m.index + m.ents.length)) with h | h
        · rw [Nat.max_eq_right h]; exact hnew
        · rw [Nat.max_eq_left h]; exact hold
      refine ⟨took g i x.term (m.index + m.ents.length), by rw [es]; exact tu.core C, by rw [es]; exact tu.le, ?_, ?_, fun _ _ _ _ => rfl, fun _ _ _ h => h⟩
      · rw [es]
        refine ⟨zu.id, zu.many, by rw [upd_same, es], fun h => ?_, fun h => ?_, ?_, zu.len⟩
        · have h1 : z.role = 1 := h
          omega
        · have h1 : z.role = 2 := h
          omega
        · show CommitOk n _ z.term l' _
          rw [zterm]
          exact hcom
      · intro b hb
        rw [List.mem_singleton.1 hb, es]
        exact reply_ok hi fn zu.id f1 (by rw [upd_same, zterm]; exact Nat.le_refl _) (fun _ => by rw [zterm]; exact ga)
    · have hmatch : rl.match_ z.log m.index m.at_ m.ents = (z.log, 0, 3) := by
        unfold rl.match_
        rw [zlog, if_neg hta]
      rw [hmatch]
      show ∃ g', Goes n s g i z [rf.stamp z { rf.msg0 with kind := 4, dst := m.frm, index := z.log.length }] g'
      refine ⟨g, Goes.stay C zu fun b hb => ?_⟩
      rw [List.mem_singleton.1 hb]
      exact reply_ok (y := z) (b := false) hi fn zu.id f1 (by rw [e1, zterm]; exact Nat.le_refl _) (fun h => by cases h)
theorem goes_heard (C : Core n s g) {i : Nat} (hi : i < n) (h7 : n ≤ 7) {x : rf.Node} (hu : UpOk n s g i x) {m : rf.Msg} (hm : MsgOk n s g m) (hk : m.kind = 4) : ∃ g', Goes n s g i (rf.heard x m).1 (rf.heard x m).2 g' := by
  obtain ⟨f, d, f1, _, fn, _, _⟩ := hm.dom
  unfold rf.heard
  split
  · rename_i h
    obtain ⟨h1, h2⟩ := h
    obtain ⟨r1, r2, r3, r4⟩ := hu.r2 h1
    have hf : m.frm.toNat = f := by rw [f1]; rfl
    rw [hf]
    split
    · rename_i hok
      have ha := hm.k4 f f1 hk hok
      rw [h2] at ha
      obtain ⟨y, hy⟩ : ∃ y, rf.heardYes x f m.index = y := ⟨_, rfl⟩
      rw [hy]
      have y7 : y.mat = x.mat.set f (max (x.mat.getD f 0) (min m.index x.log.length)) := by rw [← hy]; rfl
      have hmat : ∀ j, j < n → y.mat.getD j 0 ≤ g.ack x.term j := by
        intro j hj
        rw [y7, List.getD_eq_getElem?_getD, List.getElem?_set]
        by_cases hfj : f = j
        · subst hfj
          rw [if_pos rfl]
          have := r4 f fn
          split
          · show max _ _ ≤ _
            omega
          · exact Nat.zero_le _
        · rw [if_neg hfj, ← List.getD_eq_getElem?_getD]
          exact r4 j hj
      have y1 : y.id = x.id := by rw [← hy]; rfl
      have y2 : y.many = x.many := by rw [← hy]; rfl
      have y3 : y.term = x.term := by rw [← hy]; rfl
      have y4 : y.log = x.log := by rw [← hy]; rfl
      have y5 : y.commit = x.commit := by rw [← hy]; rfl
      have y6 : y.vote = x.vote := by rw [← hy]; rfl
      have y8 : y.role = x.role := by rw [← hy]; rfl
      have y9 : y.votes = x.votes := by rw [← hy]; rfl
      have hcom : CommitOk n g x.term x.log (rf.tally y).commit := by
        have h := tally_com (n := n) (g := g) (x := y) (by rw [y2]; exact hu.many) h7 (by rw [y3, y4, y5]; exact hu.com) (by rw [y3, y4]; exact r2) (by rw [y3]; exact hmat)
        rw [y3, y4] at h
        exact h
      have t1 : (rf.tally y).id = x.id := by rw [tally_with]; exact y1
      have t2 : (rf.tally y).many = x.many := by rw [tally_with]; exact y2
      have t3 : (rf.tally y).term = x.term := by rw [tally_with]; exact y3
      have t4 : (rf.tally y).log = x.log := by rw [tally_with]; exact y4
      have t5 : (rf.tally y).mat = y.mat := by rw [tally_with]
      have t6 : (rf.tally y).vote = x.vote := by rw [tally_with]; exact y6
      have t7 : (rf.tally y).role = x.role := by rw [tally_with]; exact y8
      have t8 : (rf.tally y).votes = x.votes := by rw [tally_with]; exact y9
      have es : stOf (rf.tally y) = stOf x := by unfold stOf; rw [t3, t6, t4]
      have hu2 : UpOk n s g i (rf.tally y) := by
        refine ⟨by rw [t1]; exact hu.id, by rw [t2]; exact hu.many, by rw [es]; exact hu.st, fun hr => ?_, fun _ => ?_, by rw [t3, t4]; exact hcom, ?_⟩
        · rw [t7, h1] at hr; exact absurd hr (by decide)
        · rw [t3, t4, t5, t6]
          exact ⟨r1, r2, r3, hmat⟩
        · rw [t8, t5, y7, List.length_set]
          exact hu.len
      split
      · refine ⟨g, Goes.stay C hu2 fun b hb => ?_⟩
        rw [List.mem_singleton.1 hb]
        exact putMsg_ok hi fn (by rw [t1]; exact hu.id) (by rw [es]; exact hu.st) (by rw [t3]; exact r1) (by rw [t3, t4]; exact r2) (by rw [t3, t4]; exact hcom) t1.symm t3.symm
      · exact ⟨g, Goes.stay C hu2 (fun _ h => by cases h)⟩
    · have hu2 : UpOk n s g i (rf.heardNo x f m.index) := hu.with rfl rfl rfl (.inl rfl) rfl rfl rfl
      refine ⟨g, Goes.stay C hu2 fun b hb => ?_⟩
      rw [List.mem_singleton.1 hb]
      exact putMsg_ok (x := rf.heardNo x f m.index) hi fn hu.id hu.st r1 r2 hu.com rfl rfl
  · exact ⟨g, Goes.stay C hu (fun _ h => by cases h)⟩
end
end cl
end Go.Proofs.YtmcibggjolckoaaGreatDoor
namespace Go.Proofs.YtmcibggjolckoaaGreatDoor
namespace cl
open rl (Ent e0)
section
variable {n : Nat} {s s' : Nat → St} {g g' : Gh}
theorem asks_ok (C : Core n s g) {i : Nat} (hi : i < n) (h7 : n ≤ 7) {y : rf.Node} (hu : UpOk n s g i y) (hr : y.role = 1) : ∀ m ∈ rf.asks y, MsgOk n s g m := by
  intro m hm
  unfold rf.asks at hm
  obtain ⟨j, hj, rfl⟩ := List.mem_map.1 hm
  unfold rf.others at hj
  rw [size_eq hu.many h7] at hj
  have hj2 := List.mem_range.1 (List.mem_filter.1 hj).1
  obtain ⟨r1, _, _, _⟩ := hu.r1 hr
  have e1 : (s i).t = y.term := by rw [hu.st]; rfl
  have e3 : (s i).l = y.log := by rw [hu.st]; rfl
  refine ⟨⟨i, j, hu.id, rfl, hi, hj2, by show y.term ≤ _; rw [e1]; exact Nat.le_refl _⟩, fun f hf _ => ?_, fun _ _ _ _ hk => ?_, fun _ _ hk => ?_, fun _ _ hk => ?_⟩
  · have hfi : f = i := by
      have h1 : y.id = (f : Int) := hf
      have := hu.id
      omega
    subst hfi
    show y.log.length = (g.cand y.term f).length ∧ rl.lastTerm y.log = rl.lastTerm (g.cand y.term f) ∧ Fits g (g.cand y.term f)
    rw [r1]
    exact ⟨rfl, rfl, by rw [← e3]; exact C.fitS hi⟩
  · exact absurd (show (1 : Int) = 2 from hk) (by decide)
  · exact absurd (show (1 : Int) = 3 from hk) (by decide)
  · exact absurd (show (1 : Int) = 4 from hk) (by decide)
theorem goes_stand (C : Core n s g) {i : Nat} (hi : i < n) (h7 : n ≤ 7) {x : rf.Node} (hu : UpOk n s g i x) (ht : x.term + 1 < 18446744073709551616) : ∃ g', Goes n s g i (rf.stand x).1 (rf.stand x).2 g' := by
  have e1 : (s i).t = x.term := by rw [hu.st]; rfl
  have e3 : (s i).l = x.log := by rw [hu.st]; rfl
  have tu := turn_stand C hi
  rw [e1, e3] at tu
  have es : stOf (rf.stood x) = ⟨x.term + 1, (i : Int), x.log⟩ := by
    unfold rf.stood stOf
    dsimp only
    rw [Nat.mod_eq_of_lt ht, hu.id]
  have et : (rf.stood x).term = x.term + 1 := congrArg St.t es
  have ev : (rf.stood x).vote = (i : Int) := congrArg St.v es
  have h1 : Goes n s g i (rf.stood x) [] { g with gr := upd2 g.gr (x.term + 1) i (some i), cand := upd2 g.cand (x.term + 1) i x.log } := by
    refine ⟨by rw [es]; exact tu.core C, by rw [es]; exact tu.le, ?_, fun m hm => (by cases hm), fun _ _ _ _ => rfl, fun _ _ _ h => h⟩
    rw [es]
    refine ⟨hu.id, hu.many, by rw [upd_same, es], fun _ => ?_, fun h => absurd (show (1 : Int) = 2 from h) (by decide), ?_, by show (List.replicate 7 false).length = 7 ∧ _; exact ⟨rfl, hu.len.2⟩⟩
    · rw [et]
      refine ⟨upd2_same _ _ _ _, fun hl => ?_, ev, fun j hj hv => ?_⟩
      · have := (C.ldd hl).2.1
        omega
      · have e : (rf.stood x).votes = List.replicate 7 false := rfl
        rw [e, List.getD_eq_getElem?_getD, List.getElem?_replicate] at hv
        split at hv <;> cases hv
    · rw [et]
      exact hu.com.later tu.le (Nat.le_succ _) (Ag.refl _ hu.com.len)
  obtain ⟨g2, h2⟩ := goes_voted h1.core hi h7 h1.up rfl hi (by rw [et]; exact upd2_same _ _ _ _)
  have h3 := h1.trans h2
  rw [List.nil_append] at h3
  have hid : x.id = (i : Int) := hu.id
  unfold rf.stand
  rw [hid]
  by_cases hr : (rf.voted (rf.stood x) (i : Int)).1.role = 2
  · rw [if_pos hr]
    exact ⟨g2, h3⟩
  · rw [if_neg hr]
    have hr1 : (rf.voted (rf.stood x) (i : Int)).1.role = 1 := by
      rcases voted_cases (rf.stood x) i (by omega) with e | e
      · rw [e]; rfl
      · exfalso
        apply hr
        rw [e]
        exact (add_node _ _).2.2.1
    refine ⟨g2, h3.core, h3.le, h3.up, fun m hm => ?_, h3.L, h3.lead⟩
    rcases List.mem_append.1 hm with hm | hm
    · exact h3.out m hm
    · exact asks_ok h3.core hi h7 h3.up hr1 m hm
theorem goes_tick (C : Core n s g) {i : Nat} (hi : i < n) (h7 : n ≤ 7) {x : rf.Node} (hu : UpOk n s g i x) (ht : x.term + 1 < 18446744073709551616) : ∃ g', Goes n s g i (rf.tick x).1 (rf.tick x).2 g' := by
  unfold rf.tick
  split
  · rename_i hr
    have hr2 := hu.r2 hr
    split
    · have hu2 : UpOk n s g i { x with idle := 0 } := hu.with rfl rfl rfl (.inl rfl) rfl rfl rfl
      exact ⟨g, Goes.stay C hu2 (puts_ok (x := { x with idle := 0 }) hi h7 hu.id hu.many hu.st hr2.1 hr2.2.1 hu.com)⟩
    · exact ⟨g, Goes.stay C (hu.with rfl rfl rfl (.inl rfl) rfl rfl rfl) (fun _ h => by cases h)⟩
  · split
    · exact goes_stand C hi h7 (x := { x with idle := x.idle + 1 }) (hu.with rfl rfl rfl (.inl rfl) rfl rfl rfl) ht
    · exact ⟨g, Goes.stay C (hu.with rfl rfl rfl (.inl rfl) rfl rfl rfl) (fun _ h => by cases h)⟩
theorem goes_propose (C : Core n s g) {i : Nat} (hi : i < n) (h7 : n ≤ 7) {x : rf.Node} (hu : UpOk n s g i x) (text : List UInt8) : ∃ g', Goes n s g i (rf.propose x text).1 (rf.propose x text).2.1 g' := by
  unfold rf.propose
  split
  · exact ⟨g, Goes.stay C hu (fun _ h => by cases h)⟩
  · rename_i hr
    split
    · exact ⟨g, Goes.stay C hu (fun _ h => by cases h)⟩
    · have hr2 : x.role = 2 := by omega
      obtain ⟨q1, q2, q3, q4⟩ := hu.r2 hr2
      exact goes_add C hi h7 text hu.id hu.many hu.st hr2 q3 (.inr ⟨q1, q2⟩) q4 hu.len.1 hu.len.2 hu.com
theorem goes_step (C : Core n s g) {i : Nat} (hi : i < n) (h7 : n ≤ 7) {x : rf.Node} (hu : UpOk n s g i x) {m : rf.Msg} (hm : MsgOk n s g m) : ∃ g', Goes n s g i (rf.step x m).1 (rf.step x m).2 g' := by
  unfold rf.step
  split
  · rename_i hmeant
    unfold rf.meant at hmeant
    simp only [Bool.and_eq_true, decide_eq_true_eq] at hmeant
    obtain ⟨⟨⟨⟨⟨m1, m2⟩, m3⟩, m4⟩, m5⟩, m6⟩ := hmeant
    have h1 := goes_fresh C hi hu m
    have hm2 := hm.later h1.le
    have hid : (rf.fresh x m).id = x.id := by rw [h1.up.id, hu.id]
    have hterm : m.term ≤ (rf.fresh x m).term := by
      unfold rf.fresh
      split
      · rename_i h
        unfold rf.back
        rw [if_pos h]
        exact Nat.le_refl _
      · omega
    split
    · rename_i hk
      obtain ⟨g2, h2⟩ := goes_ask h1.core hi h1.up hm2 hk (by rw [hid]; exact m4)
      exact ⟨g2, by have h := h1.trans h2; rwa [List.nil_append] at h⟩
    · split
      · rename_i hk
        obtain ⟨g2, h2⟩ := goes_vote h1.core hi h7 h1.up hm2 hk (by rw [hid]; exact m1)
        exact ⟨g2, by have h := h1.trans h2; rwa [List.nil_append] at h⟩
      · split
        · rename_i hk
          obtain ⟨g2, h2⟩ := goes_put h1.core hi h1.up hm2 hk hterm
          exact ⟨g2, by have h := h1.trans h2; rwa [List.nil_append] at h⟩
        · have hk4 : m.kind = 4 := by omega
          obtain ⟨g2, h2⟩ := goes_heard h1.core hi h7 h1.up hm2 hk4
          exact ⟨g2, by have h := h1.trans h2; rwa [List.nil_append] at h⟩
  · exact ⟨g, Goes.stay C hu (fun _ h => by cases h)⟩
end
end cl
end Go.Proofs.YtmcibggjolckoaaGreatDoor
