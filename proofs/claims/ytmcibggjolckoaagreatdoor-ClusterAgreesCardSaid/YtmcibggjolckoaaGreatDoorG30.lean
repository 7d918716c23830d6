/- ClLim, ClClu: one behind the other. -/
import Derived.Test.YtmcibggjolckoaaGreatDoorG29
namespace Go.Proofs.YtmcibggjolckoaaGreatDoor
namespace cl
open rl (Ent e0)
/-- texts are short, terms are numbers -/
def Short (l : Log) : Prop := ∀ e ∈ l, e.2.length ≤ 100 ∧ e.1 < 18446744073709551616
theorem Short.append {a b : Log} (h : Short a) (k : Short b) : Short (a ++ b) := fun e he => by
  rcases List.mem_append.1 he with h1 | h1
  · exact h e h1
  · exact k e h1
theorem Short.take {a : Log} (h : Short a) (k : Nat) : Short (a.take k) := fun e he => h e (List.mem_of_mem_take he)
theorem Short.drop {a : Log} (h : Short a) (k : Nat) : Short (a.drop k) := fun e he => h e (List.mem_of_mem_drop he)
structure NdLim (M K : Nat) (x : rf.Node) : Prop where
  len : x.log.length ≤ M
  cand : x.role = 1 → x.log.length + 1 ≤ M
  term : x.term ≤ K
  i0 : 0 ≤ x.idle
  i1 : x.idle ≤ 100
  text : Short x.log
  vote : -1 ≤ x.vote ∧ x.vote ≤ 6
structure MsgLim (M K : Nat) (m : rf.Msg) : Prop where
  ix : m.index ≤ M
  end_ : m.index + m.ents.length ≤ M
  term : m.term ≤ K
  text : Short m.ents
theorem NdLim.mono {M K M' K' : Nat} {x : rf.Node} (h : NdLim M K x) (hM : M ≤ M') (hK : K ≤ K') : NdLim M' K' x := ⟨Nat.le_trans h.len hM, fun hr => Nat.le_trans (h.cand hr) hM, Nat.le_trans h.term hK, h.i0, h.i1, h.text, h.vote⟩
theorem MsgLim.mono {M K M' K' : Nat} {m : rf.Msg} (h : MsgLim M K m) (hM : M ≤ M') (hK : K ≤ K') : MsgLim M' K' m := ⟨Nat.le_trans h.ix hM, Nat.le_trans h.end_ hM, Nat.le_trans h.term hK, h.text⟩
/-- both: the node, and all that it sends -/
def BothLim (M K : Nat) (r : rf.Node × List rf.Msg) : Prop := NdLim M K r.1 ∧ ∀ m ∈ r.2, MsgLim M K m
section
variable {M K : Nat}
theorem putMsg_lim {x y : rf.Node} (h1 : x.log.length ≤ M) (h2 : Short x.log) (ht : y.term ≤ K) (j : Nat) : MsgLim M K (rf.stamp y (rf.putMsg x j)) := by
  have hn : rf.nextOf x j - 1 ≤ x.log.length := by unfold rf.nextOf; omega
  refine ⟨Nat.le_trans hn h1, ?_, ht, (h2.drop _).take _⟩
  show rf.nextOf x j - 1 + ((x.log.drop (rf.nextOf x j - 1)).take 20).length ≤ M
  rw [List.length_take, List.length_drop]
  omega
theorem puts_lim {x : rf.Node} (h1 : x.log.length ≤ M) (h2 : Short x.log) (ht : x.term ≤ K) : ∀ m ∈ rf.puts x, MsgLim M K m := by
  intro m hm
  unfold rf.puts at hm
  obtain ⟨j, _, rfl⟩ := List.mem_map.1 hm
  exact putMsg_lim h1 h2 ht j
theorem add_lim {x : rf.Node} {text : List UInt8} (hK : K < 18446744073709551616) (hv : -1 ≤ x.vote ∧ x.vote ≤ 6) (h1 : x.log.length + 1 ≤ M) (h2 : Short x.log) (h3 : text.length ≤ 100) (ht : x.term ≤ K) (hr : x.role = 2) (i0 : 0 ≤ x.idle) (i1 : x.idle ≤ 100) : BothLim M K (rf.add x text) := by
  have hs : Short (x.log ++ [(x.term, text)]) := h2.append fun e he => by rw [List.mem_singleton.1 he]; exact ⟨h3, Nat.lt_of_le_of_lt ht hK⟩
  have e : rf.add x text = (rf.tally (rf.grown x text), rf.puts (rf.tally (rf.grown x text))) := rfl
  have t : rf.tally (rf.grown x text) = { rf.grown x text with commit := (rf.tally (rf.grown x text)).commit } := tally_with _
  rw [e]
  refine ⟨?_, ?_⟩
  · dsimp only
    rw [t]
    exact ⟨by show (x.log ++ [(x.term, text)]).length ≤ M; simp; exact h1, fun h => absurd (show x.role = 1 from h) (by omega), ht, i0, i1, hs, hv⟩
  · dsimp only
    rw [t]
    exact puts_lim (by show (x.log ++ [(x.term, text)]).length ≤ M; simp; exact h1) hs ht
theorem voted_lim {x : rf.Node} {k : Nat} (hK : K < 18446744073709551616) (h : NdLim M K x) (hr : x.role = 1) (hk : k < 7) : BothLim M K (rf.voted x (k : Int)) := by
  unfold rf.voted
  rw [if_pos (by omega)]
  split
  · unfold rf.lead
    exact add_lim (x := rf.led { x with votes := x.votes.set (k : Int).toNat true }) hK h.vote (h.cand hr) h.text (Nat.zero_le _) h.term rfl (Int.le_refl _) (show (0 : Int) ≤ 100 by decide)
  · exact ⟨⟨h.len, h.cand, h.term, h.i0, h.i1, h.text, h.vote⟩, fun _ hm => by cases hm⟩
theorem asks_lim {x : rf.Node} (h1 : x.log.length ≤ M) (ht : x.term ≤ K) : ∀ m ∈ rf.asks x, MsgLim M K m := by
  intro m hm
  unfold rf.asks at hm
  obtain ⟨j, _, rfl⟩ := List.mem_map.1 hm
  exact ⟨h1, h1, ht, fun _ he => by cases he⟩
theorem stand_lim {x : rf.Node} (hK : K + 1 < 18446744073709551616) (h : NdLim M K x) (h0 : 0 ≤ x.id) (h7 : x.id < 7) : BothLim (M + 1) (K + 1) (rf.stand x) := by
  obtain ⟨k, hk⟩ : ∃ k : Nat, x.id = (k : Int) := ⟨x.id.toNat, by omega⟩
  have hs : NdLim (M + 1) (K + 1) (rf.stood x) := ⟨Nat.le_succ_of_le h.len, fun _ => Nat.succ_le_succ h.len, by
    have e : (rf.stood x).term = (x.term + 1) % 18446744073709551616 := rfl
    have := Nat.mod_le (x.term + 1) 18446744073709551616
    have := h.term
    omega, Int.le_refl _, (by decide : (0 : Int) ≤ 100), h.text, by show -1 ≤ x.id ∧ x.id ≤ 6; omega⟩
  have hv := voted_lim hK hs rfl (k := k) (by omega)
  unfold rf.stand
  rw [hk]
  split
  · exact hv
  · refine ⟨hv.1, fun m hm => ?_⟩
    rcases List.mem_append.1 hm with h1 | h1
    · exact hv.2 m h1
    · exact asks_lim hv.1.len hv.1.term m h1
theorem tick_lim {x : rf.Node} (hK : K + 1 < 18446744073709551616) (h : NdLim M K x) (h0 : 0 ≤ x.id) (h7 : x.id < 7) : BothLim (M + 1) (K + 1) (rf.tick x) := by
  have hm := h.mono (Nat.le_succ M) (Nat.le_succ K)
  have a := h.i0
  have b := h.i1
  unfold rf.tick
  split
  · split
    · exact ⟨⟨hm.len, hm.cand, hm.term, Int.le_refl _, (by decide : (0 : Int) ≤ 100), hm.text, hm.vote⟩, puts_lim (x := { x with idle := 0 }) hm.len hm.text hm.term⟩
    · exact ⟨⟨hm.len, hm.cand, hm.term, by dsimp only; omega, by dsimp only; omega, hm.text, hm.vote⟩, fun _ hx => by cases hx⟩
  · split
    · have hg := stand_lim (x := { x with idle := 0 }) hK ⟨h.len, h.cand, h.term, Int.le_refl _, (by decide : (0 : Int) ≤ 100), h.text, h.vote⟩ h0 h7
      have e : rf.stand { x with idle := x.idle + 1 } = rf.stand { x with idle := 0 } := rfl
      rw [e]
      exact hg
    · rename_i hlt
      exact ⟨⟨hm.len, hm.cand, hm.term, by dsimp only; omega, by dsimp only; omega, hm.text, hm.vote⟩, fun _ hx => by cases hx⟩
theorem propose_lim {x : rf.Node} (hK : K < 18446744073709551616) (h : NdLim M K x) {text : List UInt8} (ht : text.length ≤ 100) : NdLim (M + 1) K (rf.propose x text).1 ∧ ∀ m ∈ (rf.propose x text).2.1, MsgLim (M + 1) K m := by
  have hm := h.mono (Nat.le_succ M) (Nat.le_refl K)
  unfold rf.propose
  split
  · exact ⟨hm, fun _ hx => by cases hx⟩
  · split
    · exact ⟨hm, fun _ hx => by cases hx⟩
    · exact add_lim hK h.vote (Nat.succ_le_succ h.len) h.text ht h.term (by omega) h.i0 h.i1
theorem back_lim {x : rf.Node} (h : NdLim M K x) {T : Nat} (hT : T ≤ K) : NdLim M K (rf.back x T) := by
  unfold rf.back
  split
  · exact ⟨h.len, fun h1 => absurd (show (0 : Int) = 1 from h1) (by decide), hT, h.i0, h.i1, h.text, (by decide : (-1 : Int) ≤ -1 ∧ (-1 : Int) ≤ 6)⟩
  · exact ⟨h.len, fun h1 => absurd (show (0 : Int) = 1 from h1) (by decide), h.term, h.i0, h.i1, h.text, h.vote⟩
theorem match_short {l e : Log} (h : Short l) (k : Short e) (p pt : Nat) : Short (rl.match_ l p pt e).1 := by
  unfold rl.match_
  split
  · dsimp only
    split
    · exact (h.take _).append (k.drop _)
    · exact h
  · exact h
theorem match_lim {l e : Log} {p pt : Nat} (h : l.length ≤ M) (k : p + e.length ≤ M) : (rl.match_ l p pt e).1.length ≤ M := by
  have c := rl.common_le2 (l.drop p) e
  unfold rl.match_
  split
  · dsimp only
    split
    · rw [List.length_append, List.length_take, List.length_drop]; omega
    · exact h
  · exact h
theorem reply_lim {y : rf.Node} {ix : Nat} {b : Bool} {d : Int} {k : Int} (h : ix ≤ M) (ht : y.term ≤ K) : MsgLim M K (rf.stamp y { rf.msg0 with kind := k, dst := d, ok := b, index := ix }) := ⟨h, h, ht, fun _ he => by cases he⟩
theorem put_lim {x : rf.Node} {m : rf.Msg} (h : NdLim M K x) (hm : MsgLim M K m) : BothLim M K (rf.put x m) := by
  unfold rf.put
  split
  · exact ⟨h, fun b hb => by rw [List.mem_singleton.1 hb]; exact reply_lim (Nat.zero_le _) h.term⟩
  · have hz : NdLim M K (rf.taken x m) := by
      have hb := back_lim h hm.term
      exact ⟨hb.len, hb.cand, hb.term, Int.le_refl _, (by decide : (0 : Int) ≤ 100), hb.text, hb.vote⟩
    have hr : (rf.taken x m).role = 0 := by
      unfold rf.taken rf.back
      split <;> rfl
    have hl := match_lim (l := (rf.taken x m).log) (pt := m.at_) hz.len hm.end_
    have hs := match_short hz.text hm.text m.index m.at_
    have ha : rl.match_ (rf.taken x m).log m.index m.at_ m.ents = rl.match_ (rf.taken x m).log m.index m.at_ m.ents := rfl
    split
    · rename_i l at_ e
      rw [e] at hl hs
      have hat : at_ ≤ M := by
        unfold rl.match_ at e
        split at e
        · injection e with _ e
          injection e with e _
          rw [← e]
          exact hm.end_
        · injection e with _ e
          injection e with _ e
          cases e
      exact ⟨⟨hl, fun h1 => absurd (show (rf.taken x m).role = 1 from h1) (by rw [hr]; decide), hz.term, hz.i0, hz.i1, hs, hz.vote⟩, fun b hb => by rw [List.mem_singleton.1 hb]; exact reply_lim hat hz.term⟩
    · exact ⟨hz, fun b hb => by rw [List.mem_singleton.1 hb]; exact reply_lim hz.len hz.term⟩
theorem heard_lim {x : rf.Node} {m : rf.Msg} (h : NdLim M K x) : BothLim M K (rf.heard x m) := by
  have ht : ∀ y : rf.Node, y.log = x.log → y.role = x.role → y.term = x.term → y.idle = x.idle → y.vote = x.vote → NdLim M K y := fun y a b c d ev => ⟨by rw [a]; exact h.len, fun hr => by rw [a]; exact h.cand (by rw [← b]; exact hr), by rw [c]; exact h.term, by rw [d]; exact h.i0, by rw [d]; exact h.i1, by rw [a]; exact h.text, by rw [ev]; exact h.vote⟩
  have e : ∀ k ix, (rf.tally (rf.heardYes x k ix)).log = x.log ∧ (rf.tally (rf.heardYes x k ix)).role = x.role ∧ (rf.tally (rf.heardYes x k ix)).term = x.term ∧ (rf.tally (rf.heardYes x k ix)).idle = x.idle ∧ (rf.tally (rf.heardYes x k ix)).vote = x.vote := fun k ix => by
    rw [tally_with]; exact ⟨rfl, rfl, rfl, rfl, rfl⟩
  unfold rf.heard
  split
  · split
    · obtain ⟨e1, e2, e3, e4, e5⟩ := e m.frm.toNat m.index
      split
      · exact ⟨ht _ e1 e2 e3 e4 e5, fun b hb => by rw [List.mem_singleton.1 hb]; exact putMsg_lim (by rw [e1]; exact h.len) (by rw [e1]; exact h.text) h.term _⟩
      · exact ⟨ht _ e1 e2 e3 e4 e5, fun _ hx => by cases hx⟩
    · exact ⟨ht _ rfl rfl rfl rfl rfl, fun b hb => by rw [List.mem_singleton.1 hb]; exact putMsg_lim (x := rf.heardNo x m.frm.toNat m.index) h.len h.text h.term _⟩
  · exact ⟨h, fun _ hx => by cases hx⟩
theorem step_lim {x : rf.Node} {m : rf.Msg} (hK : K < 18446744073709551616) (h : NdLim M K x) (hm : MsgLim M K m) : BothLim M K (rf.step x m) := by
  have hf : NdLim M K (rf.fresh x m) := by
    unfold rf.fresh
    split
    · exact back_lim h hm.term
    · exact h
  unfold rf.step
  split
  · rename_i hmeant
    obtain ⟨f0, f7⟩ := meant_frm hmeant
    split
    · unfold rf.ask
      split
      · exact ⟨⟨hf.len, hf.cand, hf.term, Int.le_refl _, (by decide : (0 : Int) ≤ 100), hf.text, by show -1 ≤ m.frm ∧ m.frm ≤ 6; omega⟩, fun b hb => by rw [List.mem_singleton.1 hb]; exact ⟨Nat.zero_le _, Nat.zero_le _, hf.term, fun _ he => by cases he⟩⟩
      · exact ⟨hf, fun b hb => by rw [List.mem_singleton.1 hb]; exact ⟨Nat.zero_le _, Nat.zero_le _, hf.term, fun _ he => by cases he⟩⟩
    · split
      · unfold rf.vote
        split
        · rename_i hv
          obtain ⟨k, hk⟩ : ∃ k : Nat, m.frm = (k : Int) := ⟨m.frm.toNat, by omega⟩
          rw [hk]
          exact voted_lim hK hf hv.1 (by omega)
        · exact ⟨hf, fun _ hx => by cases hx⟩
      · split
        · exact put_lim hf hm
        · exact heard_lim hf
  · exact ⟨h, fun _ hx => by cases hx⟩
end
end cl
end Go.Proofs.YtmcibggjolckoaaGreatDoor
namespace Go.Proofs.YtmcibggjolckoaaGreatDoor
namespace cl
open rl (Ent e0)
set_option maxRecDepth 100000
structure Nd where
  s : St
  up : Bool
  x : rf.Node
structure Clu where
  n : Nat
  p : Nat → Nd
  way : List rf.Msg
def Clu.sts (C : Clu) : Nat → St := fun i => (C.p i).s
/-- the last 200 -/
def last (l : List rf.Msg) : List rf.Msg := l.drop (l.length - 200)
/-- a node is changed, and sends -/
def changed (C : Clu) (i : Nat) (x : rf.Node) (out : List rf.Msg) : Clu := { C with p := upd C.p i ⟨stOf x, true, x⟩, way := last (C.way ++ out) }
/-- a node falls: what it kept is s -/
def fallen (C : Clu) (i : Nat) (s : St) (z : rf.Node) : Clu := { C with p := upd C.p i ⟨s, false, z⟩ }
def started (C : Clu) (i : Nat) : Clu := { C with p := upd C.p i ⟨(C.p i).s, true, rf.new (i : Int) (C.n : Int) (C.p i).s.t (C.p i).s.v (C.p i).s.l⟩ }
structure Inv (C : Clu) (g : Gh) : Prop where
  core : Core C.n C.sts g
  up : ∀ i, i < C.n → (C.p i).up = true → UpOk C.n C.sts g i (C.p i).x
  way : ∀ m ∈ C.way, MsgOk C.n C.sts g m
/-- how long, how great -/
structure Lim (M K : Nat) (C : Clu) : Prop where
  st : ∀ i, i < C.n → (C.p i).s.l.length ≤ M ∧ (C.p i).s.t ≤ K ∧ Short (C.p i).s.l ∧ -1 ≤ (C.p i).s.v ∧ (C.p i).s.v ≤ 6
  up : ∀ i, i < C.n → (C.p i).up = true → NdLim M K (C.p i).x
  way : ∀ m ∈ C.way, MsgLim M K m
theorem Lim.mono {M K M' K' : Nat} {C : Clu} (h : Lim M K C) (hM : M ≤ M') (hK : K ≤ K') : Lim M' K' C :=
  ⟨fun i hi => ⟨Nat.le_trans (h.st i hi).1 hM, Nat.le_trans (h.st i hi).2.1 hK, (h.st i hi).2.2⟩, fun i hi hu => (h.up i hi hu).mono hM hK, fun m hm => (h.way m hm).mono hM hK⟩
/-- what follows keeps all that was granted, led, taken over -/
def Onward (C C' : Clu) : Prop := C'.n = C.n ∧ ∀ g, Inv C g → ∃ g', Inv C' g' ∧ Le C.sts g C'.sts g'
theorem Onward.refl (C : Clu) : Onward C C := ⟨rfl, fun g h => ⟨g, h, Le.refl _ _⟩⟩
theorem Onward.trans {A B C : Clu} (h : Onward A B) (k : Onward B C) : Onward A C := ⟨k.1.trans h.1, fun g hg => by
  obtain ⟨g1, h1, l1⟩ := h.2 g hg
  obtain ⟨g2, h2, l2⟩ := k.2 g1 h1
  exact ⟨g2, h2, l1.trans l2⟩⟩
theorem sts_upd (C : Clu) (i : Nat) (d : Nd) : (fun j => (upd C.p i d j).s) = upd C.sts i d.s := by
  funext j
  by_cases hj : j = i
  · subst hj; rw [upd_same, upd_same]
  · rw [upd_other _ _ hj, upd_other _ _ hj]; rfl
theorem mem_last {l : List rf.Msg} {m : rf.Msg} (h : m ∈ last l) : m ∈ l := by
  unfold last at h
  exact List.mem_of_mem_drop h
/-- a node goes on, and it is kept -/
theorem inv_changed {C : Clu} {g g' : Gh} {i : Nat} {x : rf.Node} {out : List rf.Msg} (h : Inv C g) (hg : Goes C.n C.sts g i x out g') : Inv (changed C i x out) g' := by
  have e : (changed C i x out).sts = upd C.sts i (stOf x) := sts_upd C i _
  refine ⟨by rw [e]; exact hg.core, fun j hj hu => ?_, fun m hm => ?_⟩
  · rw [e]
    by_cases hji : j = i
    · subst hji
      have e2 : ((changed C j x out).p j).x = x := by show (upd C.p j _ j).x = x; rw [upd_same]
      rw [e2]
      exact hg.up
    · have e2 : (changed C i x out).p j = C.p j := upd_other _ _ hji
      rw [e2] at hu ⊢
      exact (h.up j hj hu).other hji hg
  · rw [e]
    have hm2 : m ∈ last (C.way ++ out) := by
      unfold changed at hm
      exact hm
    have hm3 := mem_last hm2
    rcases List.mem_append.1 hm3 with h1 | h1
    · exact (h.way m h1).later hg.le
    · exact hg.out m h1
/-- .. or it falls as it was -/
theorem inv_fallen {C : Clu} {g : Gh} {i : Nat} (h : Inv C g) (z : rf.Node) : Inv (fallen C i (C.p i).s z) g := by
  have e : (fallen C i (C.p i).s z).sts = C.sts := by
    have h1 : (fallen C i (C.p i).s z).sts = upd C.sts i (C.p i).s := sts_upd C i _
    rw [h1]
    exact upd_id i _ rfl
  refine ⟨by rw [e]; exact h.core, fun j hj hu => ?_, fun m hm => by rw [e]; exact h.way m hm⟩
  rw [e]
  by_cases hji : j = i
  · subst hji
    have e2 : ((fallen C j (C.p j).s z).p j).up = false := by show (upd C.p j _ j).up = false; rw [upd_same]
    rw [e2] at hu
    cases hu
  · have e2 : (fallen C i (C.p i).s z).p j = C.p j := upd_other _ _ hji
    rw [e2] at hu ⊢
    exact h.up j hj hu
/-- .. or as it would have been -/
theorem inv_cut {C : Clu} {g g' : Gh} {i : Nat} {x : rf.Node} {out : List rf.Msg} (h : Inv C g) (hg : Goes C.n C.sts g i x out g') (z : rf.Node) : Inv (fallen C i (stOf x) z) g' := by
  have e : (fallen C i (stOf x) z).sts = upd C.sts i (stOf x) := sts_upd C i _
  refine ⟨by rw [e]; exact hg.core, fun j hj hu => ?_, fun m hm => by rw [e]; exact (h.way m hm).later hg.le⟩
  rw [e]
  by_cases hji : j = i
  · subst hji
    have e2 : ((fallen C j (stOf x) z).p j).up = false := by show (upd C.p j _ j).up = false; rw [upd_same]
    rw [e2] at hu
    cases hu
  · have e2 : (fallen C i (stOf x) z).p j = C.p j := upd_other _ _ hji
    rw [e2] at hu ⊢
    exact (h.up j hj hu).other hji hg
/-- what may become of a node that goes on: it is changed; or its save is cut, and it falls, as it was, or as it would have been -/
inductive After (C : Clu) (i : Nat) (x : rf.Node) (out : List rf.Msg) : Clu → Prop
  | ok : After C i x out (changed C i x out)
  | old (z : rf.Node) : After C i x out (fallen C i (C.p i).s z)
  | new (z : rf.Node) : After C i x out (fallen C i (stOf x) z)
theorem After.inv {C C' : Clu} {g g' : Gh} {i : Nat} {x : rf.Node} {out : List rf.Msg} (h : After C i x out C') (hI : Inv C g) (hG : Goes C.n C.sts g i x out g') : ∃ g2, Inv C' g2 ∧ Le C.sts g C'.sts g2 := by
  cases h with
  | ok => exact ⟨g', inv_changed hI hG, by rw [show (changed C i x out).sts = _ from sts_upd C i _]; exact hG.le⟩
  | old z => exact ⟨g, inv_fallen hI z, by
      rw [show (fallen C i (C.p i).s z).sts = upd C.sts i (C.p i).s from sts_upd C i _, upd_id i (C.p i).s rfl]
      exact Le.refl _ _⟩
  | new z => exact ⟨g', inv_cut hI hG z, by rw [show (fallen C i (stOf x) z).sts = _ from sts_upd C i _]; exact hG.le⟩
theorem After.n {C C' : Clu} {i : Nat} {x : rf.Node} {out : List rf.Msg} (h : After C i x out C') : C'.n = C.n := by cases h <;> rfl
theorem After.onward {C C' : Clu} {i : Nat} {x : rf.Node} {out : List rf.Msg} (h : After C i x out C') (hg : ∀ g, Inv C g → ∃ g', Goes C.n C.sts g i x out g') : Onward C C' :=
  ⟨h.n, fun g hI => by
    obtain ⟨g', hG⟩ := hg g hI
    exact h.inv hI hG⟩
theorem After.lim {C C' : Clu} {M K M' K' i : Nat} {r : rf.Node × List rf.Msg} (h : After C i r.1 r.2 C') (hL : Lim M K C) (hM : M ≤ M') (hK : K ≤ K') (hb : BothLim M' K' r) : Lim M' K' C' := by
  have hL2 := hL.mono hM hK
  have hst : (stOf r.1).l.length ≤ M' ∧ (stOf r.1).t ≤ K' ∧ Short (stOf r.1).l ∧ -1 ≤ (stOf r.1).v ∧ (stOf r.1).v ≤ 6 := ⟨hb.1.len, hb.1.term, hb.1.text, hb.1.vote⟩
  cases h with
  | ok =>
    refine ⟨fun j hj => ?_, fun j hj hu => ?_, fun m hm => ?_⟩
    · by_cases hji : j = i
      · subst hji
        rw [show (changed C j r.1 r.2).p j = ⟨stOf r.1, true, r.1⟩ from upd_same _ _ _]
        exact hst
      · rw [show (changed C i r.1 r.2).p j = C.p j from upd_other _ _ hji]
        exact hL2.st j hj
    · by_cases hji : j = i
      · subst hji
        rw [show (changed C j r.1 r.2).p j = ⟨stOf r.1, true, r.1⟩ from upd_same _ _ _]
        exact hb.1
      · have e2 : (changed C i r.1 r.2).p j = C.p j := upd_other _ _ hji
        rw [e2] at hu ⊢
        exact hL2.up j hj hu
    · have hm2 : m ∈ last (C.way ++ r.2) := hm
      have hm3 := mem_last hm2
      rcases List.mem_append.1 hm3 with h1 | h1
      · exact hL2.way m h1
      · exact hb.2 m h1
  | old z =>
    refine ⟨fun j hj => ?_, fun j hj hu => ?_, hL2.way⟩
    · by_cases hji : j = i
      · subst hji
        rw [show (fallen C j (C.p j).s z).p j = ⟨(C.p j).s, false, z⟩ from upd_same _ _ _]
        exact hL2.st j hj
      · rw [show (fallen C i (C.p i).s z).p j = C.p j from upd_other _ _ hji]
        exact hL2.st j hj
    · by_cases hji : j = i
      · subst hji
        rw [show (fallen C j (C.p j).s z).p j = ⟨(C.p j).s, false, z⟩ from upd_same _ _ _] at hu
        cases hu
      · have e2 : (fallen C i (C.p i).s z).p j = C.p j := upd_other _ _ hji
        rw [e2] at hu ⊢
        exact hL2.up j hj hu
  | new z =>
    refine ⟨fun j hj => ?_, fun j hj hu => ?_, hL2.way⟩
    · by_cases hji : j = i
      · subst hji
        rw [show (fallen C j (stOf r.1) z).p j = ⟨stOf r.1, false, z⟩ from upd_same _ _ _]
        exact hst
      · rw [show (fallen C i (stOf r.1) z).p j = C.p j from upd_other _ _ hji]
        exact hL2.st j hj
    · by_cases hji : j = i
      · subst hji
        rw [show (fallen C j (stOf r.1) z).p j = ⟨stOf r.1, false, z⟩ from upd_same _ _ _] at hu
        cases hu
      · have e2 : (fallen C i (stOf r.1) z).p j = C.p j := upd_other _ _ hji
        rw [e2] at hu ⊢
        exact hL2.up j hj hu
theorem lim_way {C : Clu} {M K : Nat} {w : List rf.Msg} (h : Lim M K C) (hw : ∀ m ∈ w, m ∈ C.way) : Lim M K { C with way := w } := ⟨h.st, h.up, fun m hm => h.way m (hw m hm)⟩
theorem lim_start {C : Clu} {M K i : Nat} (h : Lim M K C) (hi : i < C.n) : Lim M K (started C i) := by
  have e : ∀ j, ((started C i).p j).s = (C.p j).s := fun j => by
    by_cases hji : j = i
    · subst hji
      rw [show (started C j).p j = _ from upd_same _ _ _]
    · rw [show (started C i).p j = C.p j from upd_other _ _ hji]
  refine ⟨fun j hj => by rw [e]; exact h.st j hj, fun j hj hu => ?_, h.way⟩
  by_cases hji : j = i
  · subst hji
    rw [show ((started C j).p j).x = rf.new (j : Int) (C.n : Int) (C.p j).s.t (C.p j).s.v (C.p j).s.l from by rw [show (started C j).p j = _ from upd_same _ _ _]]
    have q := h.st j hj
    exact ⟨q.1, fun h1 => absurd (show (0 : Int) = 1 from h1) (by decide), q.2.1, Int.le_refl _, (by decide : (0 : Int) ≤ 100), q.2.2.1, q.2.2.2⟩
  · have e2 : (started C i).p j = C.p j := upd_other _ _ hji
    rw [e2] at hu ⊢
    exact h.up j hj hu
theorem lim_fall {C : Clu} {M K i : Nat} (h : Lim M K C) (z : rf.Node) : Lim M K (fallen C i (C.p i).s z) := by
  refine ⟨fun j hj => ?_, fun j hj hu => ?_, h.way⟩
  · by_cases hji : j = i
    · subst hji
      rw [show (fallen C j (C.p j).s z).p j = ⟨(C.p j).s, false, z⟩ from upd_same _ _ _]
      exact h.st j hj
    · rw [show (fallen C i (C.p i).s z).p j = C.p j from upd_other _ _ hji]
      exact h.st j hj
  · by_cases hji : j = i
    · subst hji
      rw [show (fallen C j (C.p j).s z).p j = ⟨(C.p j).s, false, z⟩ from upd_same _ _ _] at hu
      cases hu
    · have e2 : (fallen C i (C.p i).s z).p j = C.p j := upd_other _ _ hji
      rw [e2] at hu ⊢
      exact h.up j hj hu
theorem onward_tick {C C' : Clu} {M K i : Nat} (hL : Lim M K C) (hK : K + 1 < 18446744073709551616) (h7 : C.n ≤ 7) (hi : i < C.n) (hu : (C.p i).up = true) (h : After C i (rf.tick (C.p i).x).1 (rf.tick (C.p i).x).2 C') : Onward C C' :=
  h.onward fun g hI => goes_tick hI.core hi h7 (hI.up i hi hu) (by have := (hL.up i hi hu).term; omega)
theorem onward_propose {C C' : Clu} {i : Nat} {text : List UInt8} (h7 : C.n ≤ 7) (hi : i < C.n) (hu : (C.p i).up = true) (h : After C i (rf.propose (C.p i).x text).1 (rf.propose (C.p i).x text).2.1 C') : Onward C C' :=
  h.onward fun _ hI => goes_propose hI.core hi h7 (hI.up i hi hu) text
/-- fewer messages -/
theorem onward_way {C : Clu} {w : List rf.Msg} (hw : ∀ m ∈ w, m ∈ C.way) : Onward C { C with way := w } := ⟨rfl, fun g h => ⟨g, ⟨h.core, h.up, fun m hm => h.way m (hw m hm)⟩, Le.refl _ _⟩⟩
theorem onward_step {C C' : Clu} {i : Nat} {m : rf.Msg} {w : List rf.Msg} (h7 : C.n ≤ 7) (hi : i < C.n) (hu : (C.p i).up = true) (hm : m ∈ C.way) (hw : ∀ m ∈ w, m ∈ C.way) (h : After { C with way := w } i (rf.step (C.p i).x m).1 (rf.step (C.p i).x m).2 C') : Onward C C' := by
  refine ⟨h.n, fun g hI => ?_⟩
  have hI2 : Inv { C with way := w } g := ⟨hI.core, hI.up, fun m hm => hI.way m (hw m hm)⟩
  obtain ⟨g', hG⟩ := goes_step hI.core hi h7 (hI.up i hi hu) (hI.way m hm)
  exact h.inv hI2 hG
theorem onward_fall {C : Clu} {i : Nat} (z : rf.Node) : Onward C (fallen C i (C.p i).s z) := by
  refine ⟨rfl, fun g hI => ⟨g, inv_fallen hI z, ?_⟩⟩
  rw [show (fallen C i (C.p i).s z).sts = upd C.sts i (C.p i).s from sts_upd C i _, upd_id i (C.p i).s rfl]
  exact Le.refl _ _
theorem started_sts (C : Clu) (i : Nat) : (started C i).sts = C.sts := by
  have h1 : (started C i).sts = upd C.sts i (C.p i).s := sts_upd C i _
  rw [h1]
  exact upd_id i _ rfl
theorem onward_start {C : Clu} {i : Nat} : Onward C (started C i) := by
  have e := started_sts C i
  refine ⟨rfl, fun g hI => ⟨g, ⟨by rw [e]; exact hI.core, fun j hj hu => ?_, fun m hm => by rw [e]; exact hI.way m hm⟩, by rw [e]; exact Le.refl _ _⟩⟩
  rw [e]
  by_cases hji : j = i
  · subst hji
    have e2 : ((started C j).p j).x = rf.new (j : Int) (C.n : Int) (C.p j).s.t (C.p j).s.v (C.p j).s.l := by show (upd C.p j _ j).x = _; rw [upd_same]
    rw [e2]
    refine ⟨rfl, rfl, rfl, fun h => absurd (show (0 : Int) = 1 from h) (by decide), fun h => absurd (show (0 : Int) = 2 from h) (by decide), .inl rfl, ⟨?_, ?_⟩⟩
    · show (List.replicate 7 false).length = 7; rfl
    · show (List.replicate 7 0).length = 7; rfl
  · have e2 : (started C i).p j = C.p j := upd_other _ _ hji
    rw [e2] at hu ⊢
    exact hI.up j hj hu
/-- a new cluster -/
def fresh (n : Nat) : Clu := ⟨n, fun i => ⟨⟨0, -1, []⟩, true, rf.new (i : Int) (n : Int) 0 (-1) []⟩, []⟩
def gh0 : Gh := ⟨fun _ => [], fun _ => none, fun _ _ => none, fun _ _ => [], fun _ _ => 0⟩
theorem inv_fresh (n : Nat) : Inv (fresh n) gh0 := by
  have nof : ∀ l : Log, l = [] → Fits gh0 l := fun l hl k hk => by rw [hl] at hk; exact absurd hk (Nat.not_lt_zero _)
  have noo : ∀ {t k : Nat}, ¬ Own gh0 t k := fun h => by
    have h1 := h.1
    have h2 : _ ≤ 0 := h.2.1
    omega
  refine ⟨⟨fun h => (by cases h), fun h => (by cases h), fun _ h => absurd rfl h, fun h => (by cases h), fun _ => rfl, fun _ => nof _ rfl, fun _ k hk => absurd hk (Nat.not_lt_zero _), fun _ => nof _ rfl, fun _ k hk => absurd hk (Nat.not_lt_zero _), fun h => absurd h (Nat.not_lt_zero _), fun _ _ => Nat.zero_le _, fun _ ho _ => absurd ho noo, fun _ _ ho => absurd ho noo, fun h => (by cases h)⟩, fun i _ _ => ⟨rfl, rfl, rfl, fun h => absurd (show (0 : Int) = 1 from h) (by decide), fun h => absurd (show (0 : Int) = 2 from h) (by decide), .inl rfl, ⟨?_, ?_⟩⟩, fun m hm => by cases hm⟩
  · show (List.replicate 7 false).length = 7; rfl
  · show (List.replicate 7 0).length = 7; rfl
/-! what follows -/
/-- of each term one node leads at most -/
theorem led_by {C : Clu} {g : Gh} (h : Inv C g) {i : Nat} (hi : i < C.n) (hu : (C.p i).up = true) (hr : (C.p i).x.role = 2) : g.lead (C.p i).x.term = some i := ((h.up i hi hu).r2 hr).1
/-- two logs that have an entry of the same number and term are alike up to it -/
theorem logs_same {C : Clu} {g : Gh} (h : Inv C g) {a b k : Nat} (ha : a < C.n) (hb : b < C.n) (h1 : k < (C.p a).s.l.length) (h2 : k < (C.p b).s.l.length) (ht : tm (C.p a).s.l k = tm (C.p b).s.l k) : Ag (C.p a).s.l (C.p b).s.l (k + 1) :=
  fits_same (h.core.fitS ha) (h.core.fitS hb) h1 h2 ht
/-- what was committed -/
def Done (n : Nat) (g : Gh) (l : Log) : Prop := l = [] ∨ ∃ t k, Chosen n g t k ∧ l.length ≤ k ∧ Ag (g.L t) l l.length
theorem Done.later {n : Nat} {s s' : Nat → St} {g g' : Gh} {l : Log} (h : Done n g l) (hl : Le s g s' g') : Done n g' l := by
  rcases h with h | ⟨t, k, h1, h2, h3⟩
  · exact .inl h
  · exact .inr ⟨t, k, h1.later hl, h2, h3.grow (hl.L t)⟩
theorem done_of {C : Clu} {g : Gh} (h : Inv C g) {i : Nat} (hi : i < C.n) (hu : (C.p i).up = true) : (C.p i).x.commit ≤ (C.p i).x.log.length ∧ Done C.n g ((C.p i).x.log.take (C.p i).x.commit) := by
  have hc := (h.up i hi hu).com
  refine ⟨hc.len, ?_⟩
  rcases hc with h0 | ⟨t, k, _, h2, h3, h4⟩
  · left; rw [h0]; rfl
  · have hlen : ((C.p i).x.log.take (C.p i).x.commit).length = (C.p i).x.commit := by rw [List.length_take]; have := h4.2.1; omega
    exact .inr ⟨t, k, h2, by rw [hlen]; exact h3, by rw [hlen]; exact h4.trans (ag_take _ _ h4.2.1).symm⟩
theorem chosen_pair {C : Clu} {g : Gh} (h : Inv C g) {t t' k k' : Nat} (h1 : Chosen C.n g t k) (h2 : Chosen C.n g t' k') (ht : t ≤ t') : Ag (g.L t) (g.L t') k := by
  by_cases he : t = t'
  · subst he; exact Ag.refl _ h1.1.2.1
  · have hl : g.lead t' ≠ none := by
      intro hn
      have := h.core.ldn hn
      have h3 := h2.1.2.1
      have h4 := h2.1.1
      rw [this] at h3
      simp at h3
      omega
    rcases h.core.safe (by omega) hl h1.1 with h3 | h3
    · exact h3
    · exact (not_both h1 h3).elim
/-- what was committed is committed alike -/
theorem done_same {C : Clu} {g : Gh} (h : Inv C g) {a b : Log} (ha : Done C.n g a) (hb : Done C.n g b) : ∀ j, j < a.length → j < b.length → a[j]? = b[j]? := by
  intro j h1 h2
  rcases ha with rfl | ⟨t, k, c1, k1, a1⟩
  · exact absurd h1 (Nat.not_lt_zero _)
  · rcases hb with rfl | ⟨t', k', c2, k2, a2⟩
    · exact absurd h2 (Nat.not_lt_zero _)
    · rcases Nat.le_total t t' with ht | ht
      · have e := chosen_pair h c1 c2 ht
        exact ((a1.2.2 j h1).symm.trans (e.2.2 j (by omega))).trans (a2.2.2 j h2)
      · have e := chosen_pair h c2 c1 ht
        exact ((a1.2.2 j h1).symm.trans (e.2.2 j (by omega)).symm).trans (a2.2.2 j h2)
end cl
end Go.Proofs.YtmcibggjolckoaaGreatDoor
