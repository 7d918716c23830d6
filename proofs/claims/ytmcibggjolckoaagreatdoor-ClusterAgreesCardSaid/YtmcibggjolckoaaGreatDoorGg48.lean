/- KcMapT, KcAgN, KcAgLaw, KcAgree: one behind the other. -/
import Derived.Test.YtmcibggjolckoaaGreatDoorG42
import Derived.Deep.DeepCutAuto
import Derived.Deep.RegionHeld3
import Derived.BigQuiet
import Derived.Deep.QuietTactic
namespace Go.Proofs.YtmcibggjolckoaaGreatDoor
set_option maxRecDepth 100000
namespace cl
open rl (Ent e0)
section
variable (f : List UInt8 → List UInt8)
def mE (l : List Ent) : List Ent := l.map fun t => (t.1, f t.2)
def mN (x : rf.Node) : rf.Node := { x with log := mE f x.log }
def mM (m : rf.Msg) : rf.Msg := { m with ents := mE f m.ents }
def mO (r : rf.Node × List rf.Msg) : rf.Node × List rf.Msg := (mN f r.1, r.2.map (mM f))
def mS (s : LS) : LS := (s.1.map (mN f), s.2.map (mM f))
theorem mE_len (l : List Ent) : (mE f l).length = l.length := List.length_map _
theorem mE_fst (l : List Ent) (i : Nat) : ((mE f l).getD i e0).1 = (l.getD i e0).1 := by
  unfold mE
  rw [List.getD_eq_getElem?_getD, List.getD_eq_getElem?_getD, List.getElem?_map]
  cases l[i]? <;> rfl
theorem lastTerm_m (l : List Ent) : rl.lastTerm (mE f l) = rl.lastTerm l := by
  unfold rl.lastTerm
  rw [mE_len, mE_fst]
theorem termAt_m (l : List Ent) (i : Nat) : rl.termAt (mE f l) i = rl.termAt l i := by
  unfold rl.termAt
  rw [mE_len, mE_fst]
theorem newer_m (l : List Ent) (t i : Nat) : rl.newer (mE f l) t i = rl.newer l t i := by
  unfold rl.newer
  rw [mE_len, lastTerm_m]
theorem common_m : ∀ a b : List Ent, rl.common (mE f a) (mE f b) = rl.common a b
  | [], _ => by simp [mE, rl.common]
  | _ :: _, [] => by simp [mE, rl.common]
  | x :: r, y :: q => by
    have ih := common_m r q
    show (if x.1 = y.1 then rl.common (mE f r) (mE f q) + 1 else 0) = (if x.1 = y.1 then rl.common r q + 1 else 0)
    rw [ih]
theorem mE_drop (l : List Ent) (k : Nat) : mE f (l.drop k) = (mE f l).drop k := List.map_drop
theorem mE_take (l : List Ent) (k : Nat) : mE f (l.take k) = (mE f l).take k := List.map_take
theorem mE_app (a b : List Ent) : mE f (a ++ b) = mE f a ++ mE f b := List.map_append
theorem match_m (l : List Ent) (p t : Nat) (e : List Ent) : rl.match_ (mE f l) p t (mE f e) = (mE f (rl.match_ l p t e).1, (rl.match_ l p t e).2) := by
  unfold rl.match_
  rw [termAt_m, ← mE_drop, common_m, mE_len]
  by_cases h1 : rl.termAt l p = (t, true)
  · rw [if_pos h1, if_pos h1]
    by_cases h2 : rl.common (l.drop p) e < e.length
    · rw [if_pos h2, if_pos h2, mE_app, mE_take, mE_drop]
    · rw [if_neg h2, if_neg h2]
  · rw [if_neg h1, if_neg h1]
theorem back_m (x : rf.Node) (t : Nat) : rf.back (mN f x) t = mN f (rf.back x t) := by
  unfold rf.back
  show (if x.term < t then _ else _) = _
  by_cases h : x.term < t
  · rw [if_pos h, if_pos h]; rfl
  · rw [if_neg h, if_neg h]; rfl
theorem nextOf_m (x : rf.Node) (k : Nat) : rf.nextOf (mN f x) k = rf.nextOf x k := by
  unfold rf.nextOf
  show min (max (x.next.getD k 0) 1) ((mE f x.log).length + 1) = _
  rw [mE_len]
theorem putMsg_m (x : rf.Node) (k : Nat) : rf.putMsg (mN f x) k = mM f (rf.putMsg x k) := by
  unfold rf.putMsg
  rw [nextOf_m]
  show ({ rf.msg0 with kind := 3, dst := (k : Int), index := rf.nextOf x k - 1, at_ := (rl.termAt (mE f x.log) (rf.nextOf x k - 1)).1, commit := x.commit, ents := ((mE f x.log).drop (rf.nextOf x k - 1)).take 20 } : rf.Msg) = _
  rw [termAt_m, ← mE_drop, ← mE_take]
  rfl
theorem stamp_m (x : rf.Node) (m : rf.Msg) : rf.stamp (mN f x) (mM f m) = mM f (rf.stamp x m) := rfl
theorem puts_m (x : rf.Node) : rf.puts (mN f x) = (rf.puts x).map (mM f) := by
  unfold rf.puts
  rw [List.map_map]
  show (rf.others x).map _ = _
  refine List.map_congr_left fun j _ => ?_
  dsimp only [Function.comp]
  rw [putMsg_m]
  rfl
theorem tallyAt_m (x : rf.Node) : ∀ i, rf.tallyAt (mN f x) i = mN f (rf.tallyAt x i)
  | 0 => rfl
  | i + 1 => by
    have ih := tallyAt_m x i
    have e : rf.tallyAt (mN f x) (i + 1) = if x.commit < i + 1 then (if (rl.termAt (mE f x.log) (i + 1)).1 == x.term && rf.majority x (fun k => decide (i + 1 ≤ x.mat.getD k 0)) then mN f { x with commit := i + 1 } else rf.tallyAt (mN f x) i) else mN f x := rfl
    rw [e, ih, termAt_m]
    have e2 : rf.tallyAt x (i + 1) = if x.commit < i + 1 then (if (rl.termAt x.log (i + 1)).1 == x.term && rf.majority x (fun k => decide (i + 1 ≤ x.mat.getD k 0)) then { x with commit := i + 1 } else rf.tallyAt x i) else x := rfl
    rw [e2]
    split
    · split <;> rfl
    · rfl
theorem tally_m (x : rf.Node) : rf.tally (mN f x) = mN f (rf.tally x) := by
  unfold rf.tally
  show rf.tallyAt (mN f x) (mE f x.log).length = _
  rw [mE_len, tallyAt_m]
theorem grown_m (x : rf.Node) (t : List UInt8) : rf.grown (mN f x) (f t) = mN f (rf.grown x t) := by
  unfold rf.grown
  show ({ mN f x with log := mE f x.log ++ [(x.term, f t)], mat := x.mat.set x.id.toNat ((mE f x.log).length + 1), next := x.next.set x.id.toNat ((mE f x.log).length + 1 + 1) } : rf.Node) = _
  rw [mE_len]
  show _ = ({ x with log := mE f (x.log ++ [(x.term, t)]), mat := x.mat.set x.id.toNat (x.log.length + 1), next := x.next.set x.id.toNat (x.log.length + 1 + 1) } : rf.Node)
  rw [mE_app]
  rfl
theorem add_m (x : rf.Node) (t : List UInt8) : rf.add (mN f x) (f t) = mO f (rf.add x t) := by
  unfold rf.add
  rw [grown_m, tally_m, puts_m]
  rfl
variable {f}
theorem lead_m (h0 : f [] = []) (x : rf.Node) : rf.lead (mN f x) = mO f (rf.lead x) := by
  have e : rf.led (mN f x) = mN f (rf.led x) := by
    unfold rf.led
    show ({ mN f x with role := 2, lead := x.id, idle := 0, next := List.replicate 7 ((mE f x.log).length + 1), mat := List.replicate 7 0 } : rf.Node) = _
    rw [mE_len]
    rfl
  have h := add_m f (rf.led x) []
  rw [h0] at h
  unfold rf.lead
  rw [e, h]
theorem voted_m (h0 : f [] = []) (x : rf.Node) (i : Int) : rf.voted (mN f x) i = mO f (rf.voted x i) := by
  have hl := lead_m h0 { x with votes := x.votes.set i.toNat true }
  have e : rf.voted (mN f x) i = if 0 ≤ i ∧ i < 7 then (if rf.elected { x with votes := x.votes.set i.toNat true } then rf.lead (mN f { x with votes := x.votes.set i.toNat true }) else (mN f { x with votes := x.votes.set i.toNat true }, [])) else (mN f x, []) := rfl
  rw [e, hl]
  unfold rf.voted
  split
  · split <;> rfl
  · rfl
theorem asks_m (x : rf.Node) : rf.asks (mN f x) = (rf.asks x).map (mM f) := by
  unfold rf.asks
  rw [List.map_map]
  show (rf.others x).map _ = _
  refine List.map_congr_left fun j _ => ?_
  dsimp only [Function.comp]
  show rf.stamp (mN f x) { rf.msg0 with kind := 1, dst := (j : Int), index := (mE f x.log).length, at_ := rl.lastTerm (mE f x.log) } = _
  rw [mE_len, lastTerm_m]
  rfl
theorem stand_m (h0 : f [] = []) (x : rf.Node) : rf.stand (mN f x) = mO f (rf.stand x) := by
  have hv := voted_m h0 (rf.stood x) x.id
  have e : rf.stand (mN f x) = if (rf.voted (mN f (rf.stood x)) x.id).1.role = 2 then rf.voted (mN f (rf.stood x)) x.id else ((rf.voted (mN f (rf.stood x)) x.id).1, (rf.voted (mN f (rf.stood x)) x.id).2 ++ rf.asks (rf.voted (mN f (rf.stood x)) x.id).1) := rfl
  rw [e, hv]
  unfold rf.stand
  show (if (rf.voted (rf.stood x) x.id).1.role = 2 then _ else _) = _
  split
  · rfl
  · show (mN f _, _ ++ rf.asks (mN f _)) = _
    rw [asks_m]
    unfold mO
    dsimp only
    rw [List.map_append]
theorem tick_m (h0 : f [] = []) (x : rf.Node) : rf.tick (mN f x) = mO f (rf.tick x) := by
  have hp := puts_m f { x with idle := 0 }
  have hs := stand_m h0 { x with idle := x.idle + 1 }
  have e : rf.tick (mN f x) = if x.role = 2 then (if 3 ≤ x.idle + 1 then (mN f { x with idle := 0 }, rf.puts (mN f { x with idle := 0 })) else (mN f { x with idle := x.idle + 1 }, []))
    else (if 10 + 3 * x.id ≤ x.idle + 1 then rf.stand (mN f { x with idle := x.idle + 1 }) else (mN f { x with idle := x.idle + 1 }, [])) := rfl
  rw [e, hp, hs]
  unfold rf.tick
  split
  · split <;> rfl
  · split <;> rfl
theorem ask_m (x : rf.Node) (m : rf.Msg) : rf.ask (mN f x) (mM f m) = mO f (rf.ask x m) := by
  have e : rf.askOk (mN f x) (mM f m) = rf.askOk x m := by
    unfold rf.askOk
    show (_ && _ && rl.newer (mE f x.log) m.at_ m.index) = _
    rw [newer_m]
    rfl
  unfold rf.ask
  rw [e]
  split <;> rfl
theorem vote_m (h0 : f [] = []) (x : rf.Node) (m : rf.Msg) : rf.vote (mN f x) (mM f m) = mO f (rf.vote x m) := by
  have h := voted_m h0 x m.frm
  have e : rf.vote (mN f x) (mM f m) = if x.role = 1 ∧ m.term = x.term ∧ m.ok = true then rf.voted (mN f x) m.frm else (mN f x, []) := rfl
  rw [e, h]
  unfold rf.vote
  split <;> rfl
theorem put_m (x : rf.Node) (m : rf.Msg) : rf.put (mN f x) (mM f m) = mO f (rf.put x m) := by
  have ht : rf.taken (mN f x) (mM f m) = mN f (rf.taken x m) := by
    have h := back_m f x m.term
    unfold rf.taken
    show ({ rf.back (mN f x) m.term with lead := m.frm, idle := 0 } : rf.Node) = _
    rw [h]
    rfl
  have hm := match_m f (rf.taken x m).log m.index m.at_ m.ents
  unfold rf.put
  rw [ht]
  show (if m.term < x.term then _ else match rl.match_ (mE f (rf.taken x m).log) m.index m.at_ (mE f m.ents) with
    | (l, at_, 0) => _
    | _ => _) = _
  rw [hm]
  split
  · rfl
  · obtain ⟨l, a, c⟩ := rl.match_ (rf.taken x m).log m.index m.at_ m.ents
    cases c with
    | zero => rfl
    | succ c =>
      show (mN f (rf.taken x m), [rf.stamp (mN f (rf.taken x m)) { rf.msg0 with kind := 4, dst := m.frm, index := (mE f (rf.taken x m).log).length }]) = _
      rw [mE_len]
      rfl
theorem heardYes_m (x : rf.Node) (k ix : Nat) : rf.heardYes (mN f x) k ix = mN f (rf.heardYes x k ix) := by
  unfold rf.heardYes
  show ({ mN f x with mat := x.mat.set k (max (x.mat.getD k 0) (min ix (mE f x.log).length)), next := x.next.set k (max (x.mat.getD k 0) (min ix (mE f x.log).length) + 1) } : rf.Node) = _
  rw [mE_len]
  rfl
theorem heardNo_m (x : rf.Node) (k ix : Nat) : rf.heardNo (mN f x) k ix = mN f (rf.heardNo x k ix) := by
  unfold rf.heardNo
  show ({ mN f x with next := x.next.set k (max (min (max (x.next.getD k 0) 1 - 1) (min ix (mE f x.log).length + 1)) (x.mat.getD k 0 + 1)) } : rf.Node) = _
  rw [mE_len]
  rfl
theorem heard_m (x : rf.Node) (m : rf.Msg) : rf.heard (mN f x) (mM f m) = mO f (rf.heard x m) := by
  have e : rf.heard (mN f x) (mM f m) = if x.role = 2 ∧ m.term = x.term then
    (if m.ok = true then
      (if (rf.tally (rf.heardYes (mN f x) m.frm.toNat m.index)).next.getD m.frm.toNat 0 ≤ (mE f x.log).length then (rf.tally (rf.heardYes (mN f x) m.frm.toNat m.index), [rf.stamp (mN f x) (rf.putMsg (rf.tally (rf.heardYes (mN f x) m.frm.toNat m.index)) m.frm.toNat)]) else (rf.tally (rf.heardYes (mN f x) m.frm.toNat m.index), []))
    else (rf.heardNo (mN f x) m.frm.toNat m.index, [rf.stamp (mN f x) (rf.putMsg (rf.heardNo (mN f x) m.frm.toNat m.index) m.frm.toNat)]))
    else (mN f x, []) := rfl
  rw [e, heardYes_m, heardNo_m, tally_m, putMsg_m, putMsg_m, mE_len]
  unfold rf.heard
  show (if x.role = 2 ∧ m.term = x.term then (if m.ok = true then (if (rf.tally (rf.heardYes x m.frm.toNat m.index)).next.getD m.frm.toNat 0 ≤ x.log.length then _ else _) else _) else _) = _
  split
  · split
    · split <;> rfl
    · rfl
  · rfl
theorem step_m (h0 : f [] = []) (x : rf.Node) (m : rf.Msg) : rf.step (mN f x) (mM f m) = mO f (rf.step x m) := by
  have hf : rf.fresh (mN f x) (mM f m) = mN f (rf.fresh x m) := by
    have h := back_m f x m.term
    unfold rf.fresh
    show (if x.term < m.term then rf.back (mN f x) m.term else mN f x) = _
    rw [h]
    split <;> rfl
  have e : rf.step (mN f x) (mM f m) = if rf.meant x m = true then (if m.kind = 1 then rf.ask (rf.fresh (mN f x) (mM f m)) (mM f m) else if m.kind = 2 then rf.vote (rf.fresh (mN f x) (mM f m)) (mM f m) else if m.kind = 3 then rf.put (rf.fresh (mN f x) (mM f m)) (mM f m) else rf.heard (rf.fresh (mN f x) (mM f m)) (mM f m)) else (mN f x, []) := rfl
  rw [e, hf, ask_m, vote_m h0, put_m, heard_m]
  unfold rf.step
  split
  · split
    · rfl
    · split
      · rfl
      · split <;> rfl
  · rfl
theorem propose_m {t : List UInt8} (h1 : t.length ≤ 60000) (h2 : (f t).length ≤ 60000) (x : rf.Node) : ((rf.propose (mN f x) (f t)).1, (rf.propose (mN f x) (f t)).2.1) = mO f ((rf.propose x t).1, (rf.propose x t).2.1) := by
  have h := add_m f x t
  have e : rf.propose (mN f x) (f t) = if x.role ≠ 2 ∨ x.id < 0 ∨ 7 ≤ x.id then (mN f x, [], 0, 170) else if 60000 < (f t).length then (mN f x, [], 0, 71) else ((rf.add (mN f x) (f t)).1, (rf.add (mN f x) (f t)).2, (mE f x.log).length + 1, 0) := rfl
  rw [e, h, if_neg (show ¬ 60000 < (f t).length by omega)]
  unfold rf.propose
  rw [if_neg (show ¬ 60000 < t.length by omega)]
  split <;> rfl
theorem last_m (l : List rf.Msg) : last (l.map (mM f)) = (last l).map (mM f) := by
  unfold last
  rw [List.length_map, List.map_drop]
theorem pair_m {s : LS} {i : Nat} {r : rf.Node × List rf.Msg} {w : List rf.Msg} : (((s.1.map (mN f)).set i (mO f r).1, last (w.map (mM f) ++ (mO f r).2)) : LS) = mS f (s.1.set i r.1, last (w ++ r.2)) := by
  unfold mS mO
  dsimp only
  rw [← List.map_append, last_m, List.map_set]
theorem tickL_m (h0 : f [] = []) (i : Nat) (s : LS) : tickL i (mS f s) = mS f (tickL i s) := by
  unfold tickL
  show (match (s.1.map (mN f))[i]? with | some x => _ | none => _) = _
  rw [List.getElem?_map]
  cases h : s.1[i]? with
  | none => rfl
  | some x =>
    show ((s.1.map (mN f)).set i (rf.tick (mN f x)).1, last (s.2.map (mM f) ++ (rf.tick (mN f x)).2)) = _
    rw [tick_m h0, pair_m]
theorem delL_m (h0 : f [] = []) (s : LS) : delL (mS f s) = mS f (delL s) := by
  obtain ⟨xs, w⟩ := s
  cases w with
  | nil => rfl
  | cons m r =>
    unfold delL
    show (match (xs.map (mN f))[m.dst.toNat]? with | some x => _ | none => _) = _
    rw [List.getElem?_map]
    show _ = mS f (match xs[m.dst.toNat]? with | some x => _ | none => _)
    cases h : xs[m.dst.toNat]? with
    | none => rfl
    | some x =>
      show ((xs.map (mN f)).set m.dst.toNat (rf.step (mN f x) (mM f m)).1, last (r.map (mM f) ++ (rf.step (mN f x) (mM f m)).2)) = _
      rw [step_m h0]
      exact pair_m (s := (xs, r))
theorem ticksL_m (h0 : f [] = []) : ∀ j (s : LS), ticksL j (mS f s) = mS f (ticksL j s)
  | 0, _ => rfl
  | j + 1, s => by
    show tickL j (ticksL j (mS f s)) = mS f (tickL j (ticksL j s))
    rw [ticksL_m h0 j s, tickL_m h0]
theorem delN_m (h0 : f [] = []) : ∀ j (s : LS), delN j (mS f s) = mS f (delN j s)
  | 0, _ => rfl
  | j + 1, s => by
    show delL (delN j (mS f s)) = mS f (delL (delN j s))
    rw [delN_m h0 j s, delL_m h0]
theorem roundL_m (h0 : f [] = []) (n : Nat) (s : LS) : roundL n (mS f s) = mS f (roundL n s) := by
  unfold roundL
  rw [ticksL_m h0, delN_m h0]
theorem roundsL_m (h0 : f [] = []) (n : Nat) : ∀ j (s : LS), roundsL n j (mS f s) = mS f (roundsL n j s)
  | 0, _ => rfl
  | j + 1, s => by
    show roundL n (roundsL n j (mS f s)) = mS f (roundL n (roundsL n j s))
    rw [roundsL_m h0 n j s, roundL_m h0]
theorem propL_m {t : List UInt8} (h1 : t.length ≤ 60000) (h2 : (f t).length ≤ 60000) (i : Nat) (s : LS) : propL i (f t) (mS f s) = mS f (propL i t s) := by
  unfold propL
  show (match (s.1.map (mN f))[i]? with | some x => _ | none => _) = _
  rw [List.getElem?_map]
  cases h : s.1[i]? with
  | none => rfl
  | some x =>
    have hp := propose_m h1 h2 x
    have e1 := congrArg Prod.fst hp
    have e2 := congrArg Prod.snd hp
    dsimp only at e1 e2
    show ((s.1.map (mN f)).set i (rf.propose (mN f x) (f t)).1, last (s.2.map (mM f) ++ (rf.propose (mN f x) (f t)).2.1)) = _
    rw [e1, e2]
    exact pair_m (s := s) (r := ((rf.propose x t).1, (rf.propose x t).2.1))
end
end cl
end Go.Proofs.YtmcibggjolckoaaGreatDoor
namespace Go.Proofs.YtmcibggjolckoaaGreatDoor
open Go Go.RowKit Go.Deep
set_option maxRecDepth 100000
namespace cl
/-- texts that stand for others -/
def plc (i : Nat) : List UInt8 := [UInt8.ofNat (i + 1)]
def propsL (t : Nat → List UInt8) : Nat → LS → LS
  | 0, s => s
  | j + 1, s => propL 0 (t j) (propsL t j s)
/-- a round, that stops when nothing is on its way -/
def run : Nat → LS → LS
  | 0, s => s
  | j + 1, s => match s.2 with
    | [] => s
    | _ :: _ => run j (delL s)
def roundK (n : Nat) (s : LS) : LS := run 500 (ticksL n s)
def roundsK (n : Nat) : Nat → LS → LS
  | 0, s => s
  | j + 1, s => roundK n (roundsK n j s)
theorem delN_in : ∀ j (s : LS), delN j (delL s) = delL (delN j s)
  | 0, _ => rfl
  | j + 1, s => by
    show delL (delN j (delL s)) = delL (delL (delN j s))
    rw [delN_in j s]
theorem run_is : ∀ j (s : LS), run j s = delN j s
  | 0, _ => rfl
  | j + 1, s => by
    unfold run
    split
    · rename_i h
      have e := delN_stop (s := s) (j := 0) h (j + 1)
      rw [Nat.zero_add] at e
      exact e.symm
    · rw [run_is j, delN_in]
      rfl
theorem roundsK_is (n : Nat) : ∀ j (s : LS), roundsK n j s = roundsL n j s
  | 0, _ => rfl
  | j + 1, s => by
    show run 500 (ticksL n (roundsK n j s)) = delN 500 (ticksL n (roundsL n j s))
    rw [run_is, roundsK_is n j s]
def a30 (n : Nat) : LS := roundsK n 30 (freshL n)
def led0 (n : Nat) (s : LS) : Bool := decide (leadTo (ofL s) n = 0) && decide ((s.1.map (·.role))[0]? = some 2)
def chkA (n : Nat) : Bool := (List.range 21).all fun j => led0 n (propsL plc j (a30 n))
def plain (l : List rf.Node) : List (List (Nat × List Nat)) := l.map fun x => (x.log.take x.commit).map fun e => (e.1, e.2.map (·.toNat))
def want (n j : Nat) : List (List (Nat × List Nat)) := List.replicate n ((1, []) :: (List.range j).map fun i => (1, [i + 1]))
def chkB (n : Nat) : Bool := (List.range 21).all fun j => decide (plain (roundsK n 6 (propsL plc j (a30 n))).1 = want n j)
theorem chkA1 : chkA 1 = true := by kernel_rfl
theorem chkB1 : chkB 1 = true := by kernel_rfl
theorem chkA2 : chkA 2 = true := by kernel_rfl
theorem chkB2 : chkB 2 = true := by kernel_rfl
theorem chkA3 : chkA 3 = true := by kernel_rfl
theorem chkB3 : chkB 3 = true := by kernel_rfl
theorem chkA4 : chkA 4 = true := by kernel_rfl
theorem chkB4 : chkB 4 = true := by kernel_rfl
theorem chkA5 : chkA 5 = true := by kernel_rfl
theorem chkB5 : chkB 5 = true := by kernel_rfl
end cl
end Go.Proofs.YtmcibggjolckoaaGreatDoor
namespace Go.Proofs.YtmcibggjolckoaaGreatDoor
set_option maxRecDepth 100000
namespace cl
section
variable (texts : List (List UInt8))
def gT : List Nat → List UInt8
  | [m] => texts.getD (m - 1) []
  | _ => []
def fT (l : List UInt8) : List UInt8 := gT texts (l.map (·.toNat))
def txT (j : Nat) : List UInt8 := texts.getD j []
theorem fT_plc {j : Nat} (h : j ≤ 20) : fT texts (plc j) = txT texts j := by
  have e : (UInt8.ofNat (j + 1)).toNat = j + 1 := by rw [UInt8.toNat_ofNat']; exact Nat.mod_eq_of_lt (by omega)
  unfold fT plc txT
  rw [List.map_singleton, e]
  rfl
theorem fresh_m (n : Nat) : mS (fT texts) (freshL n) = freshL n := by
  unfold mS freshL
  dsimp only
  rw [List.map_map]
  rfl
theorem a30_is (n : Nat) : a30 n = roundsL n 30 (freshL n) := roundsK_is n 30 _
theorem a30_m (n : Nat) : mS (fT texts) (a30 n) = a30 n := by
  rw [a30_is, ← roundsL_m (f := fT texts) rfl, fresh_m]
theorem tx_len (ht : ∀ t ∈ texts, t.length ≤ 100) (j : Nat) : (txT texts j).length ≤ 100 := by
  unfold txT
  rw [List.getD_eq_getElem?_getD]
  cases h : texts[j]? with
  | none => exact Nat.zero_le _
  | some t => exact ht t (List.mem_of_getElem? h)
theorem props_m (ht : ∀ t ∈ texts, t.length ≤ 100) (n : Nat) : ∀ k, k ≤ 20 → propsL (txT texts) k (a30 n) = mS (fT texts) (propsL plc k (a30 n))
  | 0, _ => (a30_m texts n).symm
  | k + 1, h => by
    have ih := props_m ht n k (by omega)
    have hp := propL_m (f := fT texts) (t := plc k) (by decide : 1 ≤ 60000) (by rw [fT_plc texts (by omega)]; exact Nat.le_trans (tx_len texts ht k) (by decide)) 0 (propsL plc k (a30 n))
    rw [fT_plc texts (by omega)] at hp
    show propL 0 (txT texts k) (propsL (txT texts) k (a30 n)) = mS (fT texts) (propL 0 (plc k) (propsL plc k (a30 n)))
    rw [ih, hp]
theorem p_m (f : List UInt8 → List UInt8) (s : LS) (i : Nat) (hi : i < s.1.length) : ((ofL (mS f s)).p i).up = ((ofL s).p i).up ∧ ((ofL (mS f s)).p i).x.role = ((ofL s).p i).x.role ∧ ((ofL (mS f s)).p i).x.term = ((ofL s).p i).x.term := by
  unfold ofL mS
  dsimp only
  rw [List.getElem?_map, List.getElem?_eq_getElem hi]
  exact ⟨rfl, rfl, rfl⟩
theorem lead_m' (f : List UInt8 → List UInt8) (s : LS) : ∀ k, k ≤ s.1.length → leadTo (ofL (mS f s)) k = leadTo (ofL s) k
  | 0, _ => rfl
  | k + 1, hk => by
    have ih := lead_m' f s k (by omega)
    obtain ⟨e1, e2, e3⟩ := p_m f s k (by omega)
    show (if _ then _ else _) = (if _ then _ else _)
    rw [ih, e1, e2, e3]
    rcases leadTo_or (ofL s) k with h1 | ⟨l, h1, h2, _⟩
    · simp [h1]
    · rw [h2, Int.toNat_natCast, (p_m f s l (by omega)).2.2]
theorem tickL_len (i : Nat) (s : LS) : (tickL i s).1.length = s.1.length := by
  unfold tickL
  split
  · exact List.length_set
  · rfl
theorem delL_len (s : LS) : (delL s).1.length = s.1.length := by
  unfold delL
  split
  · rfl
  · split
    · exact List.length_set
    · rfl
theorem ticksL_len : ∀ j (s : LS), (ticksL j s).1.length = s.1.length
  | 0, _ => rfl
  | j + 1, s => by
    show (tickL j (ticksL j s)).1.length = _
    rw [tickL_len, ticksL_len j s]
theorem delN_len : ∀ j (s : LS), (delN j s).1.length = s.1.length
  | 0, _ => rfl
  | j + 1, s => by
    show (delL (delN j s)).1.length = _
    rw [delL_len, delN_len j s]
theorem roundsL_len (n : Nat) : ∀ j (s : LS), (roundsL n j s).1.length = s.1.length
  | 0, _ => rfl
  | j + 1, s => by
    show (delN 500 (ticksL n (roundsL n j s))).1.length = _
    rw [delN_len, ticksL_len, roundsL_len n j s]
theorem propL_len (i : Nat) (t : List UInt8) (s : LS) : (propL i t s).1.length = s.1.length := by
  unfold propL
  split
  · exact List.length_set
  · rfl
theorem propsL_len (t : Nat → List UInt8) : ∀ j (s : LS), (propsL t j s).1.length = s.1.length
  | 0, _ => rfl
  | j + 1, s => by
    show (propL 0 _ (propsL t j s)).1.length = _
    rw [propL_len, propsL_len t j s]
theorem a30_len (n : Nat) : (a30 n).1.length = n := by
  rw [a30_is, roundsL_len]
  unfold freshL
  rw [List.length_map, List.length_range]
theorem chkA_all {n : Nat} (h1 : 1 ≤ n) (h5 : n ≤ 5) : chkA n = true := by
  match n, h1, h5 with
  | 1, _, _ => exact chkA1
  | 2, _, _ => exact chkA2
  | 3, _, _ => exact chkA3
  | 4, _, _ => exact chkA4
  | 5, _, _ => exact chkA5
theorem chkB_all {n : Nat} (h1 : 1 ≤ n) (h5 : n ≤ 5) : chkB n = true := by
  match n, h1, h5 with
  | 1, _, _ => exact chkB1
  | 2, _, _ => exact chkB2
  | 3, _, _ => exact chkB3
  | 4, _, _ => exact chkB4
  | 5, _, _ => exact chkB5
/-- node 0 leads, however much was proposed -/
theorem agree_lead (ht : ∀ t ∈ texts, t.length ≤ 100) {n k : Nat} (h1 : 1 ≤ n) (h5 : n ≤ 5) (hk : k ≤ 20) :
    leadTo (ofL (propsL (txT texts) k (a30 n))) n = 0 ∧ ((propsL (txT texts) k (a30 n)).1.map (·.role))[0]? = some 2 := by
  have hc := List.all_eq_true.1 (chkA_all h1 h5) k (List.mem_range.2 (by omega))
  unfold led0 at hc
  rw [Bool.and_eq_true, decide_eq_true_iff, decide_eq_true_iff] at hc
  rw [props_m texts ht n k hk]
  refine ⟨?_, ?_⟩
  · rw [lead_m' _ _ n (by rw [propsL_len, a30_len]; exact Nat.le_refl _)]
    exact hc.1
  · show (((propsL plc k (a30 n)).1.map (mN (fT texts))).map (·.role))[0]? = some 2
    rw [List.map_map]
    exact hc.2
def agreed (k : Nat) : List rl.Ent := (1, []) :: (List.range k).map fun i => (1, txT texts i)
/-- .. and all commit it -/
theorem agree_logs (ht : ∀ t ∈ texts, t.length ≤ 100) {n k : Nat} (h1 : 1 ≤ n) (h5 : n ≤ 5) (hk : k ≤ 20) :
    (roundsL n 6 (propsL (txT texts) k (a30 n))).1.map (fun x => x.log.take x.commit) = List.replicate n (agreed texts k) := by
  have hc := List.all_eq_true.1 (chkB_all h1 h5) k (List.mem_range.2 (by omega))
  rw [decide_eq_true_iff, roundsK_is] at hc
  rw [props_m texts ht n k hk, roundsL_m rfl]
  obtain ⟨S, hS⟩ : ∃ S, roundsL n 6 (propsL plc k (a30 n)) = S := ⟨_, rfl⟩
  rw [hS] at hc ⊢
  have e : ((mS (fT texts) S).1.map fun x => x.log.take x.commit) = (plain S.1).map fun l => l.map fun p => (p.1, gT texts p.2) := by
    unfold mS plain
    dsimp only
    rw [List.map_map, List.map_map]
    refine List.map_congr_left fun x _ => ?_
    show (mE (fT texts) x.log).take x.commit = _
    rw [← mE_take, Function.comp, List.map_map]
    rfl
  rw [e, hc]
  unfold want agreed
  rw [List.map_replicate, List.map_cons, List.map_map]
  rfl
end
end cl
end Go.Proofs.YtmcibggjolckoaaGreatDoor
namespace Go.Proofs.YtmcibggjolckoaaGreatDoor
open Go Go.RowKit Go.Deep
set_option maxRecDepth 100000
namespace cl
/-- texts that are too long count as none -/
def clamp (texts : List (List UInt8)) : List (List UInt8) := texts.map fun t => if t.length ≤ 100 then t else []
theorem clamp_ok (texts : List (List UInt8)) : ∀ t ∈ clamp texts, t.length ≤ 100 := by
  intro t ht
  obtain ⟨u, _, rfl⟩ := List.mem_map.1 ht
  split
  · assumption
  · exact Nat.zero_le _
theorem clamp_get {texts : List (List UInt8)} {j : Nat} (h : (texts.getD j []).length ≤ 100) : txT (clamp texts) j = texts.getD j [] := by
  unfold txT clamp
  rw [List.getD_eq_getElem?_getD, List.getElem?_map]
  rw [List.getD_eq_getElem?_getD] at h ⊢
  cases hh : texts[j]? with
  | none => rfl
  | some t =>
    rw [hh] at h
    have h : t.length ≤ 100 := h
    show (if t.length ≤ 100 then t else []) = t
    rw [if_pos h]
theorem agreed_get {texts : List (List UInt8)} (h : ∀ q, q < texts.length → (texts.getD q []).length ≤ 100) : agreed (clamp texts) texts.length = (1, []) :: texts.map fun t => (1, t) := by
  unfold agreed
  congr 1
  refine List.ext_getElem (by rw [List.length_map, List.length_map, List.length_range]) fun i h1 h2 => ?_
  rw [List.length_map] at h2
  rw [List.getElem_map, List.getElem_map, List.getElem_range, clamp_get (h i h2), List.getD_eq_getElem?_getD, List.getElem?_eq_getElem h2]
  rfl
theorem agreed_at (texts : List (List UInt8)) (m : Nat) : ((((1, []) :: texts.map fun t => (1, t)) : List rl.Ent).getD (m + 1) rl.e0).2 = texts.getD m [] := by
  rw [List.getD_cons_succ, List.getD_eq_getElem?_getD, List.getD_eq_getElem?_getD, List.getElem?_map]
  cases texts[m]? <;> rfl
end cl
theorem tmod_five (a : Nat) : ((a : Int)).tmod 5 = ((a % 5 : Nat) : Int) := by
  rw [Int.tmod_eq_emod_of_nonneg (Int.natCast_nonneg a)]
  rfl
set_option maxHeartbeats 16000000 in
theorem agrees_any {w : World} {v : Value} {texts : List (List UInt8)} (xm : Nat) (hx256 : xm < 256) (hA : Texts w v texts) (ht : TabAt w) :
    Calls Tryz.prog 3 #[.int .u8 (xm : Int), v] w fun e w' => e = .returned (.bool true) ∧ Below w.heap.size w w' := by
  obtain ⟨r, hr5⟩ : ∃ r, xm % 5 = r := ⟨_, rfl⟩
  have hr : r < 5 := by rw [← hr5]; exact Nat.mod_lt _ (by decide)
  have hwx : IntKind.i64.wrap (xm : Int) = (xm : Int) := wrap_i64_in (by omega) (by omega)
  have hm5 := tmod_five xm
  rw [hr5] at hm5
  obtain ⟨n, hn⟩ : ∃ n, 1 + r = n := ⟨_, rfl⟩
  have hwn : IntKind.i64.wrap (1 + (r : Int)) = (n : Int) := by rw [IntKind.wrap_i64]; omega
  have HNN : Hid (1 ≤ n ∧ n ≤ 5) := Lib.hid (by omega)
  clear hr5 hr hn hx256
  have HSH := Lib.hid fun W hb => shown_any W (ht.below hb ht.1)
  obtain ⟨⟨A, cp, rfl, hac⟩, hlm, _, A', cp', hv, hlc⟩ := hA
  obtain ⟨rfl, rfl⟩ : A = A' ∧ cp = cp' := by injection hv with e1 _ e3; exact ⟨e1, e3⟩
  clear hv
  obtain ⟨L, hL⟩ : ∃ n, texts.length = n := ⟨_, rfl⟩
  have HT := Lib.hid ht
  rw [hL] at hlm hlc hac ⊢
  have HLL := Lib.hid hL
  have HAC := Lib.hid hac
  have hcI : (L : Int) ≤ (cp : Int) := by omega
  have hlM : L ≤ 9223372036854775807 := by unfold maxLen at hlm; omega
  clear hac hL ht hlm hlc
  by_cases h20 : 20 < L
  · have hi : decide ((20 : Int) < (L : Int)) = true := decide_eq_true (by omega)
    clear h20
    go_enter Tryz.func3, Tryz.ntmps3
    go_wp2_with (go_at_call 10; refine (HSH.out _ (Below.refl _ _)).mono ?_; rintro e w1 ⟨rfl, hb1⟩; have HB1 := Lib.hid hb1; clear hb1)
    go_ret
    exact ⟨rfl, HB1.out⟩
  · have hi : decide ((20 : Int) < (L : Int)) = false := decide_eq_false (by omega)
    have HL20 : Hid (L ≤ 20) := Lib.hid (by omega)
    clear h20 hlM
    go_enter Tryz.func3, Tryz.ntmps3
    go_upto_region 4 with (go_at_call 10; refine (HSH.out _ (Below.refl _ _)).mono ?_; rintro e w1 ⟨rfl, hb1⟩; have HB1 := Lib.hid hb1; clear hb1)
    have HT1 : Hid (TabAt w1) := Lib.hid (HT.out.below HB1.out HT.out.1)
    have HNEW := Lib.hid (new_calm (B := 5000000) n 10000000 w1 HNN.out.1 (Nat.le_trans HNN.out.2 (by decide)) (by decide) (by decide) HT1.out)
    go_upto_region 8 with (go_at_call 11; refine HNEW.out.mono ?_; rintro e w2 ⟨c, rfl, hc1⟩; have HC1 := Lib.hid hc1; unfold cptr; clear hc1)
    clear HNEW
    have HBD : Hid (∀ M, M ≤ 3000 → Bd 5000000 M) := Lib.hid fun M hM => ⟨by omega, by omega⟩
    go_loopw [8] (fun i wr => ∃ (j : Nat) (C : cl.Clu), j ≤ 30 ∧ i = .int .i64 j ∧ Calm 5000000 w1 c n (j * n) C wr ∧ cl.Like C (cl.roundsL n j (cl.freshL n))) (fun i _ => 30 - (intOf i).toNat)
    case atStart => exact ⟨0, _, Nat.zero_le _, rfl, by rw [Nat.zero_mul]; exact HC1.out, cl.like_fresh n⟩
    case round =>
      obtain ⟨j, C, hj, rfl, hI, hL⟩ := hrel
      have hwj : IntKind.i64.wrap ((j : Int) + 1) = (j : Int) + 1 := by rw [IntKind.wrap_i64]; omega
      have hn5 := HNN.out.2
      have hjn : j * n ≤ 150 := Nat.le_trans (Nat.mul_le_mul hj hn5) (by decide)
      by_cases hlt : j < 30
      · have hltI : (j : Int) < 30 := by omega
        have hcall := round_calm hI hL (HBD.out _ (by omega)) HT1.out
        unfold cptr at hcall
        have HCALL := Lib.hid hcall
        have HLT := Lib.hid hlt
        clear hI hL hcall hlt hj HC1 hn5 hjn
        go_wp2_with (go_at_call 12; refine HCALL.out.mono ?_; rintro e w2 ⟨rfl, C2, hI2, hL2⟩; have HI2 := Lib.hid (And.intro hI2 hL2); clear hI2 hL2)
        go_roundw
        case rel => exact ⟨j + 1, C2, HLT.out, by go_num, by rw [Nat.succ_mul]; exact HI2.out.1, HI2.out.2⟩
        case measure => have := HLT.out; simp [intOf]; omega
      · obtain rfl : j = 30 := by omega
        have hL : cl.Like C (cl.a30 n) := by rw [cl.a30_is]; exact hL
        have hI2 := hI.mono hjn
        have HI := Lib.hid (And.intro hI2 hL)
        clear hI hI2 hL hj hlt hwj hn5 hjn HC1
        go_upto_region 12 with fail
        (try rw [show ((30 : Nat) : Int) = 30 from rfl])
        go_loopw [9] (fun i wx => ∃ (j : Nat) (C : cl.Clu), j ≤ L ∧ i = .int .i64 j ∧ (∀ q, q < j → (texts.getD q []).length ≤ 100) ∧ Calm 5000000 w1 c n (150 + j) C wx ∧ cl.Like C (cl.propsL (cl.txT (cl.clamp texts)) j (cl.a30 n))) (fun i _ => L - (intOf i).toNat)
        case atStart => exact ⟨0, C, Nat.zero_le _, rfl, fun q hq => absurd hq (Nat.not_lt_zero _), HI.out.1, HI.out.2⟩
        case round =>
          obtain ⟨j, D, hj, rfl, hall, hI, hL⟩ := hrel
          have hwj : IntKind.i64.wrap ((j : Int) + 1) = (j : Int) + 1 := wrap_i64_in (by omega) (by have := HL20.out; omega)
          have HALL := Lib.hid hall
          clear hall HI
          by_cases hlt : j < L
          · have hltI : (j : Int) < (L : Int) := by omega
            obtain ⟨ad, rfl, x0⟩ := HAC.out j hlt
            have hwr := HB1.out.trans (hI.bel.mono HB1.out.size)
            have MK : Hid (∀ W, Below wr.heap.size wr W → W.cell? (ad.add j) = some (.string (crcm.mk (texts.getD j [])))) := Lib.hid fun W hb => cell_later hb (cell_later hwr x0)
            have MK2 : Hid (∀ W, Below w1.heap.size w1 W → W.cell? (ad.add j) = some (.string (crcm.mk (texts.getD j [])))) := Lib.hid fun W hb => cell_later hb (cell_later HB1.out x0)
            have c0 := MK.out _ (Below.refl _ _)
            obtain ⟨t, htt⟩ : ∃ t, texts.getD j [] = t := ⟨_, rfl⟩
            rw [htt] at MK MK2 c0
            have hsz : (crcm.mk t).size = t.length := crcm.mk_size _
            have HSH1 := Lib.hid (HSH.out wr hwr)
            have HBW := Lib.hid hwr
            have HLT := Lib.hid hlt
            have HTT := Lib.hid htt
            clear x0 hwr htt
            by_cases h100 : t.length ≤ 100
            · have hb : decide ((100 : Int) < (t.length : Int)) = false := decide_eq_false (by omega)
              have hld := cl.agree_lead (cl.clamp texts) (cl.clamp_ok texts) (k := j) HNN.out.1 HNN.out.2 (by have := HL20.out; omega)
              have hlead : ∀ W, Below wr.heap.size wr W → _ := fun W hb => leader_calm (hI.later hb) hL
              simp only [hld.1] at hlead
              unfold cptr at hlead
              have h0 : (D.p 0).up = true ∧ (cl.propsL (cl.txT (cl.clamp texts)) j (cl.a30 n)).1[0]? = some (D.p 0).x := hL.p 0 (by rw [hI.cn]; exact HNN.out.1)
              have hr0 : (D.p 0).x.role = 2 := by
                have e := hld.2
                rw [List.getElem?_map, h0.2] at e
                exact Option.some.inj e
              have hprop := fun W (hb : Below wr.heap.size wr W) => propose_calm t h100 (hI.later hb) (HBD.out _ (by have := HL20.out; omega)) HT1.out HNN.out.1 h0.1 hr0
              have hlp := cl.like_propose (t := t) hL (by rw [hI.cn]; exact HNN.out.1)
              have hnx : cl.propL 0 t (cl.propsL (cl.txT (cl.clamp texts)) j (cl.a30 n)) = cl.propsL (cl.txT (cl.clamp texts)) (j + 1) (cl.a30 n) := by
                show _ = cl.propL 0 (cl.txT (cl.clamp texts) j) _
                rw [cl.clamp_get (by rw [HTT.out]; exact h100), HTT.out]
              rw [hnx] at hlp
              unfold cptr at hprop
              rw [show ((0 : Nat) : Int) = 0 from rfl] at hprop
              have HPR := Lib.hid hprop
              have HLP := Lib.hid hlp
              have HLD := Lib.hid hlead
              have H100 := Lib.hid h100
              clear hI hL hlead hprop hlp h0 hr0 hlt hj h100 hld hnx HSH1
              go_upto_region 16 with fail
              have hW : Below wr.heap.size wr wr.drew := below_drewN (Below.refl _ wr) 1
              go_region_held3 (fun w' => w'.cell? (ad.add j) = some (.string (crcm.mk t))) (first | exact MK2.out _ hI6.bel | exact MK.out _ hW) (first | (go_at_call 14; refine (HLD.out _ hW).mono ?_; rintro e w5 ⟨rfl, hb5⟩; have hW := hW.trans (hb5.mono hW.size)) | (go_at_call 13; refine (HPR.out _ hW).mono ?_; rintro e w6 ⟨rfl, hI6⟩))
              have HI6 := Lib.hid hI6
              clear hI6 hb5 hW HPR HLD MK MK2
              go_wp2_with fail
              go_roundw
              case rel => exact ⟨j + 1, _, HLT.out, by go_num, fun q hq => by
                rcases Nat.lt_succ_iff_lt_or_eq.1 hq with h1 | h1
                · exact HALL.out q h1
                · rw [h1, HTT.out]; exact H100.out, by rw [← Nat.add_assoc]; exact HI6.out, HLP.out⟩
              case measure => have := HLT.out; simp [intOf]; omega
            · have hb : decide ((100 : Int) < (t.length : Int)) = true := decide_eq_true (by omega)
              clear hI hL h100 hlt hj
              go_wp2_with (go_at_call 10; refine HSH1.out.mono ?_; rintro e w5 ⟨rfl, hb5⟩; have HB5 := Lib.hid hb5; clear hb5)
              go_ret
              exact ⟨rfl, HBW.out.trans (HB5.out.mono HBW.out.size)⟩
          · obtain rfl : j = L := by omega
            have hlogs := cl.agree_logs (cl.clamp texts) (cl.clamp_ok texts) (k := j) HNN.out.1 HNN.out.2 HL20.out
            have hag := cl.agreed_get (texts := texts) (by rw [HLL.out]; exact HALL.out)
            rw [HLL.out] at hag
            rw [hag] at hlogs
            have hI2 := hI.mono (M' := 170) (by have := HL20.out; omega)
            have HI := Lib.hid (And.intro hI2 hL)
            have HLG := Lib.hid hlogs
            clear hI hI2 hL hlogs hag hlt hj hwj HALL
            go_upto_region 20 with fail
            go_loopw [12] (fun i wx => ∃ (m : Nat) (C : cl.Clu), m ≤ 6 ∧ i = .int .i64 m ∧ Calm 5000000 w1 c n (170 + m * n) C wx ∧ cl.Like C (cl.roundsL n m (cl.propsL (cl.txT (cl.clamp texts)) j (cl.a30 n)))) (fun i _ => 6 - (intOf i).toNat)
            case atStart => exact ⟨0, D, Nat.zero_le _, rfl, by rw [Nat.zero_mul]; exact HI.out.1, HI.out.2⟩
            case round =>
              obtain ⟨m, E, hm, rfl, hI, hL⟩ := hrel
              have hwm : IntKind.i64.wrap ((m : Int) + 1) = (m : Int) + 1 := by rw [IntKind.wrap_i64]; omega
              have hn5 := HNN.out.2
              have hmn : m * n ≤ 30 := Nat.le_trans (Nat.mul_le_mul hm hn5) (by decide)
              clear HI
              by_cases hlt : m < 6
              · have hltI : (m : Int) < 6 := by omega
                have hcall := round_calm hI hL (HBD.out _ (by omega)) HT1.out
                unfold cptr at hcall
                have HCALL := Lib.hid hcall
                have HLT := Lib.hid hlt
                clear hI hL hcall hlt hm hn5 hmn
                go_wp2_with (go_at_call 12; refine HCALL.out.mono ?_; rintro e w2 ⟨rfl, C2, hI2, hL2⟩; have HI2 := Lib.hid (And.intro hI2 hL2); clear hI2 hL2)
                go_roundw
                case rel => exact ⟨m + 1, C2, HLT.out, by go_num, by rw [Nat.succ_mul, ← Nat.add_assoc]; exact HI2.out.1, HI2.out.2⟩
                case measure => have := HLT.out; simp [intOf]; omega
              · obtain rfl : m = 6 := by omega
                have hlog : ∀ i, i < n → shownLog E i = (1, []) :: texts.map fun t => (1, t) := fun i hi => by
                  obtain ⟨h1, h2⟩ := hL.p i (by rw [hI.cn]; exact hi)
                  unfold shownLog
                  rw [if_pos h1]
                  have e := congrArg (fun l => l[i]?) HLG.out
                  simp only [List.getElem?_map, h2, List.getElem?_replicate, if_pos hi] at e
                  injection e with e
                have hI2 := hI.mono (M' := 200) (by omega)
                have HI := Lib.hid hI2
                have HLOG := Lib.hid hlog
                clear hI hI2 hL hlog hlt hm hwm hn5 hmn HLG
                go_upto_region 24 with fail
                (try rw [show ((6 : Nat) : Int) = 6 from rfl])
                go_loopw [13] (fun i wx => ∃ q : Nat, q ≤ n ∧ i = .int .i64 q ∧ Calm 5000000 w1 c n 200 E wx) (fun i _ => n - (intOf i).toNat)
                case atStart => exact ⟨0, Nat.zero_le _, rfl, HI.out⟩
                case round =>
                  obtain ⟨q, hq, rfl, hI⟩ := hrel
                  have hwq : IntKind.i64.wrap ((q : Int) + 1) = (q : Int) + 1 := by rw [IntKind.wrap_i64]; have := HNN.out; omega
                  clear HI
                  by_cases hlt : q < n
                  · have hltI : (q : Int) < (n : Int) := by omega
                    have hcall := committed_calm (i := q) hI (HBD.out _ (by decide)) hlt
                    rw [HLOG.out q hlt] at hcall
                    unfold cptr at hcall
                    have HCALL := Lib.hid hcall
                    have HLT := Lib.hid hlt
                    have HI2 := Lib.hid hI
                    obtain ⟨lg, hlg⟩ : ∃ l, ((1, []) :: texts.map fun t => (1, t) : List rl.Ent) = l := ⟨_, rfl⟩
                    have hlen : lg.length = j + 1 := by rw [← hlg, List.length_cons, List.length_map, HLL.out]
                    rw [hlg, hlen] at HCALL
                    have HLGE := Lib.hid (And.intro hlg hlen)
                    clear hI hcall hlt hq hlg hlen
                    go_upto_region 27 with (go_at_call 15; refine HCALL.out.mono ?_; rintro e w2 ⟨D, d, rfl, hown, hb2⟩; have HO := Lib.hid (And.intro hown hb2); clear hown hb2)
                    have hE2 : EntsB 0 w2 (.slice D lg.length d) lg := EntsB.of_owns (by rw [HLGE.out.2]; exact HO.out.1)
                    obtain ⟨D', d', hv2, hdl, _, hcells⟩ := hE2.1
                    obtain ⟨e1, e3⟩ : D = D' ∧ d = d' := by injection hv2 with e1 _ e3; exact ⟨e1, e3⟩
                    subst e1 e3
                    obtain ⟨b, o, hDe, hEA⟩ := hcells (by rw [HLGE.out.2]; exact Nat.succ_pos _)
                    subst hDe
                    have hjd : (j : Int) + 1 ≤ (d : Int) := by rw [HLGE.out.2] at hdl; omega
                    have HEA : Hid (∀ m, m < j + 1 → w2.cell? ⟨b, o + m * 2 + 1, none⟩ = some (.string (crcm.mk (lg.getD m rl.e0).2))) := Lib.hid fun m hm => (hEA m (by rw [HLGE.out.2]; exact hm)).2
                    have HS0 : Hid ((lg.getD 0 rl.e0).2 = [] ∧ ∀ m, (lg.getD (m + 1) rl.e0).2 = texts.getD m []) := Lib.hid (by rw [← HLGE.out.1]; exact ⟨rfl, cl.agreed_at texts⟩)
                    have HBE : Hid (Below w.heap.size w w2) := Lib.hid ((HB1.out.trans (HI2.out.bel.mono HB1.out.size)).trans (HO.out.2.mono (HB1.out.trans (HI2.out.bel.mono HB1.out.size)).size))
                    have HO2 := Lib.hid HO.out.2
                    obtain ⟨z, hz⟩ : ∃ z, j + 1 = z := ⟨_, rfl⟩
                    have hzI : (j : Int) + 1 = (z : Int) := by omega
                    rw [hz] at HEA
                    rw [hzI] at hjd
                    rw [hz]
                    have HZ := Lib.hid hz
                    clear hE2 hv2 hdl hcells hEA HO HCALL hz hzI
                    go_upto_region 29 with fail
                    go_loopw [15, 16] (fun k i wx => ∃ m k' : Nat, m ≤ z ∧ i = .int .i64 m ∧ k = .int .i64 k' ∧ k' = m - 1 ∧ Below w2.heap.size w2 wx) (fun _ i _ => z - (intOf i).toNat)
                    case atStart => exact ⟨0, 0, Nat.zero_le _, rfl, rfl, rfl, Below.refl _ _⟩
                    case round =>
                      obtain ⟨m, k, hm, rfl, rfl, hkm, hbw⟩ := hrel
                      have hwm : IntKind.i64.wrap ((m : Int) + 1) = (m : Int) + 1 := wrap_i64_in (by omega) (by have := HZ.out; have := HL20.out; omega)
                      have hwk : IntKind.i64.wrap ((k : Int) + 1) = (k : Int) + 1 := wrap_i64_in (by omega) (by have := HZ.out; have := HL20.out; omega)
                      have HBW := Lib.hid hbw
                      by_cases hlt : m < z
                      · have hltI : (m : Int) < (z : Int) := by omega
                        have hiN : decide (m < z) = true := decide_eq_true hlt
                        have hi1 : decide ((m : Int) < (z : Int)) = true := decide_eq_true hltI
                        have x1 := cell_later hbw (HEA.out m hlt)
                        obtain ⟨s, hs⟩ : ∃ s, (lg.getD m rl.e0).2 = s := ⟨_, rfl⟩
                        rw [hs] at x1
                        have hms : (crcm.mk s).toList = s := mk_toL s
                        by_cases hk : k < j
                        · have hkI : (k : Int) < (j : Int) := by omega
                          have hi2 : decide ((k : Int) < (j : Int)) = true := decide_eq_true hkI
                          have hi2N : decide (k < j) = true := decide_eq_true hk
                          obtain ⟨ad, rfl, y0⟩ := HAC.out k hk
                          have y1 := cell_later hbw (cell_later HBE.out y0)
                          obtain ⟨t, htt⟩ : ∃ t, texts.getD k [] = t := ⟨_, rfl⟩
                          rw [htt] at y1
                          have hmt : (crcm.mk t).toList = t := mk_toL t
                          by_cases hm0 : m = 0
                          · have es : s = [] := by rw [← hs, hm0]; exact HS0.out.1
                            subst es
                            have f1 : (([] : List UInt8) == []) = true := rfl
                            have hm1 : decide ((0 : Int) < (m : Int)) = false := decide_eq_false (by omega)
                            have hm1N : decide (0 < m) = false := decide_eq_false (by omega)
                            have hm0I : ¬ (0 : Int) < (m : Int) := by omega
                            have HLM := Lib.hid (And.intro hlt (And.intro hkm hm0))
                            by_cases hte : t = []
                            · subst hte
                              clear hbw hs htt y0 hlt hk hkm hm hm0
                              go_upto_region 31 with fail
                              go_quiet (fail)
                              go_wp2_with fail
                              go_roundw
                              case rel => exact ⟨m + 1, k, HLM.out.1, by go_num, rfl, by have := HLM.out; omega, below_drewN HBW.out _⟩
                              case measure => have := HLM.out; simp [intOf]; omega
                            · have f2 : (([] : List UInt8) == t) = false := by rw [beq_eq_false_iff_ne]; exact fun e => hte e.symm
                              have f3 : (t == ([] : List UInt8)) = false := by rw [beq_eq_false_iff_ne]; exact hte
                              clear hbw hs htt y0 hlt hk hkm hm hm0 hte
                              go_upto_region 31 with fail
                              go_quiet (fail)
                              go_wp2_with fail
                              go_roundw
                              case rel => exact ⟨m + 1, k, HLM.out.1, by go_num, rfl, by have := HLM.out; omega, below_drewN HBW.out _⟩
                              case measure => have := HLM.out; simp [intOf]; omega
                          · have es : s = t := by
                              obtain ⟨p, rfl⟩ : ∃ p, m = p + 1 := ⟨m - 1, by omega⟩
                              rw [← hs, HS0.out.2 p, ← htt, hkm]
                              rfl
                            subst es
                            have f1 : (s == s) = true := by simp
                            have hm1 : decide ((0 : Int) < (m : Int)) = true := decide_eq_true (by omega)
                            have hm1N : decide (0 < m) = true := decide_eq_true (by omega)
                            have hm0I : (0 : Int) < (m : Int) := by omega
                            have HLM := Lib.hid (And.intro hlt (And.intro hkm hm0))
                            cases hte : decide (s = []) with
                            | true =>
                              have hte := of_decide_eq_true hte
                              subst hte
                              clear hbw hs htt y0 hlt hk hkm hm hm0
                              go_upto_region 31 with fail
                              go_quiet (fail)
                              go_wp2_with fail
                              go_roundw
                              case rel => exact ⟨m + 1, k + 1, HLM.out.1, by go_num, by go_num, by have := HLM.out; omega, below_drewN HBW.out _⟩
                              case measure => have := HLM.out; simp [intOf]; omega
                            | false =>
                              have hte := of_decide_eq_false hte
                              have f2 : (([] : List UInt8) == s) = false := by rw [beq_eq_false_iff_ne]; exact fun e => hte e.symm
                              have f3 : (s == ([] : List UInt8)) = false := by rw [beq_eq_false_iff_ne]; exact hte
                              clear hbw hs htt y0 hlt hk hkm hm hm0 hte
                              go_upto_region 31 with fail
                              go_quiet (fail)
                              go_wp2_with fail
                              go_roundw
                              case rel => exact ⟨m + 1, k + 1, HLM.out.1, by go_num, by go_num, by have := HLM.out; omega, below_drewN HBW.out _⟩
                              case measure => have := HLM.out; simp [intOf]; omega
                        · have hi2 : decide ((k : Int) < (j : Int)) = false := decide_eq_false (by omega)
                          have hi2N : decide (k < j) = false := decide_eq_false hk
                          have hm0 : m = 0 := by have := HZ.out; omega
                          have es : s = [] := by rw [← hs, hm0]; exact HS0.out.1
                          subst es
                          have f1 : (([] : List UInt8) == []) = true := rfl
                          have HLM := Lib.hid (And.intro hlt (And.intro hkm hm0))
                          have hkI : ¬ (k : Int) < (j : Int) := by omega
                          clear hbw hs hlt hk hkm hm hm0

                          go_upto_region 31 with fail
                          go_quiet (fail)
                          go_wp2_with fail
                          go_roundw
                          case rel => exact ⟨m + 1, k, HLM.out.1, by go_num, rfl, by have := HLM.out; omega, below_drewN HBW.out _⟩
                          case measure => have := HLM.out; simp [intOf]; omega
                      · have hme : m = z := by omega
                        have hkj : k = j := by have := HZ.out; omega
                        subst hkj
                        have hiN : decide (m < z) = false := decide_eq_false hlt
                        have hi1 : decide ((m : Int) < (z : Int)) = false := decide_eq_false (by omega)
                        have g1 : ((k : Int) == (k : Int)) = true := by simp
                        clear hbw hlt hkm hm hme
                        go_wp2_with fail
                        go_roundw
                        case rel => exact ⟨q + 1, HLT.out, by go_num, HI2.out.later (HO2.out.trans (HBW.out.mono HO2.out.size))⟩
                        case measure => have := HLT.out; simp [intOf]; omega
                  · obtain rfl : q = n := by omega
                    have hbel := hI.bel
                    have HBEL := Lib.hid hbel
                    clear hI hbel hlt hq hwq
                    go_wp2_with fail
                    go_ret
                    exact ⟨rfl, HB1.out.trans (HBEL.out.mono HB1.out.size)⟩
end Go.Proofs.YtmcibggjolckoaaGreatDoor
