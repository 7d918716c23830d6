/- A node as plain numbers and lists: what a tick, a message, and what is proposed do to it. No program in sight. -/
import Derived.Test.YtkoidphhlfjlhaaRlText
namespace Go.Proofs.Ytkoidphhlfjlhaa
namespace rf
open rl (Ent e0)
structure Node where
  id : Int
  many : Int
  term : Nat
  vote : Int
  log : List Ent
  role : Int
  lead : Int
  commit : Nat
  idle : Int
  votes : List Bool
  next : List Nat
  mat : List Nat
structure Msg where
  kind : Int
  frm : Int
  dst : Int
  term : Nat
  index : Nat
  at_ : Nat
  commit : Nat
  ents : List Ent
  ok : Bool
def msg0 : Msg := ⟨0, 0, 0, 0, 0, 0, 0, [], false⟩
def new (id many : Int) (term : Nat) (vote : Int) (log : List Ent) : Node := ⟨id, many, term, vote, log, 0, -1, 0, 0, List.replicate 7 false, List.replicate 7 0, List.replicate 7 0⟩
/-- how many nodes there are -/
def size (n : Node) : Nat := (min n.many 7).toNat
def others (n : Node) : List Nat := (List.range (size n)).filter fun j => (j : Int) != n.id
def stamp (n : Node) (m : Msg) : Msg := { m with frm := n.id, term := n.term }
def back (n : Node) (t : Nat) : Node := if n.term < t then { n with role := 0, lead := -1, term := t, vote := -1 } else { n with role := 0, lead := -1 }
def nextOf (n : Node) (to : Nat) : Nat := min (max (n.next.getD to 0) 1) (n.log.length + 1)
def putMsg (n : Node) (to : Nat) : Msg :=
  { msg0 with kind := 3, dst := (to : Int), index := nextOf n to - 1, at_ := (rl.termAt n.log (nextOf n to - 1)).1, commit := n.commit, ents := (n.log.drop (nextOf n to - 1)).take 20 }
def puts (n : Node) : List Msg := (others n).map fun j => stamp n (putMsg n j)
def count (n : Node) (p : Nat → Bool) : Nat := ((List.range (size n)).filter p).length
def majority (n : Node) (p : Nat → Bool) : Bool := decide (n.many < 2 * (count n p : Int))
/-- the highest number up to i that a majority has, in this term -/
def tallyAt (n : Node) : Nat → Node
  | 0 => n
  | i + 1 => if n.commit < i + 1 then (if (rl.termAt n.log (i + 1)).1 == n.term && majority n (fun k => decide (i + 1 ≤ n.mat.getD k 0)) then { n with commit := i + 1 } else tallyAt n i) else n
def tally (n : Node) : Node := tallyAt n n.log.length
/-- an entry more, of its own -/
def grown (n : Node) (text : List UInt8) : Node :=
  { n with log := n.log ++ [(n.term, text)], mat := n.mat.set n.id.toNat (n.log.length + 1), next := n.next.set n.id.toNat (n.log.length + 1 + 1) }
def add (n : Node) (text : List UInt8) : Node × List Msg := (tally (grown n text), puts (tally (grown n text)))
def led (n : Node) : Node := { n with role := 2, lead := n.id, idle := 0, next := List.replicate 7 (n.log.length + 1), mat := List.replicate 7 0 }
def lead (n : Node) : Node × List Msg := add (led n) []
def elected (n : Node) : Bool := majority n fun k => n.votes.getD k false
def voted (n : Node) (i : Int) : Node × List Msg :=
  if 0 ≤ i ∧ i < 7 then (if elected { n with votes := n.votes.set i.toNat true } then lead { n with votes := n.votes.set i.toNat true } else ({ n with votes := n.votes.set i.toNat true }, [])) else (n, [])
def stood (n : Node) : Node := { n with idle := 0, role := 1, lead := -1, term := (n.term + 1) % 18446744073709551616, vote := n.id, votes := List.replicate 7 false }
def asks (n : Node) : List Msg := (others n).map fun (j : Nat) => stamp n { msg0 with kind := 1, dst := (j : Int), index := n.log.length, at_ := rl.lastTerm n.log }
def stand (n : Node) : Node × List Msg :=
  if (voted (stood n) n.id).1.role = 2 then voted (stood n) n.id else ((voted (stood n) n.id).1, (voted (stood n) n.id).2 ++ asks (voted (stood n) n.id).1)
def tick (n : Node) : Node × List Msg :=
  if n.role = 2 then (if 3 ≤ n.idle + 1 then ({ n with idle := 0 }, puts { n with idle := 0 }) else ({ n with idle := n.idle + 1 }, []))
  else (if 10 + 3 * n.id ≤ n.idle + 1 then stand { n with idle := n.idle + 1 } else ({ n with idle := n.idle + 1 }, []))
def askOk (n : Node) (m : Msg) : Bool := decide (m.term = n.term) && (decide (n.vote = -1) || decide (n.vote = m.frm)) && rl.newer n.log m.at_ m.index
def ask (n : Node) (m : Msg) : Node × List Msg :=
  if askOk n m then ({ n with vote := m.frm, idle := 0 }, [stamp n { msg0 with kind := 2, dst := m.frm, ok := true }]) else (n, [stamp n { msg0 with kind := 2, dst := m.frm }])
def vote (n : Node) (m : Msg) : Node × List Msg := if n.role = 1 ∧ m.term = n.term ∧ m.ok = true then voted n m.frm else (n, [])
def taken (n : Node) (m : Msg) : Node := { back n m.term with lead := m.frm, idle := 0 }
def put (n : Node) (m : Msg) : Node × List Msg :=
  if m.term < n.term then (n, [stamp n { msg0 with kind := 4, dst := m.frm }])
  else match rl.match_ (taken n m).log m.index m.at_ m.ents with
    | (l, at_, 0) => ({ taken n m with log := l, commit := max n.commit (min m.commit at_) }, [stamp (taken n m) { msg0 with kind := 4, dst := m.frm, ok := true, index := at_ }])
    | _ => (taken n m, [stamp (taken n m) { msg0 with kind := 4, dst := m.frm, index := (taken n m).log.length }])
/-- what a leader hears: how far a node's log goes along with its own -/
def heardYes (n : Node) (k : Nat) (ix : Nat) : Node :=
  { n with mat := n.mat.set k (max (n.mat.getD k 0) (min ix n.log.length)), next := n.next.set k (max (n.mat.getD k 0) (min ix n.log.length) + 1) }
def heardNo (n : Node) (k : Nat) (ix : Nat) : Node :=
  { n with next := n.next.set k (max (min (max (n.next.getD k 0) 1 - 1) (min ix n.log.length + 1)) (n.mat.getD k 0 + 1)) }
def heard (n : Node) (m : Msg) : Node × List Msg :=
  if n.role = 2 ∧ m.term = n.term then
    (if m.ok = true then
      (if (tally (heardYes n m.frm.toNat m.index)).next.getD m.frm.toNat 0 ≤ n.log.length then (tally (heardYes n m.frm.toNat m.index), [stamp n (putMsg (tally (heardYes n m.frm.toNat m.index)) m.frm.toNat)]) else (tally (heardYes n m.frm.toNat m.index), []))
    else (heardNo n m.frm.toNat m.index, [stamp n (putMsg (heardNo n m.frm.toNat m.index) m.frm.toNat)]))
  else (n, [])
/-- is a message for this node? -/
def meant (n : Node) (m : Msg) : Bool := decide (m.dst = n.id) && decide (0 ≤ m.frm) && decide (m.frm < min n.many 7) && decide (m.frm ≠ n.id) && decide (1 ≤ m.kind) && decide (m.kind ≤ 4)
def fresh (n : Node) (m : Msg) : Node := if n.term < m.term then back n m.term else n
def step (n : Node) (m : Msg) : Node × List Msg :=
  if meant n m = true then (if m.kind = 1 then ask (fresh n m) m else if m.kind = 2 then vote (fresh n m) m else if m.kind = 3 then put (fresh n m) m else heard (fresh n m) m) else (n, [])
/-- what is proposed: the node, what it sends, the number, the error -/
def propose (n : Node) (text : List UInt8) : Node × List Msg × Nat × Int :=
  if n.role ≠ 2 ∨ n.id < 0 ∨ 7 ≤ n.id then (n, [], 0, 170) else if 60000 < text.length then (n, [], 0, 71) else ((add n text).1, (add n text).2, n.log.length + 1, 0)
end rf
end Go.Proofs.Ytkoidphhlfjlhaa
