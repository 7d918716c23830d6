/-
  No cell of these rows narrows 'for every input' (looked for: loops, veiled, ifaces, maps, wideKeys, modest, calm, conditions, laid).
  DERIVED. THE GIVEN ROWS OF THIS SEAT. 5 by the template 'for every input the law returns true; each argument reads behind the call as it read before'; 0 by the template 'total and deterministic' (their statements: YtgaamknkigdoeaaTotals.lean).
  GIVEN WITH THE SEED: the statements are not yours to turn. If you find one false, say at which input.
  Laid BY PROGRAM, IN A SANDBOX (cutbox-rows.mjs): the forced cells as the released guide's own fill.sh prints them over the translation eaebff7f6a21acd8… (all of the seat's roots in one cut). By AI agents, Wed Nov 11 2026. No macro, syntax, notation, axiom, sorry.
-/
import Derived.Test.YtgaamknkigdoeaaChecked
import GoSem.Claim
import GoSem.ClaimJoined
import GoSem.ClaimMapViews
import Derived.JoinedTies
import Derived.KernelRfl
namespace Go.Proofs.Ytgaamknkigdoeaa
/- THE CELL 'sum', in the pinned program and in every row, IS THE sha256 OF THE DUMP (.gsa) THAT YtgaamknkigdoeaaProg.lean LOADS. Nothing in Lean hashes anything: it is a label: what it is worth is what the hold of that sum in a sandbox is worth. -/
noncomputable def Try.pinned : Pinned := { name := "ytgaamknkigdoeaa", sum := "eaebff7f6a21acd86e05487a0fdfc0f45e8a43784bee7ca2a3384b4c229de97e", checked := Try.checked }
namespace Rows
def none {H : Type} : Left H := { results := [], args := [] }

/-- 'rickyardlaw16.RaftlogMatches': WHATEVER THE INPUT: true; the input reads as it did. -/
def raftlogMatchesSpec : ChangeSpec := { name := "raftlogMatches", fn := fun _ => fun
  | [d1, d2, d3] => { results := [.lit (.bool true)], args := [d1, d2, d3] }
  | _ => none }
def raftlogMatchesRow : OpenClaim := { program := "ytgaamknkigdoeaa", sum := "eaebff7f6a21acd86e05487a0fdfc0f45e8a43784bee7ca2a3384b4c229de97e", func := "rickyard/rickyardlaw16.RaftlogMatches", spec := "raftlogMatches", unfollowed := true, recurses := true, apart := false }
def RaftlogMatchesSaid : Prop := raftlogMatchesRow.holds Try.pinned (OpenSpec.ofChange raftlogMatchesSpec)

/-- ITS FALSE NEIGHBOUR: 'it returns false'. Refute it at one input. -/
def raftlogMatchesWrong : ChangeSpec := { name := "raftlogMatches", fn := fun _ => fun
  | [d1, d2, d3] => { results := [.lit (.bool false)], args := [d1, d2, d3] }
  | _ => none }
def RaftlogMatchesWrongFalsely : Prop := raftlogMatchesRow.holds Try.pinned (OpenSpec.ofChange raftlogMatchesWrong)

/-- 'rickyardlaw16.RaftlogNone': WHATEVER THE INPUT: true; the input reads as it did. -/
def raftlogNoneSpec : ChangeSpec := { name := "raftlogNone", fn := fun _ => fun
  | [d1, d2, d3] => { results := [.lit (.bool true)], args := [d1, d2, d3] }
  | _ => none }
def raftlogNoneRow : OpenClaim := { program := "ytgaamknkigdoeaa", sum := "eaebff7f6a21acd86e05487a0fdfc0f45e8a43784bee7ca2a3384b4c229de97e", func := "rickyard/rickyardlaw16.RaftlogNone", spec := "raftlogNone", unfollowed := true, recurses := true, apart := false }
def RaftlogNoneSaid : Prop := raftlogNoneRow.holds Try.pinned (OpenSpec.ofChange raftlogNoneSpec)

/-- ITS FALSE NEIGHBOUR: 'it returns false'. Refute it at one input. -/
def raftlogNoneWrong : ChangeSpec := { name := "raftlogNone", fn := fun _ => fun
  | [d1, d2, d3] => { results := [.lit (.bool false)], args := [d1, d2, d3] }
  | _ => none }
def RaftlogNoneWrongFalsely : Prop := raftlogNoneRow.holds Try.pinned (OpenSpec.ofChange raftlogNoneWrong)

/-- 'rickyardlaw16.RaftlogTells': WHATEVER THE INPUT: true; the input reads as it did. -/
def raftlogTellsSpec : ChangeSpec := { name := "raftlogTells", fn := fun _ => fun
  | [d1, d2, d3, d4, d5, d6] => { results := [.lit (.bool true)], args := [d1, d2, d3, d4, d5, d6] }
  | _ => none }
def raftlogTellsRow : OpenClaim := { program := "ytgaamknkigdoeaa", sum := "eaebff7f6a21acd86e05487a0fdfc0f45e8a43784bee7ca2a3384b4c229de97e", func := "rickyard/rickyardlaw16.RaftlogTells", spec := "raftlogTells", unfollowed := true, recurses := true, apart := false }
def RaftlogTellsSaid : Prop := raftlogTellsRow.holds Try.pinned (OpenSpec.ofChange raftlogTellsSpec)

/-- ITS FALSE NEIGHBOUR: 'it returns false'. Refute it at one input. -/
def raftlogTellsWrong : ChangeSpec := { name := "raftlogTells", fn := fun _ => fun
  | [d1, d2, d3, d4, d5, d6] => { results := [.lit (.bool false)], args := [d1, d2, d3, d4, d5, d6] }
  | _ => none }
def RaftlogTellsWrongFalsely : Prop := raftlogTellsRow.holds Try.pinned (OpenSpec.ofChange raftlogTellsWrong)

/-- 'rickyardlaw16.RaftlogNewer': WHATEVER THE INPUT: true; the input reads as it did. -/
def raftlogNewerSpec : ChangeSpec := { name := "raftlogNewer", fn := fun _ => fun
  | [d1, d2] => { results := [.lit (.bool true)], args := [d1, d2] }
  | _ => none }
def raftlogNewerRow : OpenClaim := { program := "ytgaamknkigdoeaa", sum := "eaebff7f6a21acd86e05487a0fdfc0f45e8a43784bee7ca2a3384b4c229de97e", func := "rickyard/rickyardlaw16.RaftlogNewer", spec := "raftlogNewer", unfollowed := true, recurses := true, apart := false }
def RaftlogNewerSaid : Prop := raftlogNewerRow.holds Try.pinned (OpenSpec.ofChange raftlogNewerSpec)

/-- ITS FALSE NEIGHBOUR: 'it returns false'. Refute it at one input. -/
def raftlogNewerWrong : ChangeSpec := { name := "raftlogNewer", fn := fun _ => fun
  | [d1, d2] => { results := [.lit (.bool false)], args := [d1, d2] }
  | _ => none }
def RaftlogNewerWrongFalsely : Prop := raftlogNewerRow.holds Try.pinned (OpenSpec.ofChange raftlogNewerWrong)

/-- 'rickyardlaw16.RaftlogTexts': WHATEVER THE INPUT: true; the input reads as it did. -/
def raftlogTextsSpec : ChangeSpec := { name := "raftlogTexts", fn := fun _ => fun
  | [d1, d2] => { results := [.lit (.bool true)], args := [d1, d2] }
  | _ => none }
def raftlogTextsRow : OpenClaim := { program := "ytgaamknkigdoeaa", sum := "eaebff7f6a21acd86e05487a0fdfc0f45e8a43784bee7ca2a3384b4c229de97e", func := "rickyard/rickyardlaw16.RaftlogTexts", spec := "raftlogTexts", unfollowed := true, recurses := true, apart := false }
def RaftlogTextsSaid : Prop := raftlogTextsRow.holds Try.pinned (OpenSpec.ofChange raftlogTextsSpec)

/-- ITS FALSE NEIGHBOUR: 'it returns false'. Refute it at one input. -/
def raftlogTextsWrong : ChangeSpec := { name := "raftlogTexts", fn := fun _ => fun
  | [d1, d2] => { results := [.lit (.bool false)], args := [d1, d2] }
  | _ => none }
def RaftlogTextsWrongFalsely : Prop := raftlogTextsRow.holds Try.pinned (OpenSpec.ofChange raftlogTextsWrong)

/- THE SECOND FORM. 'bulk': how many values and letters a reading holds, each counted each time it is reached (what is shared counts as often as it is met; a slice's spare places count too). A statement '..UptoSaid' is the law's where the arguments, and the package variables that the reading takes, are together of bulk at most 1048576: NARROWER than '..Said'. Prove '..Said' where nothing that the law and all that it calls make is longer than what came in: it says more and counts as full. Else prove '..UptoSaid'. A law counts once. -/
mutual
def uptoBulk {H : Type} : DataW H → Nat
  | .lit (.string bytes) => bytes.length + 1
  | .lit _ => 1
  | .nil => 1
  | .ptr d => uptoBulk d + 1
  | .slice elems spare => uptoBulkAll elems + uptoBulkAll spare + 1
  | .agg parts => uptoBulkAll parts + 1
  | .iface _ d => uptoBulk d + 1
  | .map entries => uptoBulkEntries entries + 1
  | .held _ => 1
def uptoBulkAll {H : Type} : List (DataW H) → Nat
  | [] => 0
  | d :: r => uptoBulk d + uptoBulkAll r
def uptoBulkEntries {H : Type} : List (Lit × DataW H) → Nat
  | [] => 0
  | x :: r => uptoBulkEntry x + uptoBulkEntries r
def uptoBulkEntry {H : Type} : Lit × DataW H → Nat
  | (.string bytes, d) => bytes.length + uptoBulk d + 1
  | (_, d) => uptoBulk d + 1
 end
def uptoSmall : (H : Type) → List (DataW H) → Bool := fun _ ds => decide (uptoBulkAll ds ≤ 1048576)
def OpenSpec.upto (s : _root_.Go.ChangeSpec) : _root_.Go.OpenSpec := { _root_.Go.OpenSpec.ofChange s with cond := some uptoSmall }

/-- 'rickyardlaw16.RaftlogMatches', WHERE WHAT IT READS IS OF BULK AT MOST 1048576: true; the input reads as it did. -/
def raftlogMatchesUptoRow : OpenClaim := { program := "ytgaamknkigdoeaa", sum := "eaebff7f6a21acd86e05487a0fdfc0f45e8a43784bee7ca2a3384b4c229de97e", func := "rickyard/rickyardlaw16.RaftlogMatches", spec := "raftlogMatches", unfollowed := true, recurses := true, apart := false, narrowed := true }
def RaftlogMatchesUptoSaid : Prop := raftlogMatchesUptoRow.holds Try.pinned (OpenSpec.upto raftlogMatchesSpec)

/-- 'rickyardlaw16.RaftlogNone', WHERE WHAT IT READS IS OF BULK AT MOST 1048576: true; the input reads as it did. -/
def raftlogNoneUptoRow : OpenClaim := { program := "ytgaamknkigdoeaa", sum := "eaebff7f6a21acd86e05487a0fdfc0f45e8a43784bee7ca2a3384b4c229de97e", func := "rickyard/rickyardlaw16.RaftlogNone", spec := "raftlogNone", unfollowed := true, recurses := true, apart := false, narrowed := true }
def RaftlogNoneUptoSaid : Prop := raftlogNoneUptoRow.holds Try.pinned (OpenSpec.upto raftlogNoneSpec)

/-- 'rickyardlaw16.RaftlogTells', WHERE WHAT IT READS IS OF BULK AT MOST 1048576: true; the input reads as it did. -/
def raftlogTellsUptoRow : OpenClaim := { program := "ytgaamknkigdoeaa", sum := "eaebff7f6a21acd86e05487a0fdfc0f45e8a43784bee7ca2a3384b4c229de97e", func := "rickyard/rickyardlaw16.RaftlogTells", spec := "raftlogTells", unfollowed := true, recurses := true, apart := false, narrowed := true }
def RaftlogTellsUptoSaid : Prop := raftlogTellsUptoRow.holds Try.pinned (OpenSpec.upto raftlogTellsSpec)

/-- 'rickyardlaw16.RaftlogNewer', WHERE WHAT IT READS IS OF BULK AT MOST 1048576: true; the input reads as it did. -/
def raftlogNewerUptoRow : OpenClaim := { program := "ytgaamknkigdoeaa", sum := "eaebff7f6a21acd86e05487a0fdfc0f45e8a43784bee7ca2a3384b4c229de97e", func := "rickyard/rickyardlaw16.RaftlogNewer", spec := "raftlogNewer", unfollowed := true, recurses := true, apart := false, narrowed := true }
def RaftlogNewerUptoSaid : Prop := raftlogNewerUptoRow.holds Try.pinned (OpenSpec.upto raftlogNewerSpec)

/-- 'rickyardlaw16.RaftlogTexts', WHERE WHAT IT READS IS OF BULK AT MOST 1048576: true; the input reads as it did. -/
def raftlogTextsUptoRow : OpenClaim := { program := "ytgaamknkigdoeaa", sum := "eaebff7f6a21acd86e05487a0fdfc0f45e8a43784bee7ca2a3384b4c229de97e", func := "rickyard/rickyardlaw16.RaftlogTexts", spec := "raftlogTexts", unfollowed := true, recurses := true, apart := false, narrowed := true }
def RaftlogTextsUptoSaid : Prop := raftlogTextsUptoRow.holds Try.pinned (OpenSpec.upto raftlogTextsSpec)

end Rows
end Go.Proofs.Ytgaamknkigdoeaa
