/-
  NARROWER THAN 'FOR EVERY INPUT', by the rows' own cells (each row's printed sentence says how): WalNames: laid · WalMany: laid · WalKeeps: laid · WalResets: laid · WalActs: laid · RaftlogSaves: laid.
  DERIVED. THE GIVEN ROWS OF THIS SEAT. 6 by the template 'for every input the law returns true; each argument reads behind the call as it read before'; 0 by the template 'total and deterministic' (their statements: YtdnoeahhidmkbaaDoorTotals.lean).
  GIVEN WITH THE SEED: the statements are not yours to turn. If you find one false, say at which input.
  Laid BY PROGRAM, IN A SANDBOX (cutbox-rows.mjs): the forced cells as the released guide's own fill.sh prints them over the translation de0d6599fbb96ab5… (all of the seat's roots in one cut). By AI agents, Wed Nov 11 2026. No macro, syntax, notation, axiom, sorry.
-/
import Derived.Test.YtdnoeahhidmkbaaDoorChecked
import GoSem.Claim
import GoSem.ClaimJoined
import GoSem.ClaimMapViews
import Derived.JoinedTies
import Derived.KernelRfl
namespace Go.Proofs.YtdnoeahhidmkbaaDoor
/- THE CELL 'sum', in the pinned program and in every row, IS THE sha256 OF THE DUMP (.gsa) THAT YtdnoeahhidmkbaaDoorProg.lean LOADS. Nothing in Lean hashes anything: it is a label: what it is worth is what the hold of that sum in a sandbox is worth. -/
noncomputable def Tryd.pinned : Pinned := { name := "ytdnoeahhidmkbaadoor", sum := "de0d6599fbb96ab507068765a7d5339516c27d70e9e2ae6fbb0a9e065099dd32", checked := Tryd.checked }
namespace Rows
def none {H : Type} : Left H := { results := [], args := [] }

/- WHAT THE LISTED PACKAGE-LEVEL VARIABLES READ AS WHEN THE CALL BEGINS. Each datum BY PROGRAM (the guide's laid-datum.mjs) off the statement by which the dump's own 'gosem.cut.vars' lays the variable. In a bare row this is a premise. The card (YtdnoeahhidmkbaaDoorCards.lean) ties it to the program's text. -/
def laid_rickyard_crc_four {H : Type} : DataW H := .agg [.lit (.int .u32 0), .lit (.int .u32 498536548), .lit (.int .u32 997073096), .lit (.int .u32 651767980), .lit (.int .u32 1994146192), .lit (.int .u32 1802195444), .lit (.int .u32 1303535960), .lit (.int .u32 1342533948), .lit (.int .u32 3988292384), .lit (.int .u32 4027552580), .lit (.int .u32 3604390888), .lit (.int .u32 3412177804), .lit (.int .u32 2607071920), .lit (.int .u32 2262029012), .lit (.int .u32 2685067896), .lit (.int .u32 3183342108)]

/-- 'rickyardlaw11.WalNames': WHATEVER THE INPUT: true; the input reads as it did. -/
def walNamesSpec : ChangeSpec := { name := "walNames", fn := fun _ => fun
  | [d1, d2, d3, d4] => { results := [.lit (.bool true)], args := [d1, d2, d3, d4] }
  | _ => none }
def walNamesRow : OpenClaim := { program := "ytdnoeahhidmkbaadoor", sum := "de0d6599fbb96ab507068765a7d5339516c27d70e9e2ae6fbb0a9e065099dd32", func := "rickyard/rickyardlaw11.WalNames", spec := "walNames", inPlace := ["internal/abi.NoEscape"], unfollowed := true, recurses := true, named := ["rickyard/crc.four"], apart := false, laid := [("rickyard/crc.four", laid_rickyard_crc_four)] }
def WalNamesSaid : Prop := walNamesRow.holds Tryd.pinned (OpenSpec.ofChange walNamesSpec)

/-- ITS FALSE NEIGHBOUR: 'it returns false'. Refute it at one input. -/
def walNamesWrong : ChangeSpec := { name := "walNames", fn := fun _ => fun
  | [d1, d2, d3, d4] => { results := [.lit (.bool false)], args := [d1, d2, d3, d4] }
  | _ => none }
def WalNamesWrongFalsely : Prop := walNamesRow.holds Tryd.pinned (OpenSpec.ofChange walNamesWrong)

/-- 'rickyardlaw11.WalMany': WHATEVER THE INPUT: true; the input reads as it did. -/
def walManySpec : ChangeSpec := { name := "walMany", fn := fun _ => fun
  | [d] => { results := [.lit (.bool true)], args := [d] }
  | _ => none }
def walManyRow : OpenClaim := { program := "ytdnoeahhidmkbaadoor", sum := "de0d6599fbb96ab507068765a7d5339516c27d70e9e2ae6fbb0a9e065099dd32", func := "rickyard/rickyardlaw11.WalMany", spec := "walMany", inPlace := ["internal/abi.NoEscape"], unfollowed := true, recurses := true, named := ["rickyard/crc.four"], apart := false, laid := [("rickyard/crc.four", laid_rickyard_crc_four)] }
def WalManySaid : Prop := walManyRow.holds Tryd.pinned (OpenSpec.ofChange walManySpec)

/-- ITS FALSE NEIGHBOUR: 'it returns false'. Refute it at one input. -/
def walManyWrong : ChangeSpec := { name := "walMany", fn := fun _ => fun
  | [d] => { results := [.lit (.bool false)], args := [d] }
  | _ => none }
def WalManyWrongFalsely : Prop := walManyRow.holds Tryd.pinned (OpenSpec.ofChange walManyWrong)

/-- 'rickyardlaw11.WalKeeps': WHATEVER THE INPUT: true; the input reads as it did. -/
def walKeepsSpec : ChangeSpec := { name := "walKeeps", fn := fun _ => fun
  | [d] => { results := [.lit (.bool true)], args := [d] }
  | _ => none }
def walKeepsRow : OpenClaim := { program := "ytdnoeahhidmkbaadoor", sum := "de0d6599fbb96ab507068765a7d5339516c27d70e9e2ae6fbb0a9e065099dd32", func := "rickyard/rickyardlaw11.WalKeeps", spec := "walKeeps", inPlace := ["internal/abi.NoEscape"], unfollowed := true, recurses := true, named := ["rickyard/crc.four"], apart := false, laid := [("rickyard/crc.four", laid_rickyard_crc_four)] }
def WalKeepsSaid : Prop := walKeepsRow.holds Tryd.pinned (OpenSpec.ofChange walKeepsSpec)

/-- ITS FALSE NEIGHBOUR: 'it returns false'. Refute it at one input. -/
def walKeepsWrong : ChangeSpec := { name := "walKeeps", fn := fun _ => fun
  | [d] => { results := [.lit (.bool false)], args := [d] }
  | _ => none }
def WalKeepsWrongFalsely : Prop := walKeepsRow.holds Tryd.pinned (OpenSpec.ofChange walKeepsWrong)

/-- 'rickyardlaw11.WalResets': WHATEVER THE INPUT: true; the input reads as it did. -/
def walResetsSpec : ChangeSpec := { name := "walResets", fn := fun _ => fun
  | [d1, d2, d3, d4] => { results := [.lit (.bool true)], args := [d1, d2, d3, d4] }
  | _ => none }
def walResetsRow : OpenClaim := { program := "ytdnoeahhidmkbaadoor", sum := "de0d6599fbb96ab507068765a7d5339516c27d70e9e2ae6fbb0a9e065099dd32", func := "rickyard/rickyardlaw11.WalResets", spec := "walResets", inPlace := ["internal/abi.NoEscape"], unfollowed := true, recurses := true, named := ["rickyard/crc.four"], apart := false, laid := [("rickyard/crc.four", laid_rickyard_crc_four)] }
def WalResetsSaid : Prop := walResetsRow.holds Tryd.pinned (OpenSpec.ofChange walResetsSpec)

/-- ITS FALSE NEIGHBOUR: 'it returns false'. Refute it at one input. -/
def walResetsWrong : ChangeSpec := { name := "walResets", fn := fun _ => fun
  | [d1, d2, d3, d4] => { results := [.lit (.bool false)], args := [d1, d2, d3, d4] }
  | _ => none }
def WalResetsWrongFalsely : Prop := walResetsRow.holds Tryd.pinned (OpenSpec.ofChange walResetsWrong)

/-- 'rickyardlaw11.WalActs': WHATEVER THE INPUT: true; the input reads as it did. -/
def walActsSpec : ChangeSpec := { name := "walActs", fn := fun _ => fun
  | [d1, d2] => { results := [.lit (.bool true)], args := [d1, d2] }
  | _ => none }
def walActsRow : OpenClaim := { program := "ytdnoeahhidmkbaadoor", sum := "de0d6599fbb96ab507068765a7d5339516c27d70e9e2ae6fbb0a9e065099dd32", func := "rickyard/rickyardlaw11.WalActs", spec := "walActs", inPlace := ["internal/abi.NoEscape"], unfollowed := true, recurses := true, named := ["rickyard/crc.four"], apart := false, laid := [("rickyard/crc.four", laid_rickyard_crc_four)] }
def WalActsSaid : Prop := walActsRow.holds Tryd.pinned (OpenSpec.ofChange walActsSpec)

/-- ITS FALSE NEIGHBOUR: 'it returns false'. Refute it at one input. -/
def walActsWrong : ChangeSpec := { name := "walActs", fn := fun _ => fun
  | [d1, d2] => { results := [.lit (.bool false)], args := [d1, d2] }
  | _ => none }
def WalActsWrongFalsely : Prop := walActsRow.holds Tryd.pinned (OpenSpec.ofChange walActsWrong)

/-- 'rickyardlaw16.RaftlogSaves': WHATEVER THE INPUT: true; the input reads as it did. -/
def raftlogSavesSpec : ChangeSpec := { name := "raftlogSaves", fn := fun _ => fun
  | [d1, d2, d3] => { results := [.lit (.bool true)], args := [d1, d2, d3] }
  | _ => none }
def raftlogSavesRow : OpenClaim := { program := "ytdnoeahhidmkbaadoor", sum := "de0d6599fbb96ab507068765a7d5339516c27d70e9e2ae6fbb0a9e065099dd32", func := "rickyard/rickyardlaw16.RaftlogSaves", spec := "raftlogSaves", inPlace := ["internal/abi.NoEscape"], unfollowed := true, recurses := true, named := ["rickyard/crc.four"], apart := false, laid := [("rickyard/crc.four", laid_rickyard_crc_four)] }
def RaftlogSavesSaid : Prop := raftlogSavesRow.holds Tryd.pinned (OpenSpec.ofChange raftlogSavesSpec)

/-- ITS FALSE NEIGHBOUR: 'it returns false'. Refute it at one input. -/
def raftlogSavesWrong : ChangeSpec := { name := "raftlogSaves", fn := fun _ => fun
  | [d1, d2, d3] => { results := [.lit (.bool false)], args := [d1, d2, d3] }
  | _ => none }
def RaftlogSavesWrongFalsely : Prop := raftlogSavesRow.holds Tryd.pinned (OpenSpec.ofChange raftlogSavesWrong)

/- THE SECOND FORM. 'bulk': how many values and letters a reading holds, each counted each time it is reached (what is shared counts as often as it is met; a slice's spare places count too). A statement '..UptoSaid' is the law's where the arguments, and the package variables that the reading takes, are together of bulk at most 1048576: NARROWER than '..Said'. Prove '..Said' where nothing that the law and all that it calls make is longer than what came in: it says more and counts as full. Else prove '..UptoSaid'. A law counts once. -/
mutual
def uptoBulk {H : Type} : DataW H → Nat
  | .lit (.string bytes) => bytes.length + 1
  | .lit _ => 1
  | .nil => 1
  | .ptr d => uptoBulk d + 1
  | .slice elems spare => uptoBulkAll elems + uptoBulkAll spare + 1
  | .agg parts => uptoBulkAll parts + 1
  | .iface _ d => uptoBulk d + 1
  | .map entries => uptoBulkEntries entries + 1
  | .held _ => 1
def uptoBulkAll {H : Type} : List (DataW H) → Nat
  | [] => 0
  | d :: r => uptoBulk d + uptoBulkAll r
def uptoBulkEntries {H : Type} : List (Lit × DataW H) → Nat
  | [] => 0
  | x :: r => uptoBulkEntry x + uptoBulkEntries r
def uptoBulkEntry {H : Type} : Lit × DataW H → Nat
  | (.string bytes, d) => bytes.length + uptoBulk d + 1
  | (_, d) => uptoBulk d + 1
 end
def uptoSmall : (H : Type) → List (DataW H) → Bool := fun _ ds => decide (uptoBulkAll ds ≤ 1048576)
def OpenSpec.upto (s : _root_.Go.ChangeSpec) : _root_.Go.OpenSpec := { _root_.Go.OpenSpec.ofChange s with cond := some uptoSmall }

/-- 'rickyardlaw11.WalNames', WHERE WHAT IT READS IS OF BULK AT MOST 1048576: true; the input reads as it did. -/
def walNamesUptoRow : OpenClaim := { program := "ytdnoeahhidmkbaadoor", sum := "de0d6599fbb96ab507068765a7d5339516c27d70e9e2ae6fbb0a9e065099dd32", func := "rickyard/rickyardlaw11.WalNames", spec := "walNames", inPlace := ["internal/abi.NoEscape"], unfollowed := true, recurses := true, named := ["rickyard/crc.four"], apart := false, laid := [("rickyard/crc.four", laid_rickyard_crc_four)], narrowed := true }
def WalNamesUptoSaid : Prop := walNamesUptoRow.holds Tryd.pinned (OpenSpec.upto walNamesSpec)

/-- 'rickyardlaw11.WalMany', WHERE WHAT IT READS IS OF BULK AT MOST 1048576: true; the input reads as it did. -/
def walManyUptoRow : OpenClaim := { program := "ytdnoeahhidmkbaadoor", sum := "de0d6599fbb96ab507068765a7d5339516c27d70e9e2ae6fbb0a9e065099dd32", func := "rickyard/rickyardlaw11.WalMany", spec := "walMany", inPlace := ["internal/abi.NoEscape"], unfollowed := true, recurses := true, named := ["rickyard/crc.four"], apart := false, laid := [("rickyard/crc.four", laid_rickyard_crc_four)], narrowed := true }
def WalManyUptoSaid : Prop := walManyUptoRow.holds Tryd.pinned (OpenSpec.upto walManySpec)

/-- 'rickyardlaw11.WalKeeps', WHERE WHAT IT READS IS OF BULK AT MOST 1048576: true; the input reads as it did. -/
def walKeepsUptoRow : OpenClaim := { program := "ytdnoeahhidmkbaadoor", sum := "de0d6599fbb96ab507068765a7d5339516c27d70e9e2ae6fbb0a9e065099dd32", func := "rickyard/rickyardlaw11.WalKeeps", spec := "walKeeps", inPlace := ["internal/abi.NoEscape"], unfollowed := true, recurses := true, named := ["rickyard/crc.four"], apart := false, laid := [("rickyard/crc.four", laid_rickyard_crc_four)], narrowed := true }
def WalKeepsUptoSaid : Prop := walKeepsUptoRow.holds Tryd.pinned (OpenSpec.upto walKeepsSpec)

/-- 'rickyardlaw11.WalResets', WHERE WHAT IT READS IS OF BULK AT MOST 1048576: true; the input reads as it did. -/
def walResetsUptoRow : OpenClaim := { program := "ytdnoeahhidmkbaadoor", sum := "de0d6599fbb96ab507068765a7d5339516c27d70e9e2ae6fbb0a9e065099dd32", func := "rickyard/rickyardlaw11.WalResets", spec := "walResets", inPlace := ["internal/abi.NoEscape"], unfollowed := true, recurses := true, named := ["rickyard/crc.four"], apart := false, laid := [("rickyard/crc.four", laid_rickyard_crc_four)], narrowed := true }
def WalResetsUptoSaid : Prop := walResetsUptoRow.holds Tryd.pinned (OpenSpec.upto walResetsSpec)

/-- 'rickyardlaw11.WalActs', WHERE WHAT IT READS IS OF BULK AT MOST 1048576: true; the input reads as it did. -/
def walActsUptoRow : OpenClaim := { program := "ytdnoeahhidmkbaadoor", sum := "de0d6599fbb96ab507068765a7d5339516c27d70e9e2ae6fbb0a9e065099dd32", func := "rickyard/rickyardlaw11.WalActs", spec := "walActs", inPlace := ["internal/abi.NoEscape"], unfollowed := true, recurses := true, named := ["rickyard/crc.four"], apart := false, laid := [("rickyard/crc.four", laid_rickyard_crc_four)], narrowed := true }
def WalActsUptoSaid : Prop := walActsUptoRow.holds Tryd.pinned (OpenSpec.upto walActsSpec)

/-- 'rickyardlaw16.RaftlogSaves', WHERE WHAT IT READS IS OF BULK AT MOST 1048576: true; the input reads as it did. -/
def raftlogSavesUptoRow : OpenClaim := { program := "ytdnoeahhidmkbaadoor", sum := "de0d6599fbb96ab507068765a7d5339516c27d70e9e2ae6fbb0a9e065099dd32", func := "rickyard/rickyardlaw16.RaftlogSaves", spec := "raftlogSaves", inPlace := ["internal/abi.NoEscape"], unfollowed := true, recurses := true, named := ["rickyard/crc.four"], apart := false, laid := [("rickyard/crc.four", laid_rickyard_crc_four)], narrowed := true }
def RaftlogSavesUptoSaid : Prop := raftlogSavesUptoRow.holds Tryd.pinned (OpenSpec.upto raftlogSavesSpec)

end Rows
end Go.Proofs.YtdnoeahhidmkbaaDoor
