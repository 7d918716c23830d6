/-
  NARROWER THAN 'FOR EVERY INPUT', by the rows' own cells (each row's printed sentence says how): ClusterAgrees: laid · ClusterSafe: laid · ClusterLeads: laid · ClusterLogs: laid · ClusterKeeps: laid · ClusterStays: laid · ClusterErrors: laid.
  DERIVED. THE GIVEN ROWS OF THIS SEAT. 7 by the template 'for every input the law returns true; each argument reads behind the call as it read before'; 0 by the template 'total and deterministic' (their statements: YtmcibggjolckoaaGreatDoorTotals.lean).
  GIVEN WITH THE SEED: the statements are not yours to turn. If you find one false, say at which input.
  Laid BY PROGRAM, IN A SANDBOX (cutbox-rows.mjs): the forced cells as the released guide's own fill.sh prints them over the translation df82dbdf995d5d70… (all of the seat's roots in one cut). By AI agents, Wed Nov 11 2026. No macro, syntax, notation, axiom, sorry.
-/
import Derived.Test.YtmcibggjolckoaaGreatDoorChecked
import GoSem.Claim
import GoSem.ClaimJoined
import GoSem.ClaimMapViews
import Derived.JoinedTies
import Derived.KernelRfl
namespace Go.Proofs.YtmcibggjolckoaaGreatDoor
/- THE CELL 'sum', in the pinned program and in every row, IS THE sha256 OF THE DUMP (.gsa) THAT YtmcibggjolckoaaGreatDoorProg.lean LOADS. Nothing in Lean hashes anything: it is a label: what it is worth is what the hold of that sum in a sandbox is worth. -/
noncomputable def Tryz.pinned : Pinned := { name := "ytmcibggjolckoaagreatdoor", sum := "df82dbdf995d5d704f16d6c00bcdef5c182282751ce7bd05945eac85dbf94b7e", checked := Tryz.checked }
namespace Rows
def none {H : Type} : Left H := { results := [], args := [] }

/- WHAT THE LISTED PACKAGE-LEVEL VARIABLES READ AS WHEN THE CALL BEGINS. Each datum BY PROGRAM (the guide's laid-datum.mjs) off the statement by which the dump's own 'gosem.cut.vars' lays the variable. In a bare row this is a premise. The card (YtmcibggjolckoaaGreatDoorCards.lean) ties it to the program's text. -/
def laid_rickyard_crc_four {H : Type} : DataW H := .agg [.lit (.int .u32 0), .lit (.int .u32 498536548), .lit (.int .u32 997073096), .lit (.int .u32 651767980), .lit (.int .u32 1994146192), .lit (.int .u32 1802195444), .lit (.int .u32 1303535960), .lit (.int .u32 1342533948), .lit (.int .u32 3988292384), .lit (.int .u32 4027552580), .lit (.int .u32 3604390888), .lit (.int .u32 3412177804), .lit (.int .u32 2607071920), .lit (.int .u32 2262029012), .lit (.int .u32 2685067896), .lit (.int .u32 3183342108)]

/-- 'rickyardlaw18.ClusterAgrees': WHATEVER THE INPUT: true; the input reads as it did. -/
def clusterAgreesSpec : ChangeSpec := { name := "clusterAgrees", fn := fun _ => fun
  | [d1, d2] => { results := [.lit (.bool true)], args := [d1, d2] }
  | _ => none }
def clusterAgreesRow : OpenClaim := { program := "ytmcibggjolckoaagreatdoor", sum := "df82dbdf995d5d704f16d6c00bcdef5c182282751ce7bd05945eac85dbf94b7e", func := "rickyard/rickyardlaw18.ClusterAgrees", spec := "clusterAgrees", inPlace := ["internal/abi.NoEscape"], unfollowed := true, recurses := true, named := ["rickyard/crc.four"], apart := false, laid := [("rickyard/crc.four", laid_rickyard_crc_four)] }
def ClusterAgreesSaid : Prop := clusterAgreesRow.holds Tryz.pinned (OpenSpec.ofChange clusterAgreesSpec)

/-- ITS FALSE NEIGHBOUR: 'it returns false'. Refute it at one input. -/
def clusterAgreesWrong : ChangeSpec := { name := "clusterAgrees", fn := fun _ => fun
  | [d1, d2] => { results := [.lit (.bool false)], args := [d1, d2] }
  | _ => none }
def ClusterAgreesWrongFalsely : Prop := clusterAgreesRow.holds Tryz.pinned (OpenSpec.ofChange clusterAgreesWrong)

/-- 'rickyardlaw18.ClusterSafe': WHATEVER THE INPUT: true; the input reads as it did. -/
def clusterSafeSpec : ChangeSpec := { name := "clusterSafe", fn := fun _ => fun
  | [d1, d2] => { results := [.lit (.bool true)], args := [d1, d2] }
  | _ => none }
def clusterSafeRow : OpenClaim := { program := "ytmcibggjolckoaagreatdoor", sum := "df82dbdf995d5d704f16d6c00bcdef5c182282751ce7bd05945eac85dbf94b7e", func := "rickyard/rickyardlaw18.ClusterSafe", spec := "clusterSafe", inPlace := ["internal/abi.NoEscape"], unfollowed := true, recurses := true, named := ["rickyard/crc.four"], apart := false, laid := [("rickyard/crc.four", laid_rickyard_crc_four)] }
def ClusterSafeSaid : Prop := clusterSafeRow.holds Tryz.pinned (OpenSpec.ofChange clusterSafeSpec)

/-- ITS FALSE NEIGHBOUR: 'it returns false'. Refute it at one input. -/
def clusterSafeWrong : ChangeSpec := { name := "clusterSafe", fn := fun _ => fun
  | [d1, d2] => { results := [.lit (.bool false)], args := [d1, d2] }
  | _ => none }
def ClusterSafeWrongFalsely : Prop := clusterSafeRow.holds Tryz.pinned (OpenSpec.ofChange clusterSafeWrong)

/-- 'rickyardlaw18.ClusterLeads': WHATEVER THE INPUT: true; the input reads as it did. -/
def clusterLeadsSpec : ChangeSpec := { name := "clusterLeads", fn := fun _ => fun
  | [d1, d2] => { results := [.lit (.bool true)], args := [d1, d2] }
  | _ => none }
def clusterLeadsRow : OpenClaim := { program := "ytmcibggjolckoaagreatdoor", sum := "df82dbdf995d5d704f16d6c00bcdef5c182282751ce7bd05945eac85dbf94b7e", func := "rickyard/rickyardlaw18.ClusterLeads", spec := "clusterLeads", inPlace := ["internal/abi.NoEscape"], unfollowed := true, recurses := true, named := ["rickyard/crc.four"], apart := false, laid := [("rickyard/crc.four", laid_rickyard_crc_four)] }
def ClusterLeadsSaid : Prop := clusterLeadsRow.holds Tryz.pinned (OpenSpec.ofChange clusterLeadsSpec)

/-- ITS FALSE NEIGHBOUR: 'it returns false'. Refute it at one input. -/
def clusterLeadsWrong : ChangeSpec := { name := "clusterLeads", fn := fun _ => fun
  | [d1, d2] => { results := [.lit (.bool false)], args := [d1, d2] }
  | _ => none }
def ClusterLeadsWrongFalsely : Prop := clusterLeadsRow.holds Tryz.pinned (OpenSpec.ofChange clusterLeadsWrong)

/-- 'rickyardlaw18.ClusterLogs': WHATEVER THE INPUT: true; the input reads as it did. -/
def clusterLogsSpec : ChangeSpec := { name := "clusterLogs", fn := fun _ => fun
  | [d1, d2] => { results := [.lit (.bool true)], args := [d1, d2] }
  | _ => none }
def clusterLogsRow : OpenClaim := { program := "ytmcibggjolckoaagreatdoor", sum := "df82dbdf995d5d704f16d6c00bcdef5c182282751ce7bd05945eac85dbf94b7e", func := "rickyard/rickyardlaw18.ClusterLogs", spec := "clusterLogs", inPlace := ["internal/abi.NoEscape"], unfollowed := true, recurses := true, named := ["rickyard/crc.four"], apart := false, laid := [("rickyard/crc.four", laid_rickyard_crc_four)] }
def ClusterLogsSaid : Prop := clusterLogsRow.holds Tryz.pinned (OpenSpec.ofChange clusterLogsSpec)

/-- ITS FALSE NEIGHBOUR: 'it returns false'. Refute it at one input. -/
def clusterLogsWrong : ChangeSpec := { name := "clusterLogs", fn := fun _ => fun
  | [d1, d2] => { results := [.lit (.bool false)], args := [d1, d2] }
  | _ => none }
def ClusterLogsWrongFalsely : Prop := clusterLogsRow.holds Tryz.pinned (OpenSpec.ofChange clusterLogsWrong)

/-- 'rickyardlaw18.ClusterKeeps': WHATEVER THE INPUT: true; the input reads as it did. -/
def clusterKeepsSpec : ChangeSpec := { name := "clusterKeeps", fn := fun _ => fun
  | [d1, d2] => { results := [.lit (.bool true)], args := [d1, d2] }
  | _ => none }
def clusterKeepsRow : OpenClaim := { program := "ytmcibggjolckoaagreatdoor", sum := "df82dbdf995d5d704f16d6c00bcdef5c182282751ce7bd05945eac85dbf94b7e", func := "rickyard/rickyardlaw18.ClusterKeeps", spec := "clusterKeeps", inPlace := ["internal/abi.NoEscape"], unfollowed := true, recurses := true, named := ["rickyard/crc.four"], apart := false, laid := [("rickyard/crc.four", laid_rickyard_crc_four)] }
def ClusterKeepsSaid : Prop := clusterKeepsRow.holds Tryz.pinned (OpenSpec.ofChange clusterKeepsSpec)

/-- ITS FALSE NEIGHBOUR: 'it returns false'. Refute it at one input. -/
def clusterKeepsWrong : ChangeSpec := { name := "clusterKeeps", fn := fun _ => fun
  | [d1, d2] => { results := [.lit (.bool false)], args := [d1, d2] }
  | _ => none }
def ClusterKeepsWrongFalsely : Prop := clusterKeepsRow.holds Tryz.pinned (OpenSpec.ofChange clusterKeepsWrong)

/-- 'rickyardlaw18.ClusterStays': WHATEVER THE INPUT: true; the input reads as it did. -/
def clusterStaysSpec : ChangeSpec := { name := "clusterStays", fn := fun _ => fun
  | [d1, d2] => { results := [.lit (.bool true)], args := [d1, d2] }
  | _ => none }
def clusterStaysRow : OpenClaim := { program := "ytmcibggjolckoaagreatdoor", sum := "df82dbdf995d5d704f16d6c00bcdef5c182282751ce7bd05945eac85dbf94b7e", func := "rickyard/rickyardlaw18.ClusterStays", spec := "clusterStays", inPlace := ["internal/abi.NoEscape"], unfollowed := true, recurses := true, named := ["rickyard/crc.four"], apart := false, laid := [("rickyard/crc.four", laid_rickyard_crc_four)] }
def ClusterStaysSaid : Prop := clusterStaysRow.holds Tryz.pinned (OpenSpec.ofChange clusterStaysSpec)

/-- ITS FALSE NEIGHBOUR: 'it returns false'. Refute it at one input. -/
def clusterStaysWrong : ChangeSpec := { name := "clusterStays", fn := fun _ => fun
  | [d1, d2] => { results := [.lit (.bool false)], args := [d1, d2] }
  | _ => none }
def ClusterStaysWrongFalsely : Prop := clusterStaysRow.holds Tryz.pinned (OpenSpec.ofChange clusterStaysWrong)

/-- 'rickyardlaw18.ClusterErrors': WHATEVER THE INPUT: true; the input reads as it did. -/
def clusterErrorsSpec : ChangeSpec := { name := "clusterErrors", fn := fun _ => fun
  | [d1, d2, d3, d4] => { results := [.lit (.bool true)], args := [d1, d2, d3, d4] }
  | _ => none }
def clusterErrorsRow : OpenClaim := { program := "ytmcibggjolckoaagreatdoor", sum := "df82dbdf995d5d704f16d6c00bcdef5c182282751ce7bd05945eac85dbf94b7e", func := "rickyard/rickyardlaw18.ClusterErrors", spec := "clusterErrors", inPlace := ["internal/abi.NoEscape"], unfollowed := true, recurses := true, named := ["rickyard/crc.four"], apart := false, laid := [("rickyard/crc.four", laid_rickyard_crc_four)] }
def ClusterErrorsSaid : Prop := clusterErrorsRow.holds Tryz.pinned (OpenSpec.ofChange clusterErrorsSpec)

/-- ITS FALSE NEIGHBOUR: 'it returns false'. Refute it at one input. -/
def clusterErrorsWrong : ChangeSpec := { name := "clusterErrors", fn := fun _ => fun
  | [d1, d2, d3, d4] => { results := [.lit (.bool false)], args := [d1, d2, d3, d4] }
  | _ => none }
def ClusterErrorsWrongFalsely : Prop := clusterErrorsRow.holds Tryz.pinned (OpenSpec.ofChange clusterErrorsWrong)

/- THE SECOND FORM. 'bulk': how many values and letters a reading holds, each counted each time it is reached (what is shared counts as often as it is met; a slice's spare places count too). A statement '..UptoSaid' is the law's where the arguments, and the package variables that the reading takes, are together of bulk at most 1048576: NARROWER than '..Said'. Prove '..Said' where nothing that the law and all that it calls make is longer than what came in: it says more and counts as full. Else prove '..UptoSaid'. A law counts once. -/
mutual
def uptoBulk {H : Type} : DataW H → Nat
  | .lit (.string bytes) => bytes.length + 1
  | .lit _ => 1
  | .nil => 1
  | .ptr d => uptoBulk d + 1
  | .slice elems spare => uptoBulkAll elems + uptoBulkAll spare + 1
  | .agg parts => uptoBulkAll parts + 1
  | .iface _ d => uptoBulk d + 1
  | .map entries => uptoBulkEntries entries + 1
  | .held _ => 1
def uptoBulkAll {H : Type} : List (DataW H) → Nat
  | [] => 0
  | d :: r => uptoBulk d + uptoBulkAll r
def uptoBulkEntries {H : Type} : List (Lit × DataW H) → Nat
  | [] => 0
  | x :: r => uptoBulkEntry x + uptoBulkEntries r
def uptoBulkEntry {H : Type} : Lit × DataW H → Nat
  | (.string bytes, d) => bytes.length + uptoBulk d + 1
  | (_, d) => uptoBulk d + 1
 end
def uptoSmall : (H : Type) → List (DataW H) → Bool := fun _ ds => decide (uptoBulkAll ds ≤ 1048576)
def OpenSpec.upto (s : _root_.Go.ChangeSpec) : _root_.Go.OpenSpec := { _root_.Go.OpenSpec.ofChange s with cond := some uptoSmall }

/-- 'rickyardlaw18.ClusterAgrees', WHERE WHAT IT READS IS OF BULK AT MOST 1048576: true; the input reads as it did. -/
def clusterAgreesUptoRow : OpenClaim := { program := "ytmcibggjolckoaagreatdoor", sum := "df82dbdf995d5d704f16d6c00bcdef5c182282751ce7bd05945eac85dbf94b7e", func := "rickyard/rickyardlaw18.ClusterAgrees", spec := "clusterAgrees", inPlace := ["internal/abi.NoEscape"], unfollowed := true, recurses := true, named := ["rickyard/crc.four"], apart := false, laid := [("rickyard/crc.four", laid_rickyard_crc_four)], narrowed := true }
def ClusterAgreesUptoSaid : Prop := clusterAgreesUptoRow.holds Tryz.pinned (OpenSpec.upto clusterAgreesSpec)

/-- 'rickyardlaw18.ClusterSafe', WHERE WHAT IT READS IS OF BULK AT MOST 1048576: true; the input reads as it did. -/
def clusterSafeUptoRow : OpenClaim := { program := "ytmcibggjolckoaagreatdoor", sum := "df82dbdf995d5d704f16d6c00bcdef5c182282751ce7bd05945eac85dbf94b7e", func := "rickyard/rickyardlaw18.ClusterSafe", spec := "clusterSafe", inPlace := ["internal/abi.NoEscape"], unfollowed := true, recurses := true, named := ["rickyard/crc.four"], apart := false, laid := [("rickyard/crc.four", laid_rickyard_crc_four)], narrowed := true }
def ClusterSafeUptoSaid : Prop := clusterSafeUptoRow.holds Tryz.pinned (OpenSpec.upto clusterSafeSpec)

/-- 'rickyardlaw18.ClusterLeads', WHERE WHAT IT READS IS OF BULK AT MOST 1048576: true; the input reads as it did. -/
def clusterLeadsUptoRow : OpenClaim := { program := "ytmcibggjolckoaagreatdoor", sum := "df82dbdf995d5d704f16d6c00bcdef5c182282751ce7bd05945eac85dbf94b7e", func := "rickyard/rickyardlaw18.ClusterLeads", spec := "clusterLeads", inPlace := ["internal/abi.NoEscape"], unfollowed := true, recurses := true, named := ["rickyard/crc.four"], apart := false, laid := [("rickyard/crc.four", laid_rickyard_crc_four)], narrowed := true }
def ClusterLeadsUptoSaid : Prop := clusterLeadsUptoRow.holds Tryz.pinned (OpenSpec.upto clusterLeadsSpec)

/-- 'rickyardlaw18.ClusterLogs', WHERE WHAT IT READS IS OF BULK AT MOST 1048576: true; the input reads as it did. -/
def clusterLogsUptoRow : OpenClaim := { program := "ytmcibggjolckoaagreatdoor", sum := "df82dbdf995d5d704f16d6c00bcdef5c182282751ce7bd05945eac85dbf94b7e", func := "rickyard/rickyardlaw18.ClusterLogs", spec := "clusterLogs", inPlace := ["internal/abi.NoEscape"], unfollowed := true, recurses := true, named := ["rickyard/crc.four"], apart := false, laid := [("rickyard/crc.four", laid_rickyard_crc_four)], narrowed := true }
def ClusterLogsUptoSaid : Prop := clusterLogsUptoRow.holds Tryz.pinned (OpenSpec.upto clusterLogsSpec)

/-- 'rickyardlaw18.ClusterKeeps', WHERE WHAT IT READS IS OF BULK AT MOST 1048576: true; the input reads as it did. -/
def clusterKeepsUptoRow : OpenClaim := { program := "ytmcibggjolckoaagreatdoor", sum := "df82dbdf995d5d704f16d6c00bcdef5c182282751ce7bd05945eac85dbf94b7e", func := "rickyard/rickyardlaw18.ClusterKeeps", spec := "clusterKeeps", inPlace := ["internal/abi.NoEscape"], unfollowed := true, recurses := true, named := ["rickyard/crc.four"], apart := false, laid := [("rickyard/crc.four", laid_rickyard_crc_four)], narrowed := true }
def ClusterKeepsUptoSaid : Prop := clusterKeepsUptoRow.holds Tryz.pinned (OpenSpec.upto clusterKeepsSpec)

/-- 'rickyardlaw18.ClusterStays', WHERE WHAT IT READS IS OF BULK AT MOST 1048576: true; the input reads as it did. -/
def clusterStaysUptoRow : OpenClaim := { program := "ytmcibggjolckoaagreatdoor", sum := "df82dbdf995d5d704f16d6c00bcdef5c182282751ce7bd05945eac85dbf94b7e", func := "rickyard/rickyardlaw18.ClusterStays", spec := "clusterStays", inPlace := ["internal/abi.NoEscape"], unfollowed := true, recurses := true, named := ["rickyard/crc.four"], apart := false, laid := [("rickyard/crc.four", laid_rickyard_crc_four)], narrowed := true }
def ClusterStaysUptoSaid : Prop := clusterStaysUptoRow.holds Tryz.pinned (OpenSpec.upto clusterStaysSpec)

/-- 'rickyardlaw18.ClusterErrors', WHERE WHAT IT READS IS OF BULK AT MOST 1048576: true; the input reads as it did. -/
def clusterErrorsUptoRow : OpenClaim := { program := "ytmcibggjolckoaagreatdoor", sum := "df82dbdf995d5d704f16d6c00bcdef5c182282751ce7bd05945eac85dbf94b7e", func := "rickyard/rickyardlaw18.ClusterErrors", spec := "clusterErrors", inPlace := ["internal/abi.NoEscape"], unfollowed := true, recurses := true, named := ["rickyard/crc.four"], apart := false, laid := [("rickyard/crc.four", laid_rickyard_crc_four)], narrowed := true }
def ClusterErrorsUptoSaid : Prop := clusterErrorsUptoRow.holds Tryz.pinned (OpenSpec.upto clusterErrorsSpec)

end Rows
end Go.Proofs.YtmcibggjolckoaaGreatDoor
