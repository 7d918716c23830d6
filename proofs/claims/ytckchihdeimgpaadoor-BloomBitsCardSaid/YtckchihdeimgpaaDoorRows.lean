/-
  NARROWER THAN 'FOR EVERY INPUT', by the rows' own cells (each row's printed sentence says how): BloomMakes: laid · BloomMay: laid · BloomHas: laid · BloomOrder: laid · BloomArgs: laid · BloomBits: laid.
  DERIVED. THE GIVEN ROWS OF THIS SEAT. 6 by the template 'for every input the law returns true; each argument reads behind the call as it read before'; 0 by the template 'total and deterministic' (their statements: YtckchihdeimgpaaDoorTotals.lean).
  GIVEN WITH THE SEED: the statements are not yours to turn. If you find one false, say at which input.
  Laid BY PROGRAM, IN A SANDBOX (cutbox-rows.mjs): the forced cells as the released guide's own fill.sh prints them over the translation 93b3a0c2999f91ef… (all of the seat's roots in one cut). By AI agents, Wed Nov 11 2026. No macro, syntax, notation, axiom, sorry.
-/
import Derived.Test.YtckchihdeimgpaaDoorChecked
import GoSem.Claim
import GoSem.ClaimJoined
import GoSem.ClaimMapViews
import Derived.JoinedTies
import Derived.KernelRfl
namespace Go.Proofs.YtckchihdeimgpaaDoor
/- THE CELL 'sum', in the pinned program and in every row, IS THE sha256 OF THE DUMP (.gsa) THAT YtckchihdeimgpaaDoorProg.lean LOADS. Nothing in Lean hashes anything: it is a label: what it is worth is what the hold of that sum in a sandbox is worth. -/
noncomputable def Tryd.pinned : Pinned := { name := "ytckchihdeimgpaadoor", sum := "93b3a0c2999f91ef080cb1dff747eb5a1f74dea346bdb5acdb83c16159d7022f", checked := Tryd.checked }
namespace Rows
def none {H : Type} : Left H := { results := [], args := [] }

/- WHAT THE LISTED PACKAGE-LEVEL VARIABLES READ AS WHEN THE CALL BEGINS. Each datum BY PROGRAM (the guide's laid-datum.mjs) off the statement by which the dump's own 'gosem.cut.vars' lays the variable. In a bare row this is a premise. The card (YtckchihdeimgpaaDoorCards.lean) ties it to the program's text. -/
def laid_rickyard_crc_four {H : Type} : DataW H := .agg [.lit (.int .u32 0), .lit (.int .u32 498536548), .lit (.int .u32 997073096), .lit (.int .u32 651767980), .lit (.int .u32 1994146192), .lit (.int .u32 1802195444), .lit (.int .u32 1303535960), .lit (.int .u32 1342533948), .lit (.int .u32 3988292384), .lit (.int .u32 4027552580), .lit (.int .u32 3604390888), .lit (.int .u32 3412177804), .lit (.int .u32 2607071920), .lit (.int .u32 2262029012), .lit (.int .u32 2685067896), .lit (.int .u32 3183342108)]

/-- 'rickyardlaw03.BloomMakes': WHATEVER THE INPUT: true; the input reads as it did. -/
def bloomMakesSpec : ChangeSpec := { name := "bloomMakes", fn := fun _ => fun
  | [d1, d2, d3, d4, d5] => { results := [.lit (.bool true)], args := [d1, d2, d3, d4, d5] }
  | _ => none }
def bloomMakesRow : OpenClaim := { program := "ytckchihdeimgpaadoor", sum := "93b3a0c2999f91ef080cb1dff747eb5a1f74dea346bdb5acdb83c16159d7022f", func := "rickyard/rickyardlaw03.BloomMakes", spec := "bloomMakes", unfollowed := true, recurses := true, named := ["rickyard/crc.four"], apart := false, laid := [("rickyard/crc.four", laid_rickyard_crc_four)] }
def BloomMakesSaid : Prop := bloomMakesRow.holds Tryd.pinned (OpenSpec.ofChange bloomMakesSpec)

/-- ITS FALSE NEIGHBOUR: 'it returns false'. Refute it at one input. -/
def bloomMakesWrong : ChangeSpec := { name := "bloomMakes", fn := fun _ => fun
  | [d1, d2, d3, d4, d5] => { results := [.lit (.bool false)], args := [d1, d2, d3, d4, d5] }
  | _ => none }
def BloomMakesWrongFalsely : Prop := bloomMakesRow.holds Tryd.pinned (OpenSpec.ofChange bloomMakesWrong)

/-- 'rickyardlaw03.BloomMay': WHATEVER THE INPUT: true; the input reads as it did. -/
def bloomMaySpec : ChangeSpec := { name := "bloomMay", fn := fun _ => fun
  | [d1, d2] => { results := [.lit (.bool true)], args := [d1, d2] }
  | _ => none }
def bloomMayRow : OpenClaim := { program := "ytckchihdeimgpaadoor", sum := "93b3a0c2999f91ef080cb1dff747eb5a1f74dea346bdb5acdb83c16159d7022f", func := "rickyard/rickyardlaw03.BloomMay", spec := "bloomMay", unfollowed := true, recurses := true, named := ["rickyard/crc.four"], apart := false, laid := [("rickyard/crc.four", laid_rickyard_crc_four)] }
def BloomMaySaid : Prop := bloomMayRow.holds Tryd.pinned (OpenSpec.ofChange bloomMaySpec)

/-- ITS FALSE NEIGHBOUR: 'it returns false'. Refute it at one input. -/
def bloomMayWrong : ChangeSpec := { name := "bloomMay", fn := fun _ => fun
  | [d1, d2] => { results := [.lit (.bool false)], args := [d1, d2] }
  | _ => none }
def BloomMayWrongFalsely : Prop := bloomMayRow.holds Tryd.pinned (OpenSpec.ofChange bloomMayWrong)

/-- 'rickyardlaw03.BloomHas': WHATEVER THE INPUT: true; the input reads as it did. -/
def bloomHasSpec : ChangeSpec := { name := "bloomHas", fn := fun _ => fun
  | [d1, d2] => { results := [.lit (.bool true)], args := [d1, d2] }
  | _ => none }
def bloomHasRow : OpenClaim := { program := "ytckchihdeimgpaadoor", sum := "93b3a0c2999f91ef080cb1dff747eb5a1f74dea346bdb5acdb83c16159d7022f", func := "rickyard/rickyardlaw03.BloomHas", spec := "bloomHas", unfollowed := true, recurses := true, named := ["rickyard/crc.four"], apart := false, laid := [("rickyard/crc.four", laid_rickyard_crc_four)] }
def BloomHasSaid : Prop := bloomHasRow.holds Tryd.pinned (OpenSpec.ofChange bloomHasSpec)

/-- ITS FALSE NEIGHBOUR: 'it returns false'. Refute it at one input. -/
def bloomHasWrong : ChangeSpec := { name := "bloomHas", fn := fun _ => fun
  | [d1, d2] => { results := [.lit (.bool false)], args := [d1, d2] }
  | _ => none }
def BloomHasWrongFalsely : Prop := bloomHasRow.holds Tryd.pinned (OpenSpec.ofChange bloomHasWrong)

/-- 'rickyardlaw03.BloomOrder': WHATEVER THE INPUT: true; the input reads as it did. -/
def bloomOrderSpec : ChangeSpec := { name := "bloomOrder", fn := fun _ => fun
  | [d1, d2] => { results := [.lit (.bool true)], args := [d1, d2] }
  | _ => none }
def bloomOrderRow : OpenClaim := { program := "ytckchihdeimgpaadoor", sum := "93b3a0c2999f91ef080cb1dff747eb5a1f74dea346bdb5acdb83c16159d7022f", func := "rickyard/rickyardlaw03.BloomOrder", spec := "bloomOrder", unfollowed := true, recurses := true, named := ["rickyard/crc.four"], apart := false, laid := [("rickyard/crc.four", laid_rickyard_crc_four)] }
def BloomOrderSaid : Prop := bloomOrderRow.holds Tryd.pinned (OpenSpec.ofChange bloomOrderSpec)

/-- ITS FALSE NEIGHBOUR: 'it returns false'. Refute it at one input. -/
def bloomOrderWrong : ChangeSpec := { name := "bloomOrder", fn := fun _ => fun
  | [d1, d2] => { results := [.lit (.bool false)], args := [d1, d2] }
  | _ => none }
def BloomOrderWrongFalsely : Prop := bloomOrderRow.holds Tryd.pinned (OpenSpec.ofChange bloomOrderWrong)

/-- 'rickyardlaw03.BloomArgs': WHATEVER THE INPUT: true; the input reads as it did. -/
def bloomArgsSpec : ChangeSpec := { name := "bloomArgs", fn := fun _ => fun
  | [d] => { results := [.lit (.bool true)], args := [d] }
  | _ => none }
def bloomArgsRow : OpenClaim := { program := "ytckchihdeimgpaadoor", sum := "93b3a0c2999f91ef080cb1dff747eb5a1f74dea346bdb5acdb83c16159d7022f", func := "rickyard/rickyardlaw03.BloomArgs", spec := "bloomArgs", unfollowed := true, recurses := true, named := ["rickyard/crc.four"], apart := false, laid := [("rickyard/crc.four", laid_rickyard_crc_four)] }
def BloomArgsSaid : Prop := bloomArgsRow.holds Tryd.pinned (OpenSpec.ofChange bloomArgsSpec)

/-- ITS FALSE NEIGHBOUR: 'it returns false'. Refute it at one input. -/
def bloomArgsWrong : ChangeSpec := { name := "bloomArgs", fn := fun _ => fun
  | [d] => { results := [.lit (.bool false)], args := [d] }
  | _ => none }
def BloomArgsWrongFalsely : Prop := bloomArgsRow.holds Tryd.pinned (OpenSpec.ofChange bloomArgsWrong)

/-- 'rickyardlaw03.BloomBits': WHATEVER THE INPUT: true; the input reads as it did. -/
def bloomBitsSpec : ChangeSpec := { name := "bloomBits", fn := fun _ => fun
  | [d1, d2] => { results := [.lit (.bool true)], args := [d1, d2] }
  | _ => none }
def bloomBitsRow : OpenClaim := { program := "ytckchihdeimgpaadoor", sum := "93b3a0c2999f91ef080cb1dff747eb5a1f74dea346bdb5acdb83c16159d7022f", func := "rickyard/rickyardlaw03.BloomBits", spec := "bloomBits", unfollowed := true, recurses := true, named := ["rickyard/crc.four"], apart := false, laid := [("rickyard/crc.four", laid_rickyard_crc_four)] }
def BloomBitsSaid : Prop := bloomBitsRow.holds Tryd.pinned (OpenSpec.ofChange bloomBitsSpec)

/-- ITS FALSE NEIGHBOUR: 'it returns false'. Refute it at one input. -/
def bloomBitsWrong : ChangeSpec := { name := "bloomBits", fn := fun _ => fun
  | [d1, d2] => { results := [.lit (.bool false)], args := [d1, d2] }
  | _ => none }
def BloomBitsWrongFalsely : Prop := bloomBitsRow.holds Tryd.pinned (OpenSpec.ofChange bloomBitsWrong)

/- THE SECOND FORM. 'bulk': how many values and letters a reading holds, each counted each time it is reached (what is shared counts as often as it is met; a slice's spare places count too). A statement '..UptoSaid' is the law's where the arguments, and the package variables that the reading takes, are together of bulk at most 1048576: NARROWER than '..Said'. Prove '..Said' where nothing that the law and all that it calls make is longer than what came in: it says more and counts as full. Else prove '..UptoSaid'. A law counts once. -/
mutual
def uptoBulk {H : Type} : DataW H → Nat
  | .lit (.string bytes) => bytes.length + 1
  | .lit _ => 1
  | .nil => 1
  | .ptr d => uptoBulk d + 1
  | .slice elems spare => uptoBulkAll elems + uptoBulkAll spare + 1
  | .agg parts => uptoBulkAll parts + 1
  | .iface _ d => uptoBulk d + 1
  | .map entries => uptoBulkEntries entries + 1
  | .held _ => 1
def uptoBulkAll {H : Type} : List (DataW H) → Nat
  | [] => 0
  | d :: r => uptoBulk d + uptoBulkAll r
def uptoBulkEntries {H : Type} : List (Lit × DataW H) → Nat
  | [] => 0
  | x :: r => uptoBulkEntry x + uptoBulkEntries r
def uptoBulkEntry {H : Type} : Lit × DataW H → Nat
  | (.string bytes, d) => bytes.length + uptoBulk d + 1
  | (_, d) => uptoBulk d + 1
 end
def uptoSmall : (H : Type) → List (DataW H) → Bool := fun _ ds => decide (uptoBulkAll ds ≤ 1048576)
def OpenSpec.upto (s : _root_.Go.ChangeSpec) : _root_.Go.OpenSpec := { _root_.Go.OpenSpec.ofChange s with cond := some uptoSmall }

/-- 'rickyardlaw03.BloomMakes', WHERE WHAT IT READS IS OF BULK AT MOST 1048576: true; the input reads as it did. -/
def bloomMakesUptoRow : OpenClaim := { program := "ytckchihdeimgpaadoor", sum := "93b3a0c2999f91ef080cb1dff747eb5a1f74dea346bdb5acdb83c16159d7022f", func := "rickyard/rickyardlaw03.BloomMakes", spec := "bloomMakes", unfollowed := true, recurses := true, named := ["rickyard/crc.four"], apart := false, laid := [("rickyard/crc.four", laid_rickyard_crc_four)], narrowed := true }
def BloomMakesUptoSaid : Prop := bloomMakesUptoRow.holds Tryd.pinned (OpenSpec.upto bloomMakesSpec)

/-- 'rickyardlaw03.BloomMay', WHERE WHAT IT READS IS OF BULK AT MOST 1048576: true; the input reads as it did. -/
def bloomMayUptoRow : OpenClaim := { program := "ytckchihdeimgpaadoor", sum := "93b3a0c2999f91ef080cb1dff747eb5a1f74dea346bdb5acdb83c16159d7022f", func := "rickyard/rickyardlaw03.BloomMay", spec := "bloomMay", unfollowed := true, recurses := true, named := ["rickyard/crc.four"], apart := false, laid := [("rickyard/crc.four", laid_rickyard_crc_four)], narrowed := true }
def BloomMayUptoSaid : Prop := bloomMayUptoRow.holds Tryd.pinned (OpenSpec.upto bloomMaySpec)

/-- 'rickyardlaw03.BloomHas', WHERE WHAT IT READS IS OF BULK AT MOST 1048576: true; the input reads as it did. -/
def bloomHasUptoRow : OpenClaim := { program := "ytckchihdeimgpaadoor", sum := "93b3a0c2999f91ef080cb1dff747eb5a1f74dea346bdb5acdb83c16159d7022f", func := "rickyard/rickyardlaw03.BloomHas", spec := "bloomHas", unfollowed := true, recurses := true, named := ["rickyard/crc.four"], apart := false, laid := [("rickyard/crc.four", laid_rickyard_crc_four)], narrowed := true }
def BloomHasUptoSaid : Prop := bloomHasUptoRow.holds Tryd.pinned (OpenSpec.upto bloomHasSpec)

/-- 'rickyardlaw03.BloomOrder', WHERE WHAT IT READS IS OF BULK AT MOST 1048576: true; the input reads as it did. -/
def bloomOrderUptoRow : OpenClaim := { program := "ytckchihdeimgpaadoor", sum := "93b3a0c2999f91ef080cb1dff747eb5a1f74dea346bdb5acdb83c16159d7022f", func := "rickyard/rickyardlaw03.BloomOrder", spec := "bloomOrder", unfollowed := true, recurses := true, named := ["rickyard/crc.four"], apart := false, laid := [("rickyard/crc.four", laid_rickyard_crc_four)], narrowed := true }
def BloomOrderUptoSaid : Prop := bloomOrderUptoRow.holds Tryd.pinned (OpenSpec.upto bloomOrderSpec)

/-- 'rickyardlaw03.BloomArgs', WHERE WHAT IT READS IS OF BULK AT MOST 1048576: true; the input reads as it did. -/
def bloomArgsUptoRow : OpenClaim := { program := "ytckchihdeimgpaadoor", sum := "93b3a0c2999f91ef080cb1dff747eb5a1f74dea346bdb5acdb83c16159d7022f", func := "rickyard/rickyardlaw03.BloomArgs", spec := "bloomArgs", unfollowed := true, recurses := true, named := ["rickyard/crc.four"], apart := false, laid := [("rickyard/crc.four", laid_rickyard_crc_four)], narrowed := true }
def BloomArgsUptoSaid : Prop := bloomArgsUptoRow.holds Tryd.pinned (OpenSpec.upto bloomArgsSpec)

/-- 'rickyardlaw03.BloomBits', WHERE WHAT IT READS IS OF BULK AT MOST 1048576: true; the input reads as it did. -/
def bloomBitsUptoRow : OpenClaim := { program := "ytckchihdeimgpaadoor", sum := "93b3a0c2999f91ef080cb1dff747eb5a1f74dea346bdb5acdb83c16159d7022f", func := "rickyard/rickyardlaw03.BloomBits", spec := "bloomBits", unfollowed := true, recurses := true, named := ["rickyard/crc.four"], apart := false, laid := [("rickyard/crc.four", laid_rickyard_crc_four)], narrowed := true }
def BloomBitsUptoSaid : Prop := bloomBitsUptoRow.holds Tryd.pinned (OpenSpec.upto bloomBitsSpec)

end Rows
end Go.Proofs.YtckchihdeimgpaaDoor
