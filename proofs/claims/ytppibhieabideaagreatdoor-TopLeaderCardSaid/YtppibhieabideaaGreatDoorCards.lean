/-
  DERIVED. GIVEN WITH THE SEED: THE CARDS: each row of YtppibhieabideaaGreatDoorRows.lean that lists a variable, with what it lists TIED to the program's text (the seventh form; the later family's looks); each row that meets fmt, with fmt's text TOLD by the authors' own Lean function (tested against real Go, not proved from fmt's source: count such statements apart). THE CARD IS WHAT COUNTS. Prove the row's statement (the work); the ties are given (YtppibhieabideaaGreatDoorTie.lean); close each card by the builder's one call (the guide's Derived/Test/ToyasCard.lean, 'card_holds'). Laid BY PROGRAM, IN A SANDBOX (cutbox-door.mjs). By AI agents, Wed Nov 11 2026. No macro, syntax, notation, axiom, sorry.
-/
import Derived.Test.YtppibhieabideaaGreatDoorRows
import GoSem.ClaimSeven
namespace Go.Proofs.YtppibhieabideaaGreatDoor
namespace Rows

/-- THE TIED CARD OF 'rickyardtop.TopLeader'. -/
def topLeaderCard : Claim7 := { stood := { row := topLeaderRow, standIns := [], harness := (true, "c3ae9179de9dfff5fb0b46d8d11c0ff25184aa0441ab1351f165da8aa537e644"), looks := true }, kinds := [], alts := [], laidByText := true, laidKinds := [.data, .pinned, .data, .data, .data, .data, .sentinel, .sentinel], laidTests := true, laidLooks := .later }
def TopLeaderCardSaid : Prop := Claim7.holds Tryz.pinned (.plain (OpenSpec.ofChange topLeaderSpec)) topLeaderCard

/-- THE TIED CARD OF 'rickyardtop.TopKeys'. -/
def topKeysCard : Claim7 := { stood := { row := topKeysRow, standIns := [], harness := (true, "c3ae9179de9dfff5fb0b46d8d11c0ff25184aa0441ab1351f165da8aa537e644"), looks := true }, kinds := [], alts := [], laidByText := true, laidKinds := [.data, .pinned, .data, .data, .data, .data, .sentinel, .sentinel], laidTests := true, laidLooks := .later }
def TopKeysCardSaid : Prop := Claim7.holds Tryz.pinned (.plain (OpenSpec.ofChange topKeysSpec)) topKeysCard

/-- THE TIED CARD OF 'rickyardtop.TopRuns'. -/
def topRunsCard : Claim7 := { stood := { row := topRunsRow, standIns := [], harness := (true, "c3ae9179de9dfff5fb0b46d8d11c0ff25184aa0441ab1351f165da8aa537e644"), looks := true }, kinds := [], alts := [], laidByText := true, laidKinds := [.data, .pinned, .data, .data, .data, .data, .sentinel, .sentinel], laidTests := true, laidLooks := .later }
def TopRunsCardSaid : Prop := Claim7.holds Tryz.pinned (.plain (OpenSpec.ofChange topRunsSpec)) topRunsCard

/-- THE TIED CARD OF 'rickyardtop.TopSnapshot'. -/
def topSnapshotCard : Claim7 := { stood := { row := topSnapshotRow, standIns := [], harness := (true, "c3ae9179de9dfff5fb0b46d8d11c0ff25184aa0441ab1351f165da8aa537e644"), looks := true }, kinds := [], alts := [], laidByText := true, laidKinds := [.data, .pinned, .data, .data, .data, .data, .sentinel, .sentinel], laidTests := true, laidLooks := .later }
def TopSnapshotCardSaid : Prop := Claim7.holds Tryz.pinned (.plain (OpenSpec.ofChange topSnapshotSpec)) topSnapshotCard

/-- THE TIED CARD OF 'rickyardtop.TopLate'. -/
def topLateCard : Claim7 := { stood := { row := topLateRow, standIns := [], harness := (true, "c3ae9179de9dfff5fb0b46d8d11c0ff25184aa0441ab1351f165da8aa537e644"), looks := true }, kinds := [], alts := [], laidByText := true, laidKinds := [.data, .pinned, .data, .data, .data, .data, .sentinel, .sentinel], laidTests := true, laidLooks := .later }
def TopLateCardSaid : Prop := Claim7.holds Tryz.pinned (.plain (OpenSpec.ofChange topLateSpec)) topLateCard

/-- THE SECOND FORM's CARD OF 'rickyardtop.TopLeader'. -/
def topLeaderUptoCard : Claim7 := { stood := { row := topLeaderUptoRow, standIns := [], harness := (true, "c3ae9179de9dfff5fb0b46d8d11c0ff25184aa0441ab1351f165da8aa537e644"), looks := true }, kinds := [], alts := [], laidByText := true, laidKinds := [.data, .pinned, .data, .data, .data, .data, .sentinel, .sentinel], laidTests := true, laidLooks := .later }
def TopLeaderUptoCardSaid : Prop := Claim7.holds Tryz.pinned (.plain (OpenSpec.upto topLeaderSpec)) topLeaderUptoCard

/-- THE SECOND FORM's CARD OF 'rickyardtop.TopKeys'. -/
def topKeysUptoCard : Claim7 := { stood := { row := topKeysUptoRow, standIns := [], harness := (true, "c3ae9179de9dfff5fb0b46d8d11c0ff25184aa0441ab1351f165da8aa537e644"), looks := true }, kinds := [], alts := [], laidByText := true, laidKinds := [.data, .pinned, .data, .data, .data, .data, .sentinel, .sentinel], laidTests := true, laidLooks := .later }
def TopKeysUptoCardSaid : Prop := Claim7.holds Tryz.pinned (.plain (OpenSpec.upto topKeysSpec)) topKeysUptoCard

/-- THE SECOND FORM's CARD OF 'rickyardtop.TopRuns'. -/
def topRunsUptoCard : Claim7 := { stood := { row := topRunsUptoRow, standIns := [], harness := (true, "c3ae9179de9dfff5fb0b46d8d11c0ff25184aa0441ab1351f165da8aa537e644"), looks := true }, kinds := [], alts := [], laidByText := true, laidKinds := [.data, .pinned, .data, .data, .data, .data, .sentinel, .sentinel], laidTests := true, laidLooks := .later }
def TopRunsUptoCardSaid : Prop := Claim7.holds Tryz.pinned (.plain (OpenSpec.upto topRunsSpec)) topRunsUptoCard

/-- THE SECOND FORM's CARD OF 'rickyardtop.TopSnapshot'. -/
def topSnapshotUptoCard : Claim7 := { stood := { row := topSnapshotUptoRow, standIns := [], harness := (true, "c3ae9179de9dfff5fb0b46d8d11c0ff25184aa0441ab1351f165da8aa537e644"), looks := true }, kinds := [], alts := [], laidByText := true, laidKinds := [.data, .pinned, .data, .data, .data, .data, .sentinel, .sentinel], laidTests := true, laidLooks := .later }
def TopSnapshotUptoCardSaid : Prop := Claim7.holds Tryz.pinned (.plain (OpenSpec.upto topSnapshotSpec)) topSnapshotUptoCard

/-- THE SECOND FORM's CARD OF 'rickyardtop.TopLate'. -/
def topLateUptoCard : Claim7 := { stood := { row := topLateUptoRow, standIns := [], harness := (true, "c3ae9179de9dfff5fb0b46d8d11c0ff25184aa0441ab1351f165da8aa537e644"), looks := true }, kinds := [], alts := [], laidByText := true, laidKinds := [.data, .pinned, .data, .data, .data, .data, .sentinel, .sentinel], laidTests := true, laidLooks := .later }
def TopLateUptoCardSaid : Prop := Claim7.holds Tryz.pinned (.plain (OpenSpec.upto topLateSpec)) topLateUptoCard
end Rows
end Go.Proofs.YtppibhieabideaaGreatDoor
