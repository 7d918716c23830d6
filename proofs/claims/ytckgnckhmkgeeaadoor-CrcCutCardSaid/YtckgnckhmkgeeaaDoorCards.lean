/-
  DERIVED. GIVEN WITH THE SEED: THE CARDS: each row of YtckgnckhmkgeeaaDoorRows.lean that lists a variable, with what it lists TIED to the program's text (the seventh form; the later family's looks); each row that meets fmt, with fmt's text TOLD by the authors' own Lean function (tested against real Go, not proved from fmt's source: count such statements apart). THE CARD IS WHAT COUNTS. Prove the row's statement (the work); the ties are given (YtckgnckhmkgeeaaDoorTie.lean); close each card by the builder's one call (the guide's Derived/Test/ToyasCard.lean, 'card_holds'). Laid BY PROGRAM, IN A SANDBOX (cutbox-door.mjs). By AI agents, Wed Nov 11 2026. No macro, syntax, notation, axiom, sorry.
-/
import Derived.Test.YtckgnckhmkgeeaaDoorRows
import GoSem.ClaimSeven
namespace Go.Proofs.YtckgnckhmkgeeaaDoor
namespace Rows

/-- THE TIED CARD OF 'rickyardlaw02.CrcSums'. -/
def crcSumsCard : Claim7 := { stood := { row := crcSumsRow, standIns := [], harness := (true, "70b3abd99e061dbbd5095c29869906b219a77a2713a06f065f2c3963a67c3bc8"), looks := false }, kinds := [], alts := [], laidByText := true, laidKinds := [.data], laidTests := true, laidLooks := .later }
def CrcSumsCardSaid : Prop := Claim7.holds Tryd.pinned (.plain (OpenSpec.ofChange crcSumsSpec)) crcSumsCard

/-- THE TIED CARD OF 'rickyardlaw02.CrcTurned'. -/
def crcTurnedCard : Claim7 := { stood := { row := crcTurnedRow, standIns := [], harness := (true, "70b3abd99e061dbbd5095c29869906b219a77a2713a06f065f2c3963a67c3bc8"), looks := false }, kinds := [], alts := [], laidByText := true, laidKinds := [.data], laidTests := true, laidLooks := .later }
def CrcTurnedCardSaid : Prop := Claim7.holds Tryd.pinned (.plain (OpenSpec.ofChange crcTurnedSpec)) crcTurnedCard

/-- THE TIED CARD OF 'rickyardlaw02.CrcParts'. -/
def crcPartsCard : Claim7 := { stood := { row := crcPartsRow, standIns := [], harness := (true, "70b3abd99e061dbbd5095c29869906b219a77a2713a06f065f2c3963a67c3bc8"), looks := false }, kinds := [], alts := [], laidByText := true, laidKinds := [.data], laidTests := true, laidLooks := .later }
def CrcPartsCardSaid : Prop := Claim7.holds Tryd.pinned (.plain (OpenSpec.ofChange crcPartsSpec)) crcPartsCard

/-- THE TIED CARD OF 'rickyardlaw02.CrcWide'. -/
def crcWideCard : Claim7 := { stood := { row := crcWideRow, standIns := [], harness := (true, "70b3abd99e061dbbd5095c29869906b219a77a2713a06f065f2c3963a67c3bc8"), looks := false }, kinds := [], alts := [], laidByText := true, laidKinds := [.data], laidTests := true, laidLooks := .later }
def CrcWideCardSaid : Prop := Claim7.holds Tryd.pinned (.plain (OpenSpec.ofChange crcWideSpec)) crcWideCard

/-- THE TIED CARD OF 'rickyardlaw02.CrcPuts'. -/
def crcPutsCard : Claim7 := { stood := { row := crcPutsRow, standIns := [], harness := (true, "70b3abd99e061dbbd5095c29869906b219a77a2713a06f065f2c3963a67c3bc8"), looks := false }, kinds := [], alts := [], laidByText := true, laidKinds := [.data], laidTests := true, laidLooks := .later }
def CrcPutsCardSaid : Prop := Claim7.holds Tryd.pinned (.plain (OpenSpec.ofChange crcPutsSpec)) crcPutsCard

/-- THE TIED CARD OF 'rickyardlaw02.CrcCut'. -/
def crcCutCard : Claim7 := { stood := { row := crcCutRow, standIns := [], harness := (true, "70b3abd99e061dbbd5095c29869906b219a77a2713a06f065f2c3963a67c3bc8"), looks := false }, kinds := [], alts := [], laidByText := true, laidKinds := [.data], laidTests := true, laidLooks := .later }
def CrcCutCardSaid : Prop := Claim7.holds Tryd.pinned (.plain (OpenSpec.ofChange crcCutSpec)) crcCutCard

/-- THE SECOND FORM's CARD OF 'rickyardlaw02.CrcSums'. -/
def crcSumsUptoCard : Claim7 := { stood := { row := crcSumsUptoRow, standIns := [], harness := (true, "70b3abd99e061dbbd5095c29869906b219a77a2713a06f065f2c3963a67c3bc8"), looks := false }, kinds := [], alts := [], laidByText := true, laidKinds := [.data], laidTests := true, laidLooks := .later }
def CrcSumsUptoCardSaid : Prop := Claim7.holds Tryd.pinned (.plain (OpenSpec.upto crcSumsSpec)) crcSumsUptoCard

/-- THE SECOND FORM's CARD OF 'rickyardlaw02.CrcTurned'. -/
def crcTurnedUptoCard : Claim7 := { stood := { row := crcTurnedUptoRow, standIns := [], harness := (true, "70b3abd99e061dbbd5095c29869906b219a77a2713a06f065f2c3963a67c3bc8"), looks := false }, kinds := [], alts := [], laidByText := true, laidKinds := [.data], laidTests := true, laidLooks := .later }
def CrcTurnedUptoCardSaid : Prop := Claim7.holds Tryd.pinned (.plain (OpenSpec.upto crcTurnedSpec)) crcTurnedUptoCard

/-- THE SECOND FORM's CARD OF 'rickyardlaw02.CrcParts'. -/
def crcPartsUptoCard : Claim7 := { stood := { row := crcPartsUptoRow, standIns := [], harness := (true, "70b3abd99e061dbbd5095c29869906b219a77a2713a06f065f2c3963a67c3bc8"), looks := false }, kinds := [], alts := [], laidByText := true, laidKinds := [.data], laidTests := true, laidLooks := .later }
def CrcPartsUptoCardSaid : Prop := Claim7.holds Tryd.pinned (.plain (OpenSpec.upto crcPartsSpec)) crcPartsUptoCard

/-- THE SECOND FORM's CARD OF 'rickyardlaw02.CrcWide'. -/
def crcWideUptoCard : Claim7 := { stood := { row := crcWideUptoRow, standIns := [], harness := (true, "70b3abd99e061dbbd5095c29869906b219a77a2713a06f065f2c3963a67c3bc8"), looks := false }, kinds := [], alts := [], laidByText := true, laidKinds := [.data], laidTests := true, laidLooks := .later }
def CrcWideUptoCardSaid : Prop := Claim7.holds Tryd.pinned (.plain (OpenSpec.upto crcWideSpec)) crcWideUptoCard

/-- THE SECOND FORM's CARD OF 'rickyardlaw02.CrcPuts'. -/
def crcPutsUptoCard : Claim7 := { stood := { row := crcPutsUptoRow, standIns := [], harness := (true, "70b3abd99e061dbbd5095c29869906b219a77a2713a06f065f2c3963a67c3bc8"), looks := false }, kinds := [], alts := [], laidByText := true, laidKinds := [.data], laidTests := true, laidLooks := .later }
def CrcPutsUptoCardSaid : Prop := Claim7.holds Tryd.pinned (.plain (OpenSpec.upto crcPutsSpec)) crcPutsUptoCard

/-- THE SECOND FORM's CARD OF 'rickyardlaw02.CrcCut'. -/
def crcCutUptoCard : Claim7 := { stood := { row := crcCutUptoRow, standIns := [], harness := (true, "70b3abd99e061dbbd5095c29869906b219a77a2713a06f065f2c3963a67c3bc8"), looks := false }, kinds := [], alts := [], laidByText := true, laidKinds := [.data], laidTests := true, laidLooks := .later }
def CrcCutUptoCardSaid : Prop := Claim7.holds Tryd.pinned (.plain (OpenSpec.upto crcCutSpec)) crcCutUptoCard
end Rows
end Go.Proofs.YtckgnckhmkgeeaaDoor
