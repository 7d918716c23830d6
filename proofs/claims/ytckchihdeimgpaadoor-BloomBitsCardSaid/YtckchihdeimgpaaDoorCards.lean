/-
  DERIVED. GIVEN WITH THE SEED: THE CARDS: each row of YtckchihdeimgpaaDoorRows.lean that lists a variable, with what it lists TIED to the program's text (the seventh form; the later family's looks); each row that meets fmt, with fmt's text TOLD by the authors' own Lean function (tested against real Go, not proved from fmt's source: count such statements apart). THE CARD IS WHAT COUNTS. Prove the row's statement (the work); the ties are given (YtckchihdeimgpaaDoorTie.lean); close each card by the builder's one call (the guide's Derived/Test/ToyasCard.lean, 'card_holds'). Laid BY PROGRAM, IN A SANDBOX (cutbox-door.mjs). By AI agents, Wed Nov 11 2026. No macro, syntax, notation, axiom, sorry.
-/
import Derived.Test.YtckchihdeimgpaaDoorRows
import GoSem.ClaimSeven
namespace Go.Proofs.YtckchihdeimgpaaDoor
namespace Rows

/-- THE TIED CARD OF 'rickyardlaw03.BloomMakes'. -/
def bloomMakesCard : Claim7 := { stood := { row := bloomMakesRow, standIns := [], harness := (true, "2ffeea70282e083d9560b7da50e195b4d841363788fa778066d428b83fcf40a1"), looks := false }, kinds := [], alts := [], laidByText := true, laidKinds := [.data], laidTests := true, laidLooks := .later }
def BloomMakesCardSaid : Prop := Claim7.holds Tryd.pinned (.plain (OpenSpec.ofChange bloomMakesSpec)) bloomMakesCard

/-- THE TIED CARD OF 'rickyardlaw03.BloomMay'. -/
def bloomMayCard : Claim7 := { stood := { row := bloomMayRow, standIns := [], harness := (true, "2ffeea70282e083d9560b7da50e195b4d841363788fa778066d428b83fcf40a1"), looks := false }, kinds := [], alts := [], laidByText := true, laidKinds := [.data], laidTests := true, laidLooks := .later }
def BloomMayCardSaid : Prop := Claim7.holds Tryd.pinned (.plain (OpenSpec.ofChange bloomMaySpec)) bloomMayCard

/-- THE TIED CARD OF 'rickyardlaw03.BloomHas'. -/
def bloomHasCard : Claim7 := { stood := { row := bloomHasRow, standIns := [], harness := (true, "2ffeea70282e083d9560b7da50e195b4d841363788fa778066d428b83fcf40a1"), looks := false }, kinds := [], alts := [], laidByText := true, laidKinds := [.data], laidTests := true, laidLooks := .later }
def BloomHasCardSaid : Prop := Claim7.holds Tryd.pinned (.plain (OpenSpec.ofChange bloomHasSpec)) bloomHasCard

/-- THE TIED CARD OF 'rickyardlaw03.BloomOrder'. -/
def bloomOrderCard : Claim7 := { stood := { row := bloomOrderRow, standIns := [], harness := (true, "2ffeea70282e083d9560b7da50e195b4d841363788fa778066d428b83fcf40a1"), looks := false }, kinds := [], alts := [], laidByText := true, laidKinds := [.data], laidTests := true, laidLooks := .later }
def BloomOrderCardSaid : Prop := Claim7.holds Tryd.pinned (.plain (OpenSpec.ofChange bloomOrderSpec)) bloomOrderCard

/-- THE TIED CARD OF 'rickyardlaw03.BloomArgs'. -/
def bloomArgsCard : Claim7 := { stood := { row := bloomArgsRow, standIns := [], harness := (true, "2ffeea70282e083d9560b7da50e195b4d841363788fa778066d428b83fcf40a1"), looks := false }, kinds := [], alts := [], laidByText := true, laidKinds := [.data], laidTests := true, laidLooks := .later }
def BloomArgsCardSaid : Prop := Claim7.holds Tryd.pinned (.plain (OpenSpec.ofChange bloomArgsSpec)) bloomArgsCard

/-- THE TIED CARD OF 'rickyardlaw03.BloomBits'. -/
def bloomBitsCard : Claim7 := { stood := { row := bloomBitsRow, standIns := [], harness := (true, "2ffeea70282e083d9560b7da50e195b4d841363788fa778066d428b83fcf40a1"), looks := false }, kinds := [], alts := [], laidByText := true, laidKinds := [.data], laidTests := true, laidLooks := .later }
def BloomBitsCardSaid : Prop := Claim7.holds Tryd.pinned (.plain (OpenSpec.ofChange bloomBitsSpec)) bloomBitsCard

/-- THE SECOND FORM's CARD OF 'rickyardlaw03.BloomMakes'. -/
def bloomMakesUptoCard : Claim7 := { stood := { row := bloomMakesUptoRow, standIns := [], harness := (true, "2ffeea70282e083d9560b7da50e195b4d841363788fa778066d428b83fcf40a1"), looks := false }, kinds := [], alts := [], laidByText := true, laidKinds := [.data], laidTests := true, laidLooks := .later }
def BloomMakesUptoCardSaid : Prop := Claim7.holds Tryd.pinned (.plain (OpenSpec.upto bloomMakesSpec)) bloomMakesUptoCard

/-- THE SECOND FORM's CARD OF 'rickyardlaw03.BloomMay'. -/
def bloomMayUptoCard : Claim7 := { stood := { row := bloomMayUptoRow, standIns := [], harness := (true, "2ffeea70282e083d9560b7da50e195b4d841363788fa778066d428b83fcf40a1"), looks := false }, kinds := [], alts := [], laidByText := true, laidKinds := [.data], laidTests := true, laidLooks := .later }
def BloomMayUptoCardSaid : Prop := Claim7.holds Tryd.pinned (.plain (OpenSpec.upto bloomMaySpec)) bloomMayUptoCard

/-- THE SECOND FORM's CARD OF 'rickyardlaw03.BloomHas'. -/
def bloomHasUptoCard : Claim7 := { stood := { row := bloomHasUptoRow, standIns := [], harness := (true, "2ffeea70282e083d9560b7da50e195b4d841363788fa778066d428b83fcf40a1"), looks := false }, kinds := [], alts := [], laidByText := true, laidKinds := [.data], laidTests := true, laidLooks := .later }
def BloomHasUptoCardSaid : Prop := Claim7.holds Tryd.pinned (.plain (OpenSpec.upto bloomHasSpec)) bloomHasUptoCard

/-- THE SECOND FORM's CARD OF 'rickyardlaw03.BloomOrder'. -/
def bloomOrderUptoCard : Claim7 := { stood := { row := bloomOrderUptoRow, standIns := [], harness := (true, "2ffeea70282e083d9560b7da50e195b4d841363788fa778066d428b83fcf40a1"), looks := false }, kinds := [], alts := [], laidByText := true, laidKinds := [.data], laidTests := true, laidLooks := .later }
def BloomOrderUptoCardSaid : Prop := Claim7.holds Tryd.pinned (.plain (OpenSpec.upto bloomOrderSpec)) bloomOrderUptoCard

/-- THE SECOND FORM's CARD OF 'rickyardlaw03.BloomArgs'. -/
def bloomArgsUptoCard : Claim7 := { stood := { row := bloomArgsUptoRow, standIns := [], harness := (true, "2ffeea70282e083d9560b7da50e195b4d841363788fa778066d428b83fcf40a1"), looks := false }, kinds := [], alts := [], laidByText := true, laidKinds := [.data], laidTests := true, laidLooks := .later }
def BloomArgsUptoCardSaid : Prop := Claim7.holds Tryd.pinned (.plain (OpenSpec.upto bloomArgsSpec)) bloomArgsUptoCard

/-- THE SECOND FORM's CARD OF 'rickyardlaw03.BloomBits'. -/
def bloomBitsUptoCard : Claim7 := { stood := { row := bloomBitsUptoRow, standIns := [], harness := (true, "2ffeea70282e083d9560b7da50e195b4d841363788fa778066d428b83fcf40a1"), looks := false }, kinds := [], alts := [], laidByText := true, laidKinds := [.data], laidTests := true, laidLooks := .later }
def BloomBitsUptoCardSaid : Prop := Claim7.holds Tryd.pinned (.plain (OpenSpec.upto bloomBitsSpec)) bloomBitsUptoCard
end Rows
end Go.Proofs.YtckchihdeimgpaaDoor
