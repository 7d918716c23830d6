/-
  DERIVED. GIVEN WITH THE SEED: THE CARDS: each row of YtdnoeahhidmkbaaDoorRows.lean that lists a variable, with what it lists TIED to the program's text (the seventh form; the later family's looks); each row that meets fmt, with fmt's text TOLD by the authors' own Lean function (tested against real Go, not proved from fmt's source: count such statements apart). THE CARD IS WHAT COUNTS. Prove the row's statement (the work); the ties are given (YtdnoeahhidmkbaaDoorTie.lean); close each card by the builder's one call (the guide's Derived/Test/ToyasCard.lean, 'card_holds'). Laid BY PROGRAM, IN A SANDBOX (cutbox-door.mjs). By AI agents, Wed Nov 11 2026. No macro, syntax, notation, axiom, sorry.
-/
import Derived.Test.YtdnoeahhidmkbaaDoorRows
import GoSem.ClaimSeven
namespace Go.Proofs.YtdnoeahhidmkbaaDoor
namespace Rows

/-- THE TIED CARD OF 'rickyardlaw11.WalNames'. -/
def walNamesCard : Claim7 := { stood := { row := walNamesRow, standIns := [], harness := (true, "ed13e4cc8a778fbbf6fc685fbe421e2d170f37b8a14668a6954104173d065572"), looks := false }, kinds := [], alts := [], laidByText := true, laidKinds := [.data], laidTests := true, laidLooks := .later }
def WalNamesCardSaid : Prop := Claim7.holds Tryd.pinned (.plain (OpenSpec.ofChange walNamesSpec)) walNamesCard

/-- THE TIED CARD OF 'rickyardlaw11.WalMany'. -/
def walManyCard : Claim7 := { stood := { row := walManyRow, standIns := [], harness := (true, "ed13e4cc8a778fbbf6fc685fbe421e2d170f37b8a14668a6954104173d065572"), looks := false }, kinds := [], alts := [], laidByText := true, laidKinds := [.data], laidTests := true, laidLooks := .later }
def WalManyCardSaid : Prop := Claim7.holds Tryd.pinned (.plain (OpenSpec.ofChange walManySpec)) walManyCard

/-- THE TIED CARD OF 'rickyardlaw11.WalKeeps'. -/
def walKeepsCard : Claim7 := { stood := { row := walKeepsRow, standIns := [], harness := (true, "ed13e4cc8a778fbbf6fc685fbe421e2d170f37b8a14668a6954104173d065572"), looks := false }, kinds := [], alts := [], laidByText := true, laidKinds := [.data], laidTests := true, laidLooks := .later }
def WalKeepsCardSaid : Prop := Claim7.holds Tryd.pinned (.plain (OpenSpec.ofChange walKeepsSpec)) walKeepsCard

/-- THE TIED CARD OF 'rickyardlaw11.WalResets'. -/
def walResetsCard : Claim7 := { stood := { row := walResetsRow, standIns := [], harness := (true, "ed13e4cc8a778fbbf6fc685fbe421e2d170f37b8a14668a6954104173d065572"), looks := false }, kinds := [], alts := [], laidByText := true, laidKinds := [.data], laidTests := true, laidLooks := .later }
def WalResetsCardSaid : Prop := Claim7.holds Tryd.pinned (.plain (OpenSpec.ofChange walResetsSpec)) walResetsCard

/-- THE TIED CARD OF 'rickyardlaw11.WalActs'. -/
def walActsCard : Claim7 := { stood := { row := walActsRow, standIns := [], harness := (true, "ed13e4cc8a778fbbf6fc685fbe421e2d170f37b8a14668a6954104173d065572"), looks := false }, kinds := [], alts := [], laidByText := true, laidKinds := [.data], laidTests := true, laidLooks := .later }
def WalActsCardSaid : Prop := Claim7.holds Tryd.pinned (.plain (OpenSpec.ofChange walActsSpec)) walActsCard

/-- THE TIED CARD OF 'rickyardlaw16.RaftlogSaves'. -/
def raftlogSavesCard : Claim7 := { stood := { row := raftlogSavesRow, standIns := [], harness := (true, "ed13e4cc8a778fbbf6fc685fbe421e2d170f37b8a14668a6954104173d065572"), looks := false }, kinds := [], alts := [], laidByText := true, laidKinds := [.data], laidTests := true, laidLooks := .later }
def RaftlogSavesCardSaid : Prop := Claim7.holds Tryd.pinned (.plain (OpenSpec.ofChange raftlogSavesSpec)) raftlogSavesCard

/-- THE SECOND FORM's CARD OF 'rickyardlaw11.WalNames'. -/
def walNamesUptoCard : Claim7 := { stood := { row := walNamesUptoRow, standIns := [], harness := (true, "ed13e4cc8a778fbbf6fc685fbe421e2d170f37b8a14668a6954104173d065572"), looks := false }, kinds := [], alts := [], laidByText := true, laidKinds := [.data], laidTests := true, laidLooks := .later }
def WalNamesUptoCardSaid : Prop := Claim7.holds Tryd.pinned (.plain (OpenSpec.upto walNamesSpec)) walNamesUptoCard

/-- THE SECOND FORM's CARD OF 'rickyardlaw11.WalMany'. -/
def walManyUptoCard : Claim7 := { stood := { row := walManyUptoRow, standIns := [], harness := (true, "ed13e4cc8a778fbbf6fc685fbe421e2d170f37b8a14668a6954104173d065572"), looks := false }, kinds := [], alts := [], laidByText := true, laidKinds := [.data], laidTests := true, laidLooks := .later }
def WalManyUptoCardSaid : Prop := Claim7.holds Tryd.pinned (.plain (OpenSpec.upto walManySpec)) walManyUptoCard

/-- THE SECOND FORM's CARD OF 'rickyardlaw11.WalKeeps'. -/
def walKeepsUptoCard : Claim7 := { stood := { row := walKeepsUptoRow, standIns := [], harness := (true, "ed13e4cc8a778fbbf6fc685fbe421e2d170f37b8a14668a6954104173d065572"), looks := false }, kinds := [], alts := [], laidByText := true, laidKinds := [.data], laidTests := true, laidLooks := .later }
def WalKeepsUptoCardSaid : Prop := Claim7.holds Tryd.pinned (.plain (OpenSpec.upto walKeepsSpec)) walKeepsUptoCard

/-- THE SECOND FORM's CARD OF 'rickyardlaw11.WalResets'. -/
def walResetsUptoCard : Claim7 := { stood := { row := walResetsUptoRow, standIns := [], harness := (true, "ed13e4cc8a778fbbf6fc685fbe421e2d170f37b8a14668a6954104173d065572"), looks := false }, kinds := [], alts := [], laidByText := true, laidKinds := [.data], laidTests := true, laidLooks := .later }
def WalResetsUptoCardSaid : Prop := Claim7.holds Tryd.pinned (.plain (OpenSpec.upto walResetsSpec)) walResetsUptoCard

/-- THE SECOND FORM's CARD OF 'rickyardlaw11.WalActs'. -/
def walActsUptoCard : Claim7 := { stood := { row := walActsUptoRow, standIns := [], harness := (true, "ed13e4cc8a778fbbf6fc685fbe421e2d170f37b8a14668a6954104173d065572"), looks := false }, kinds := [], alts := [], laidByText := true, laidKinds := [.data], laidTests := true, laidLooks := .later }
def WalActsUptoCardSaid : Prop := Claim7.holds Tryd.pinned (.plain (OpenSpec.upto walActsSpec)) walActsUptoCard

/-- THE SECOND FORM's CARD OF 'rickyardlaw16.RaftlogSaves'. -/
def raftlogSavesUptoCard : Claim7 := { stood := { row := raftlogSavesUptoRow, standIns := [], harness := (true, "ed13e4cc8a778fbbf6fc685fbe421e2d170f37b8a14668a6954104173d065572"), looks := false }, kinds := [], alts := [], laidByText := true, laidKinds := [.data], laidTests := true, laidLooks := .later }
def RaftlogSavesUptoCardSaid : Prop := Claim7.holds Tryd.pinned (.plain (OpenSpec.upto raftlogSavesSpec)) raftlogSavesUptoCard
end Rows
end Go.Proofs.YtdnoeahhidmkbaaDoor
