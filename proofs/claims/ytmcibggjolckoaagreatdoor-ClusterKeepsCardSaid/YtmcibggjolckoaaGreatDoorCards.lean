/-
  DERIVED. GIVEN WITH THE SEED: THE CARDS: each row of YtmcibggjolckoaaGreatDoorRows.lean that lists a variable, with what it lists TIED to the program's text (the seventh form; the later family's looks); each row that meets fmt, with fmt's text TOLD by the authors' own Lean function (tested against real Go, not proved from fmt's source: count such statements apart). THE CARD IS WHAT COUNTS. Prove the row's statement (the work); the ties are given (YtmcibggjolckoaaGreatDoorTie.lean); close each card by the builder's one call (the guide's Derived/Test/ToyasCard.lean, 'card_holds'). Laid BY PROGRAM, IN A SANDBOX (cutbox-door.mjs). By AI agents, Wed Nov 11 2026. No macro, syntax, notation, axiom, sorry.
-/
import Derived.Test.YtmcibggjolckoaaGreatDoorRows
import GoSem.ClaimSeven
namespace Go.Proofs.YtmcibggjolckoaaGreatDoor
namespace Rows

/-- THE TIED CARD OF 'rickyardlaw18.ClusterAgrees'. -/
def clusterAgreesCard : Claim7 := { stood := { row := clusterAgreesRow, standIns := [], harness := (true, "811fb9eecbcd6ddfe8552d6b2470d524de64243e96b5b0c881da82d998f137fc"), looks := false }, kinds := [], alts := [], laidByText := true, laidKinds := [.data], laidTests := true, laidLooks := .later }
def ClusterAgreesCardSaid : Prop := Claim7.holds Tryz.pinned (.plain (OpenSpec.ofChange clusterAgreesSpec)) clusterAgreesCard

/-- THE TIED CARD OF 'rickyardlaw18.ClusterSafe'. -/
def clusterSafeCard : Claim7 := { stood := { row := clusterSafeRow, standIns := [], harness := (true, "811fb9eecbcd6ddfe8552d6b2470d524de64243e96b5b0c881da82d998f137fc"), looks := false }, kinds := [], alts := [], laidByText := true, laidKinds := [.data], laidTests := true, laidLooks := .later }
def ClusterSafeCardSaid : Prop := Claim7.holds Tryz.pinned (.plain (OpenSpec.ofChange clusterSafeSpec)) clusterSafeCard

/-- THE TIED CARD OF 'rickyardlaw18.ClusterLeads'. -/
def clusterLeadsCard : Claim7 := { stood := { row := clusterLeadsRow, standIns := [], harness := (true, "811fb9eecbcd6ddfe8552d6b2470d524de64243e96b5b0c881da82d998f137fc"), looks := false }, kinds := [], alts := [], laidByText := true, laidKinds := [.data], laidTests := true, laidLooks := .later }
def ClusterLeadsCardSaid : Prop := Claim7.holds Tryz.pinned (.plain (OpenSpec.ofChange clusterLeadsSpec)) clusterLeadsCard

/-- THE TIED CARD OF 'rickyardlaw18.ClusterLogs'. -/
def clusterLogsCard : Claim7 := { stood := { row := clusterLogsRow, standIns := [], harness := (true, "811fb9eecbcd6ddfe8552d6b2470d524de64243e96b5b0c881da82d998f137fc"), looks := false }, kinds := [], alts := [], laidByText := true, laidKinds := [.data], laidTests := true, laidLooks := .later }
def ClusterLogsCardSaid : Prop := Claim7.holds Tryz.pinned (.plain (OpenSpec.ofChange clusterLogsSpec)) clusterLogsCard

/-- THE TIED CARD OF 'rickyardlaw18.ClusterKeeps'. -/
def clusterKeepsCard : Claim7 := { stood := { row := clusterKeepsRow, standIns := [], harness := (true, "811fb9eecbcd6ddfe8552d6b2470d524de64243e96b5b0c881da82d998f137fc"), looks := false }, kinds := [], alts := [], laidByText := true, laidKinds := [.data], laidTests := true, laidLooks := .later }
def ClusterKeepsCardSaid : Prop := Claim7.holds Tryz.pinned (.plain (OpenSpec.ofChange clusterKeepsSpec)) clusterKeepsCard

/-- THE TIED CARD OF 'rickyardlaw18.ClusterStays'. -/
def clusterStaysCard : Claim7 := { stood := { row := clusterStaysRow, standIns := [], harness := (true, "811fb9eecbcd6ddfe8552d6b2470d524de64243e96b5b0c881da82d998f137fc"), looks := false }, kinds := [], alts := [], laidByText := true, laidKinds := [.data], laidTests := true, laidLooks := .later }
def ClusterStaysCardSaid : Prop := Claim7.holds Tryz.pinned (.plain (OpenSpec.ofChange clusterStaysSpec)) clusterStaysCard

/-- THE TIED CARD OF 'rickyardlaw18.ClusterErrors'. -/
def clusterErrorsCard : Claim7 := { stood := { row := clusterErrorsRow, standIns := [], harness := (true, "811fb9eecbcd6ddfe8552d6b2470d524de64243e96b5b0c881da82d998f137fc"), looks := false }, kinds := [], alts := [], laidByText := true, laidKinds := [.data], laidTests := true, laidLooks := .later }
def ClusterErrorsCardSaid : Prop := Claim7.holds Tryz.pinned (.plain (OpenSpec.ofChange clusterErrorsSpec)) clusterErrorsCard

/-- THE SECOND FORM's CARD OF 'rickyardlaw18.ClusterAgrees'. -/
def clusterAgreesUptoCard : Claim7 := { stood := { row := clusterAgreesUptoRow, standIns := [], harness := (true, "811fb9eecbcd6ddfe8552d6b2470d524de64243e96b5b0c881da82d998f137fc"), looks := false }, kinds := [], alts := [], laidByText := true, laidKinds := [.data], laidTests := true, laidLooks := .later }
def ClusterAgreesUptoCardSaid : Prop := Claim7.holds Tryz.pinned (.plain (OpenSpec.upto clusterAgreesSpec)) clusterAgreesUptoCard

/-- THE SECOND FORM's CARD OF 'rickyardlaw18.ClusterSafe'. -/
def clusterSafeUptoCard : Claim7 := { stood := { row := clusterSafeUptoRow, standIns := [], harness := (true, "811fb9eecbcd6ddfe8552d6b2470d524de64243e96b5b0c881da82d998f137fc"), looks := false }, kinds := [], alts := [], laidByText := true, laidKinds := [.data], laidTests := true, laidLooks := .later }
def ClusterSafeUptoCardSaid : Prop := Claim7.holds Tryz.pinned (.plain (OpenSpec.upto clusterSafeSpec)) clusterSafeUptoCard

/-- THE SECOND FORM's CARD OF 'rickyardlaw18.ClusterLeads'. -/
def clusterLeadsUptoCard : Claim7 := { stood := { row := clusterLeadsUptoRow, standIns := [], harness := (true, "811fb9eecbcd6ddfe8552d6b2470d524de64243e96b5b0c881da82d998f137fc"), looks := false }, kinds := [], alts := [], laidByText := true, laidKinds := [.data], laidTests := true, laidLooks := .later }
def ClusterLeadsUptoCardSaid : Prop := Claim7.holds Tryz.pinned (.plain (OpenSpec.upto clusterLeadsSpec)) clusterLeadsUptoCard

/-- THE SECOND FORM's CARD OF 'rickyardlaw18.ClusterLogs'. -/
def clusterLogsUptoCard : Claim7 := { stood := { row := clusterLogsUptoRow, standIns := [], harness := (true, "811fb9eecbcd6ddfe8552d6b2470d524de64243e96b5b0c881da82d998f137fc"), looks := false }, kinds := [], alts := [], laidByText := true, laidKinds := [.data], laidTests := true, laidLooks := .later }
def ClusterLogsUptoCardSaid : Prop := Claim7.holds Tryz.pinned (.plain (OpenSpec.upto clusterLogsSpec)) clusterLogsUptoCard

/-- THE SECOND FORM's CARD OF 'rickyardlaw18.ClusterKeeps'. -/
def clusterKeepsUptoCard : Claim7 := { stood := { row := clusterKeepsUptoRow, standIns := [], harness := (true, "811fb9eecbcd6ddfe8552d6b2470d524de64243e96b5b0c881da82d998f137fc"), looks := false }, kinds := [], alts := [], laidByText := true, laidKinds := [.data], laidTests := true, laidLooks := .later }
def ClusterKeepsUptoCardSaid : Prop := Claim7.holds Tryz.pinned (.plain (OpenSpec.upto clusterKeepsSpec)) clusterKeepsUptoCard

/-- THE SECOND FORM's CARD OF 'rickyardlaw18.ClusterStays'. -/
def clusterStaysUptoCard : Claim7 := { stood := { row := clusterStaysUptoRow, standIns := [], harness := (true, "811fb9eecbcd6ddfe8552d6b2470d524de64243e96b5b0c881da82d998f137fc"), looks := false }, kinds := [], alts := [], laidByText := true, laidKinds := [.data], laidTests := true, laidLooks := .later }
def ClusterStaysUptoCardSaid : Prop := Claim7.holds Tryz.pinned (.plain (OpenSpec.upto clusterStaysSpec)) clusterStaysUptoCard

/-- THE SECOND FORM's CARD OF 'rickyardlaw18.ClusterErrors'. -/
def clusterErrorsUptoCard : Claim7 := { stood := { row := clusterErrorsUptoRow, standIns := [], harness := (true, "811fb9eecbcd6ddfe8552d6b2470d524de64243e96b5b0c881da82d998f137fc"), looks := false }, kinds := [], alts := [], laidByText := true, laidKinds := [.data], laidTests := true, laidLooks := .later }
def ClusterErrorsUptoCardSaid : Prop := Claim7.holds Tryz.pinned (.plain (OpenSpec.upto clusterErrorsSpec)) clusterErrorsUptoCard
end Rows
end Go.Proofs.YtmcibggjolckoaaGreatDoor
