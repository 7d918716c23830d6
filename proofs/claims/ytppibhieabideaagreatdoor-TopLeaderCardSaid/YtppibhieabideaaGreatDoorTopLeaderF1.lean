/- TopLeader: closed facts of the program, part 1. -/
import Derived.Test.YtppibhieabideaaGreatDoorCards
import Derived.JoinedCond
namespace Go.Proofs.YtppibhieabideaaGreatDoor.topLeader
open Go
theorem k9 : ((Rows.topLeaderRow.inPlace == Tryz.pinned.checked.prog.inPlace 3)) = true := by kernel_rfl
end Go.Proofs.YtppibhieabideaaGreatDoor.topLeader
