/- TopLeader: closed facts of the program, part 3. -/
import Derived.Test.YtppibhieabideaaGreatDoorCards
import Derived.JoinedCond
namespace Go.Proofs.YtppibhieabideaaGreatDoor.topLeader
open Go
theorem k11 : ((Rows.topLeaderRow.recurses == Tryz.pinned.checked.prog.recurses 3)) = true := by kernel_rfl
end Go.Proofs.YtppibhieabideaaGreatDoor.topLeader
