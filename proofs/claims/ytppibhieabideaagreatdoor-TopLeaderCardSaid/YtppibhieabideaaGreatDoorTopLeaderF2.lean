/- TopLeader: closed facts of the program, part 2. -/
import Derived.Test.YtppibhieabideaaGreatDoorCards
import Derived.JoinedCond
namespace Go.Proofs.YtppibhieabideaaGreatDoor.topLeader
open Go
theorem k10 : ((Rows.topLeaderRow.unfollowed == Tryz.pinned.checked.prog.unfollowed 3)) = true := by kernel_rfl
end Go.Proofs.YtppibhieabideaaGreatDoor.topLeader
