/- TopLeader: closed facts of the program, part 4. -/
import Derived.Test.YtppibhieabideaaGreatDoorCards
import Derived.JoinedCond
namespace Go.Proofs.YtppibhieabideaaGreatDoor.topLeader
open Go
theorem k12 : ((Rows.topLeaderRow.named == Tryz.pinned.checked.prog.varsNamed 3)) = true := by kernel_rfl
end Go.Proofs.YtppibhieabideaaGreatDoor.topLeader
