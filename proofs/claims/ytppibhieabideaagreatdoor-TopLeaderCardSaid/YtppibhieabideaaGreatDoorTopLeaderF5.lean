/- TopLeader: closed facts of the program, part 5. -/
import Derived.Test.YtppibhieabideaaGreatDoorCards
import Derived.JoinedCond
namespace Go.Proofs.YtppibhieabideaaGreatDoor.topLeader
open Go
theorem k2 : (mapsRowed Tryz.pinned.checked.prog) = true := by kernel_rfl
theorem k24 : (Tryz.pinned.checked.prog.stopsHeard) = true := by kernel_rfl
theorem k25 : (Tryz.pinned.checked.prog.mayEnter) = true := by kernel_rfl
theorem kg : Tryz.pinned.checked.prog.funcs.any Func.goes = false := by kernel_rfl
end Go.Proofs.YtppibhieabideaaGreatDoor.topLeader
