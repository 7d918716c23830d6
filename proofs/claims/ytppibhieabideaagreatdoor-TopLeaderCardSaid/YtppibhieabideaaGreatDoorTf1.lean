/- The program lays its tables as the row lists them: closed facts, part 1. -/
import Derived.Test.YtppibhieabideaaGreatDoorRows
import Derived.LaidByTextLater
import Derived.SevenTiedAt
namespace Go.Proofs.YtppibhieabideaaGreatDoor
open Go
theorem tf1 : Tryz.prog.worded (varsWordLater true) = true := by kernel_rfl
theorem tf2 : Tryz.prog.worded (varsWordLater !true) = false := by kernel_rfl
theorem tf3 : Tryz.prog.worded rootWordLater = true := by kernel_rfl
end Go.Proofs.YtppibhieabideaaGreatDoor
