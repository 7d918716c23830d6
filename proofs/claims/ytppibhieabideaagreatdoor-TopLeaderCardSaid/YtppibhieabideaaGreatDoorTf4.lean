/- The program lays its tables as the row lists them: closed facts, part 4. -/
import Derived.Test.YtppibhieabideaaGreatDoorRows
import Derived.LaidByTextLater
import Derived.SevenTiedAt
namespace Go.Proofs.YtppibhieabideaaGreatDoor
open Go
theorem tf7 : ∀ os tape, varsDone Tryz.prog 400 (varsId Tryz.prog) os tape = true := fun _ _ => by kernel_rfl
end Go.Proofs.YtppibhieabideaaGreatDoor
