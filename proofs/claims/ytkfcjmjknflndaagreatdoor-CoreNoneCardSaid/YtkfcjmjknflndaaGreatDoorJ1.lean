/-
  Closed facts of the row, part 1.
-/
import Derived.Test.YtkfcjmjknflndaaGreatDoorRows
import Derived.JoinedOf
import Derived.KernelRfl
set_option linter.unusedVariables false
set_option linter.unusedSimpArgs false
namespace Go.Proofs.YtkfcjmjknflndaaGreatDoor
open Go
theorem j_laidOut : (laidOutB Tryz.prog) = true := by kernel_rfl
theorem j_mapsRowed : (mapsRowed Tryz.prog) = true := by kernel_rfl
end Go.Proofs.YtkfcjmjknflndaaGreatDoor
