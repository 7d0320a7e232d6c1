/-
  Closed facts of the row, part 4.
-/
import Derived.Test.YtkfcjmjknflndaaGreatDoorRows
import Derived.JoinedOf
import Derived.KernelRfl
set_option linter.unusedVariables false
set_option linter.unusedSimpArgs false
namespace Go.Proofs.YtkfcjmjknflndaaGreatDoor
open Go
theorem j_recurses : (Rows.coreNoneRow.recurses == Tryz.prog.recurses 3) = true := by kernel_rfl
theorem j_mayEnter : (Tryz.prog.mayEnter) = true := by kernel_rfl
end Go.Proofs.YtkfcjmjknflndaaGreatDoor
