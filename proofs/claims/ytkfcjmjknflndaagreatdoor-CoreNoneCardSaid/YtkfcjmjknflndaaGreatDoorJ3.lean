/-
  Closed facts of the row, part 3.
-/
import Derived.Test.YtkfcjmjknflndaaGreatDoorRows
import Derived.JoinedOf
import Derived.KernelRfl
set_option linter.unusedVariables false
set_option linter.unusedSimpArgs false
namespace Go.Proofs.YtkfcjmjknflndaaGreatDoor
open Go
theorem j_unfollowed : (Rows.coreNoneRow.unfollowed == Tryz.prog.unfollowed 3) = true := by kernel_rfl
theorem j_stopsHeard : (Tryz.prog.stopsHeard) = true := by kernel_rfl
end Go.Proofs.YtkfcjmjknflndaaGreatDoor
