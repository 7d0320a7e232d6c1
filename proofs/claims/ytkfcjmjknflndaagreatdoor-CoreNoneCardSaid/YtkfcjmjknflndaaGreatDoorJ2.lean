/-
  Closed facts of the row, part 2.
-/
import Derived.Test.YtkfcjmjknflndaaGreatDoorRows
import Derived.JoinedOf
import Derived.KernelRfl
set_option linter.unusedVariables false
set_option linter.unusedSimpArgs false
namespace Go.Proofs.YtkfcjmjknflndaaGreatDoor
open Go
theorem j_inPlace : (Rows.coreNoneRow.inPlace == Tryz.prog.inPlace 3) = true := by kernel_rfl
theorem j_plainKeys : (Rows.coreNoneRow.plainKeys == Tryz.prog.plainKeys) = true := by kernel_rfl
end Go.Proofs.YtkfcjmjknflndaaGreatDoor
