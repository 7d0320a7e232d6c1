/-
  The abstract machine runs this closed call: true.
-/
import Derived.Test.YtkfcjmjknflndaaGreatDoorBase
set_option linter.unusedVariables false
set_option linter.unusedSimpArgs false
namespace Go.Proofs.Ker
theorem run7 : tst k4 345 = true := by decide +kernel
end Go.Proofs.Ker
