/-
  CoreNone starts no goroutine by its text: no function of the translation does.
-/
import Derived.Test.YtkfcjmjknflndaaGreatDoorRows
import Derived.KernelRfl
import Derived.SevenTiedAt
set_option linter.unusedVariables false
set_option linter.unusedSimpArgs false
namespace Go.Proofs.YtkfcjmjknflndaaGreatDoor
open Go
theorem noGoes : Tryz.prog.funcs.toList.all (fun fn => !fn.goes) = true := by kernel_rfl
theorem goesNot (fn : Func) (h : fn ∈ Tryz.prog.funcs.toList) : fn.goes = false := by
  have := List.all_eq_true.1 noGoes fn h
  simpa using this
theorem atNot (g : FuncId) : (Tryz.prog.funcs[g]?).any Func.goes = false := by
  cases h : Tryz.prog.funcs[g]? with
  | none => rfl
  | some fn =>
    have hm : fn ∈ Tryz.prog.funcs.toList := by
      rw [← Array.getElem?_toList] at h
      exact List.mem_of_getElem? h
    exact goesNot fn hm
theorem goesOf (f : FuncId) : Tryz.prog.goes f = false := by
  unfold Program.goes
  have h1 : ((Tryz.prog.closure f).any fun g => (Tryz.prog.funcs[g]?).any Func.goes) = false := by
    rw [List.any_eq_false]
    intro g _
    rw [atNot g]
    simp
  have h2 : Tryz.prog.funcs.any Func.goes = false := by
    rw [← Array.any_toList, List.any_eq_false]
    intro fn hfn
    rw [goesNot fn hfn]
    simp
  rw [h1, h2, Bool.and_false]
  rfl
theorem anyNot (o : Option FuncId) : o.any Tryz.prog.goes = false := by
  cases o with
  | none => rfl
  | some f => rw [Option.any_some]; exact goesOf f
theorem goes : false = Rows.coreNoneRow.goesBy Tryz.prog := by
  unfold OpenClaim.goesBy Program.goesAt Program.goesFrom
  rw [anyNot]
  rfl
end Go.Proofs.YtkfcjmjknflndaaGreatDoor
