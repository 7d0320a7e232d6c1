/-
  Closed facts of the row, part 5.
-/
import Derived.Test.YtkfcjmjknflndaaGreatDoorRows
import Derived.Test.YtkfcjmjknflndaaGreatDoorJ1
import Derived.Test.YtkfcjmjknflndaaGreatDoorJ2
import Derived.Test.YtkfcjmjknflndaaGreatDoorJ3
import Derived.Test.YtkfcjmjknflndaaGreatDoorJ4
import Derived.JoinedOf
import Derived.KernelRfl
set_option linter.unusedVariables false
set_option linter.unusedSimpArgs false
namespace Go.Proofs.YtkfcjmjknflndaaGreatDoor
open Go
theorem j_wf : (Rows.coreNoneRow.wf (OpenSpec.ofChange Rows.coreNoneSpec)) = true := by kernel_rfl
theorem j_readable : (Tryz.f3.params.all (Tryz.prog.readableRec ·)) = true := by kernel_rfl
theorem j_namedTie : (namedTie Tryz.prog Rows.coreNoneRow.named Rows.coreNoneSpec.vars) = true := by kernel_rfl
theorem j_stops : (Rows.coreNoneRow.stops == []) = true := by kernel_rfl
theorem j_Pstops : (Tryz.prog.stops == []) = true := by kernel_rfl
theorem j_knobs : (Rows.coreNoneRow.knobs == []) = true := by kernel_rfl
theorem j_stopKnobs : (Tryz.prog.stopKnobs == []) = true := by kernel_rfl
theorem j_named : (Rows.coreNoneRow.named == Tryz.prog.varsNamed 3) = true := by kernel_rfl
theorem j_maps : (Rows.coreNoneRow.maps == (Tryz.f3.params.toList ++ Rows.coreNoneSpec.plain.varTypes Tryz.prog).any (Tryz.prog.mapsRec ·)) = true := by kernel_rfl
theorem j_ifaces : (Rows.coreNoneRow.ifaces == (Tryz.f3.params.toList ++ Rows.coreNoneSpec.plain.varTypes Tryz.prog).any (Tryz.prog.ifacesRec ·)) = true := by kernel_rfl
theorem j_mapsOut : (Rows.coreNoneRow.mapsOut == Tryz.prog.mapsAmong Tryz.f3.resultTypes.toList) = true := by kernel_rfl
theorem j_loops : (Rows.coreNoneRow.loops == (Tryz.f3.params.toList ++ Rows.coreNoneSpec.plain.varTypes Tryz.prog).any (Tryz.prog.loopsFrom ·)) = true := by kernel_rfl
theorem j_wideKeys : (Rows.coreNoneRow.wideKeys == (Tryz.f3.params.toList ++ Rows.coreNoneSpec.plain.varTypes Tryz.prog ++ Tryz.f3.resultTypes.toList).any (Tryz.prog.wideKeysFrom ·)) = true := by kernel_rfl
theorem j_varsReadable : (Rows.coreNoneSpec.vars.all (Tryz.prog.varReadable ·)) = true := by kernel_rfl
theorem j_results : (Tryz.f3.resultTypes.all (fun t => Tryz.prog.readableRec t && decide (t < Tryz.prog.types.size))) = true := by kernel_rfl
theorem j_ifacesOut : (Rows.coreNoneRow.ifacesOut == Tryz.f3.resultTypes.toList.any (Tryz.prog.ifacesRec ·)) = true := by kernel_rfl
theorem j_loopsOut : (Rows.coreNoneRow.loopsOut == Tryz.f3.resultTypes.toList.any (Tryz.prog.loopsFrom ·)) = true := by kernel_rfl
theorem j_shortTexts : (Rows.coreNoneRow.shortTexts.isNone) = true := by kernel_rfl
theorem j_lifted : (Rows.coreNoneRow.lifted == Tryz.prog.liftsFinal) = true := by kernel_rfl
theorem j_make : (Tryz.prog.make == some Rows.coreNoneRow.make) = true := by kernel_rfl
theorem j_kinds : (Rows.coreNoneRow.kinds == (if Rows.coreNoneRow.domain.isEmpty then [] else Tryz.f3.params.toList.map fun t => match Tryz.prog.underlying t with | some (.int k) => some k | _ => none)) = true := by kernel_rfl
theorem j_pinned : (Rows.coreNoneRow.pinned == Rows.coreNoneRow.pinnedBy) = true := by kernel_rfl
theorem j_veiled : (Rows.coreNoneRow.veiled == (Tryz.f3.params.toList ++ Rows.coreNoneSpec.plain.varTypes Tryz.prog ++ Tryz.f3.resultTypes.toList).any (Tryz.prog.veiledRec ·)) = true := by kernel_rfl
theorem j_veiledFits : (Rows.coreNoneRow.veiledFits Tryz.prog Tryz.f3.params.toList (Tryz.f3.params.toList ++ Rows.coreNoneSpec.plain.varTypes Tryz.prog ++ Tryz.f3.resultTypes.toList)) = true := by kernel_rfl
theorem joined : joinedFacts Tryz.prog 3 Tryz.f3 Rows.coreNoneSpec Rows.coreNoneRow = true := by
  unfold joinedFacts
  rw [j_wf, j_laidOut, j_mapsRowed, j_readable, j_namedTie, j_stops, j_Pstops, j_knobs, j_stopKnobs, j_inPlace, j_unfollowed, j_recurses, j_named, j_maps, j_ifaces, j_mapsOut, j_loops, j_wideKeys, j_varsReadable, j_results, j_ifacesOut, j_loopsOut, j_plainKeys, j_shortTexts, j_stopsHeard, j_mayEnter, j_lifted, j_make, j_pinned, j_veiled, j_veiledFits]
  kernel_rfl
end Go.Proofs.YtkfcjmjknflndaaGreatDoor
