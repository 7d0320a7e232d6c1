/-
  errors.Is at an api.Errno in a chain.
-/
import Derived.Test.YtkfcjmjknflndaaGreatDoorErr
set_option linter.unusedVariables false
set_option linter.unusedSimpArgs false
namespace Go.Proofs.ErrW
open Go.RowKit Go.Extern.Stop Go.Stop Go.Extern
theorem cmpE (w : World) : (ReflectliteType.method (fun t => do Rtype.noPackHeld "Comparable" t; (fun a => Value.bool a.comparable) <$> Go.typeInfo t) #[.agg #[.pointer (some ⟨2, 51, none⟩)]]).run Tryz.prog w = .ok (.bool true) w := by kernel_rfl
theorem eqDiff (v : Value) (k : Int) (w : World) : (binOp .eql 35 (.iface 206 v) (.iface 51 (.int .i64 k))).run Tryz.prog w = .ok (.bool false) w := by kernel_rfl
theorem infoE : ∃ i, Tryz.prog.info? 51 = some i ∧ i.comparable = true := by
  have h1 : (Tryz.prog.info? 51).map (·.comparable) = some true := by kernel_rfl
  cases h : Tryz.prog.info? 51 with
  | none => rw [h] at h1; cases h1
  | some i => rw [h] at h1; exact ⟨i, rfl, by simpa using h1⟩
theorem eqIn (d : Nat) (k : Int) (w : World) : (Op.equalIn (d + 2) 35 (.iface 51 (.int .i64 k)) (.iface 51 (.int .i64 k))).run Tryz.prog w = .ok true w := by
  obtain ⟨i, hi, hc⟩ := infoE
  simp [Op.equalIn, run_underlying Tryz.underlying35, run_underlying Tryz.underlying51, typeInfo, hi, hc]
theorem eqSame (k : Int) (w : World) : (binOp .eql 35 (.iface 51 (.int .i64 k)) (.iface 51 (.int .i64 k))).run Tryz.prog w = .ok (.bool true) w := by
  simp only [binOp]
  simp [Op.equal, Op.maxDepth, eqIn 9998 k w]
set_option maxRecDepth 100000 in
set_option maxHeartbeats 4000000 in
theorem is_0 (w : World) (k : Int) :
    Calls Tryz.prog 395 #[.iface 51 (.int .i64 k), .iface 51 (.int .i64 k)] w fun ev w' => ev = .returned (.bool true) ∧ Below w.heap.size w w' := by
  have h10 := @run_callFunc_extern Tryz.prog 222 _ ReflectliteType.typeOf Tryz.func222 (by kernel_rfl) (by kernel_rfl) (by kernel_rfl) (by kernel_rfl)
  have h36 := @run_callFunc_extern Tryz.prog 422 _ (ReflectliteType.method (fun t => do Rtype.noPackHeld "Comparable" t; pure (.bool (← Go.typeInfo t).comparable))) Tryz.func422 (by kernel_rfl) (by kernel_rfl) (by kernel_rfl) (by kernel_rfl)
  have tO := typeOfE
  have mC := methodComparable
  have cE := cmpE
  have eD := eqDiff
  have eS := eqSame
  have mU := methodUnwrap
  have ta1 := taIs
  have ta2 := taUnwrap
  go_enter Tryz.func395, Tryz.ntmps395
  go_wp2
  refine wp_loop_rounds 1 ?_
  rw [rounds_succ]
  go_wp2
  go_ret
  exact ⟨rfl, Below.refl _ w⟩

set_option maxRecDepth 100000 in
set_option maxHeartbeats 4000000 in
theorem is_1 (w : World) (k : Int) (p1 : Addr) (hp1 : p1.spot = none) (he1 : w.cell? ⟨p1.block, p1.off + 1, none⟩ = some (.iface 51 (.int .i64 k))) :
    Calls Tryz.prog 395 #[.iface 206 (.pointer (some p1)), .iface 51 (.int .i64 k)] w fun ev w' => ev = .returned (.bool true) ∧ Below w.heap.size w w' := by
  have h10 := @run_callFunc_extern Tryz.prog 222 _ ReflectliteType.typeOf Tryz.func222 (by kernel_rfl) (by kernel_rfl) (by kernel_rfl) (by kernel_rfl)
  have h36 := @run_callFunc_extern Tryz.prog 422 _ (ReflectliteType.method (fun t => do Rtype.noPackHeld "Comparable" t; pure (.bool (← Go.typeInfo t).comparable))) Tryz.func422 (by kernel_rfl) (by kernel_rfl) (by kernel_rfl) (by kernel_rfl)
  have tO := typeOfE
  have mC := methodComparable
  have cE := cmpE
  have eD := eqDiff
  have eS := eqSame
  have mU := methodUnwrap
  have ta1 := taIs
  have ta2 := taUnwrap
  go_enter Tryz.func395, Tryz.ntmps395
  go_wp2
  refine wp_loop_rounds 2 ?_
  rw [rounds_succ]
  go_wp2
  rw [rounds_succ]
  go_wp2
  go_ret
  exact ⟨rfl, Below.refl _ w⟩

set_option maxRecDepth 100000 in
set_option maxHeartbeats 4000000 in
theorem is_2 (w : World) (k : Int) (p1 p2 : Addr) (hp1 : p1.spot = none) (he1 : w.cell? ⟨p1.block, p1.off + 1, none⟩ = some (.iface 206 (.pointer (some p2)))) (hp2 : p2.spot = none) (he2 : w.cell? ⟨p2.block, p2.off + 1, none⟩ = some (.iface 51 (.int .i64 k))) :
    Calls Tryz.prog 395 #[.iface 206 (.pointer (some p1)), .iface 51 (.int .i64 k)] w fun ev w' => ev = .returned (.bool true) ∧ Below w.heap.size w w' := by
  have h10 := @run_callFunc_extern Tryz.prog 222 _ ReflectliteType.typeOf Tryz.func222 (by kernel_rfl) (by kernel_rfl) (by kernel_rfl) (by kernel_rfl)
  have h36 := @run_callFunc_extern Tryz.prog 422 _ (ReflectliteType.method (fun t => do Rtype.noPackHeld "Comparable" t; pure (.bool (← Go.typeInfo t).comparable))) Tryz.func422 (by kernel_rfl) (by kernel_rfl) (by kernel_rfl) (by kernel_rfl)
  have tO := typeOfE
  have mC := methodComparable
  have cE := cmpE
  have eD := eqDiff
  have eS := eqSame
  have mU := methodUnwrap
  have ta1 := taIs
  have ta2 := taUnwrap
  go_enter Tryz.func395, Tryz.ntmps395
  go_wp2
  refine wp_loop_rounds 3 ?_
  rw [rounds_succ]
  go_wp2
  rw [rounds_succ]
  go_wp2
  rw [rounds_succ]
  go_wp2
  go_ret
  exact ⟨rfl, Below.refl _ w⟩

set_option maxRecDepth 100000 in
set_option maxHeartbeats 4000000 in
theorem is_3 (w : World) (k : Int) (p1 p2 p3 : Addr) (hp1 : p1.spot = none) (he1 : w.cell? ⟨p1.block, p1.off + 1, none⟩ = some (.iface 206 (.pointer (some p2)))) (hp2 : p2.spot = none) (he2 : w.cell? ⟨p2.block, p2.off + 1, none⟩ = some (.iface 206 (.pointer (some p3)))) (hp3 : p3.spot = none) (he3 : w.cell? ⟨p3.block, p3.off + 1, none⟩ = some (.iface 51 (.int .i64 k))) :
    Calls Tryz.prog 395 #[.iface 206 (.pointer (some p1)), .iface 51 (.int .i64 k)] w fun ev w' => ev = .returned (.bool true) ∧ Below w.heap.size w w' := by
  have h10 := @run_callFunc_extern Tryz.prog 222 _ ReflectliteType.typeOf Tryz.func222 (by kernel_rfl) (by kernel_rfl) (by kernel_rfl) (by kernel_rfl)
  have h36 := @run_callFunc_extern Tryz.prog 422 _ (ReflectliteType.method (fun t => do Rtype.noPackHeld "Comparable" t; pure (.bool (← Go.typeInfo t).comparable))) Tryz.func422 (by kernel_rfl) (by kernel_rfl) (by kernel_rfl) (by kernel_rfl)
  have tO := typeOfE
  have mC := methodComparable
  have cE := cmpE
  have eD := eqDiff
  have eS := eqSame
  have mU := methodUnwrap
  have ta1 := taIs
  have ta2 := taUnwrap
  go_enter Tryz.func395, Tryz.ntmps395
  go_wp2
  refine wp_loop_rounds 4 ?_
  rw [rounds_succ]
  go_wp2
  rw [rounds_succ]
  go_wp2
  rw [rounds_succ]
  go_wp2
  rw [rounds_succ]
  go_wp2
  go_ret
  exact ⟨rfl, Below.refl _ w⟩

end Go.Proofs.ErrW
