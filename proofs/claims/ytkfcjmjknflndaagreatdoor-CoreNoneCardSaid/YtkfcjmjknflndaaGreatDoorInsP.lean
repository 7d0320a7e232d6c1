/-
  slices.Insert at int and at api.Hit: the primitives are sound.
-/
import Derived.Test.YtkfcjmjknflndaaGreatDoorIns2
import Derived.Test.YtkfcjmjknflndaaGreatDoorAmE
set_option linter.unusedVariables false
set_option linter.unusedSimpArgs false
namespace Go.Proofs.InsP
open Go Go.AM Go.Proofs
theorem insC1 : InsC Tryz.prog 255 1 8 3 (Value.int .i64 0).cells := {
  call := ⟨_, Tryz.func255, by kernel_rfl, by kernel_rfl⟩
  shift := by simpa only [Nat.mul_one] using InsA.ins_shift
  endRoom := by simpa only [Nat.mul_one] using InsA.ins_end_room
  endGrow := by simpa only [Nat.mul_one] using InsA.ins_end_grow
  grow := by simpa only [Nat.mul_one] using InsA.ins_grow }
theorem insC2 : InsC Tryz.prog 328 2 16 132 (Value.agg #[.int .i64 0, .int .i64 0]).cells := {
  call := ⟨_, Tryz.func328, by kernel_rfl, by kernel_rfl⟩
  shift := InsB.ins_shift
  endRoom := InsB.ins_end_room
  endGrow := InsB.ins_end_grow
  grow := InsB.ins_grow }
theorem pIns1_ok : PrimOK Tryz.prog 255 (pIns 1) := pIns_ok insC1 rfl (by omega) (by omega)
theorem pIns2_ok : PrimOK Tryz.prog 328 (pIns 2) := pIns_ok insC2 rfl (by omega) (by omega)
end Go.Proofs.InsP
