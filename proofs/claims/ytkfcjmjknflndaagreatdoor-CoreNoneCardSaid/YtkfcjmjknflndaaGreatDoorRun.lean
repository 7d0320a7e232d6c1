/-
  CoreNone returns true, in whatever world that holds the two package-level variables; what lay there stays.
-/
import Derived.Test.YtkfcjmjknflndaaGreatDoorPrims
import Derived.Test.YtkfcjmjknflndaaGreatDoorLv1
import Derived.Test.YtkfcjmjknflndaaGreatDoorLv4
import Derived.Test.YtkfcjmjknflndaaGreatDoorLv7
import Derived.Test.YtkfcjmjknflndaaGreatDoorLv13
import Derived.Test.YtkfcjmjknflndaaGreatDoorLv18
import Derived.Test.YtkfcjmjknflndaaGreatDoorLv23
import Derived.Test.YtkfcjmjknflndaaGreatDoorLvNone
set_option linter.unusedVariables false
set_option linter.unusedSimpArgs false
namespace Go.Proofs.Ker
open Go Go.AM Go.Proofs Go.RowKit

theorem k23_ok : ∀ f g, prims k23 f = some g → PrimOK Tryz.prog f g := level (level (level (level (level (level prims_ok run1) run4) run7) run13) run18) run23

theorem row_of_cell {w : World} {b k : Nat} {v : Value} (h : w.cell? ⟨b, k, none⟩ = some v) : ∃ cs T fr, w.heap[b]? = some (.cells cs T fr) ∧ cs[k]? = some v := by
  unfold World.cell? at h
  cases hb : w.heap[b]? with
  | none => simp [hb] at h
  | some o =>
    cases o with
    | cells cs T fr => exact ⟨cs, T, fr, rfl, by simpa [hb] using h⟩
    | _ => simp [hb] at h

/-- the two variables -/
structure Vars (w : World) : Prop where
  err : w.cell? ⟨0, 0, none⟩ = some (.iface 322 (.agg #[.pointer (some ⟨2, 35, none⟩)]))
  tab : ∀ i, (h : i < deBruijn.length) → ∃ n, deBruijn[i] = .int .u8 n ∧ w.cell? ⟨1, i, none⟩ = some (.int .u8 n)

theorem base_of {w : World} (h : Vars w) : SR (fun i => i ≤ 2) (fun i => ⟨i, 0, 0⟩) (base0 e0 deBruijn).at w := by
  have hlen : deBruijn.length = 32 := rfl
  refine ⟨fun i o hi => ?_, fun i o hi => ?_, fun i j o o' _ _ he => he, fun k hk => ⟨hk, rfl, rfl⟩⟩
  · rcases base_at hi with ⟨rfl, _⟩ | ⟨rfl, _⟩
    · exact Nat.zero_le 2
    · exact Nat.le_succ 1
  · rcases base_at hi with ⟨rfl, rfl⟩ | ⟨rfl, rfl⟩
    · obtain ⟨cs, T, ⟨lo, hi'⟩, h1, h2⟩ := row_of_cell h.err
      have hlt : 0 < cs.size := (Array.getElem?_eq_some_iff.1 h2).1
      refine ⟨_, h1, cs, T, lo, hi', rfl, by show 0 + 1 ≤ cs.size; omega, Nat.zero_le _, fun i hi => ?_, fun h => by cases h⟩
      have : i = 0 := by have : i < 1 := hi; omega
      subst this
      refine ⟨_, by rw [Nat.zero_add]; exact h2, ?_, ?_⟩
      · rw [roRow_get (l := [e0]) Nat.zero_lt_one]
        have := VR.ptr (D := fun i => i ≤ 2) (μ := fun i => ⟨i, 0, 0⟩) 2 35 (Nat.le_refl 2)
        rw [Nat.zero_add] at this
        exact .ifc _ _ _ (.agg _ _ (.cons _ _ _ _ this .nil))
      · rw [roRow_get (l := [e0]) Nat.zero_lt_one]; rfl
    · obtain ⟨n0, _, c0⟩ := h.tab 0 (by rw [hlen]; omega)
      obtain ⟨cs, T, ⟨lo, hi'⟩, h1, h2⟩ := row_of_cell c0
      have all : ∀ i, (hi : i < deBruijn.length) → ∃ n, deBruijn[i] = .int .u8 n ∧ cs[i]? = some (.int .u8 n) := fun i hi => by
        obtain ⟨n, e1, e2⟩ := h.tab i hi
        obtain ⟨cs', T', fr', g1, g2⟩ := row_of_cell e2
        rw [h1] at g1
        cases g1
        exact ⟨n, e1, g2⟩
      obtain ⟨n31, _, e31⟩ := all 31 (by rw [hlen]; omega)
      have hlt : 31 < cs.size := (Array.getElem?_eq_some_iff.1 e31).1
      refine ⟨_, h1, cs, T, lo, hi', rfl, by show 0 + deBruijn.length ≤ cs.size; rw [hlen]; omega, Nat.zero_le _, fun i hi => ?_, fun h => by cases h⟩
      have hi2 : i < deBruijn.length := hi
      obtain ⟨n, e1, e2⟩ := all i hi2
      refine ⟨_, by rw [Nat.zero_add]; exact e2, ?_, ?_⟩
      · rw [roRow_get hi2, e1]; exact .int _ _
      · rw [roRow_get hi2, e1]; rfl

theorem coreNone_calls (w : World) (h : Vars w) : Calls Tryz.prog 3 #[] w fun e w' => e = .returned (.bool true) ∧ Below w.heap.size w w' := by
  obtain ⟨s1, h1⟩ := of_tst runNone
  obtain ⟨_, h2⟩ := call_ok k23_ok 1000 (fun i => i ≤ 2) (fun i => ⟨i, 0, 0⟩) _ [] #[] (base0 e0 deBruijn) w (.bool true) s1 .nil (base_of h) (fun i hi => .inl (by show i < 10; have : i ≤ 2 := hi; omega)) h1
  refine Calls.mono h2 fun ev w' hev => ?_
  obtain ⟨v', D', μ', rfl, h3, h4⟩ := hev
  have := vr_bool h4
  subst this
  exact ⟨rfl, h3.same.os, h3.same.tape, h3.same.output, h3.size, fun k hk => h3.keep k hk fun i o hi hw => by
    rcases base_at hi with ⟨_, rfl⟩ | ⟨_, rfl⟩ <;> cases hw⟩
end Go.Proofs.Ker
