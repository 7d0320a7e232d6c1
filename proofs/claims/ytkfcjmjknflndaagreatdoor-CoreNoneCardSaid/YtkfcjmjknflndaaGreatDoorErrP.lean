/-
  errors.As, errors.Is: the primitives are sound.
-/
import Derived.Test.YtkfcjmjknflndaaGreatDoorErrIs
import Derived.Test.YtkfcjmjknflndaaGreatDoorAmE
set_option linter.unusedVariables false
set_option linter.unusedSimpArgs false
namespace Go.Proofs.ErrW
open Go Go.AM Go.RowKit

variable {D : Nat → Prop} {μ : Nat → AM.Loc}

theorem chain_of {s : St} {w : World} (hs : SR D μ s.at w) : ∀ (n : Nat) (e : AV) (e' : Value) (k : Int), asLoop 51 206 n e s = some k → VR D μ e e' → ∃ d, d < n ∧ Chain w k d e'
  | 0, e, e', k, h, _ => by cases h
  | n + 1, e, e', k, h, hv => by
    unfold asLoop at h
    split at h
    · rename_i t v
      obtain ⟨u, rfl, hu⟩ := vr_ifc hv
      cases h1 : Nat.beq t 51 with
      | true =>
        rw [h1, cond_true] at h
        have := Nat.eq_of_beq_eq_true h1
        subst this
        split at h
        · cases h
          rw [vr_int hu]
          exact ⟨0, by omega, .here⟩
        · cases h
      | false =>
        rw [h1, cond_false] at h
        cases h2 : Nat.beq t 206 with
        | false => rw [h2] at h; cases h
        | true =>
          rw [h2, cond_true] at h
          have := Nat.eq_of_beq_eq_true h2
          subst this
          split at h
          · rename_i b o
            obtain ⟨rfl, _⟩ := vr_ptr hu
            split at h
            · rename_i r hr
              cases hb : Nat.ble (o + 2) r.size with
              | false => rw [hb] at h; cases h
              | true =>
                rw [hb, cond_true] at h
                have hle := Nat.le_of_ble_eq_true hb
                obtain ⟨v', c1, c2, _⟩ := hs.cell hr (i := o + 1) (by omega)
                obtain ⟨d, hd, hc⟩ := chain_of hs n _ v' k h c2
                exact ⟨d + 1, by omega, .more _ v' rfl (by rw [Nat.add_assoc]; exact c1) hc⟩
            · cases h
          · cases h
    · cases h

theorem two_args {a b : AV} {args' : Array Value} (h : VRs D μ [a, b] args'.toList) : ∃ a' b', args' = #[a', b'] ∧ VR D μ a a' ∧ VR D μ b b' := by
  cases hl : args'.toList with
  | nil => rw [hl] at h; cases h
  | cons x r =>
    rw [hl] at h
    cases h with
    | cons _ _ _ _ hx hr =>
      cases r with
      | nil => cases hr
      | cons y q =>
        cases hr with
        | cons _ _ _ _ hy hq =>
          cases hq
          exact ⟨x, y, Array.ext' hl, hx, hy⟩

/-- what the package-level variable of package errors holds -/
def e0 : AV := .ifc 322 (.agg [.ptr 2 35])
theorem e0_cell {s : St} {w : World} (hs : SR D μ s.at w) (h : rowIs s 0 [e0] = true) : w.cell? ⟨0, 0, none⟩ = some (.iface 322 (.agg #[.pointer (some ⟨2, 35, none⟩)])) := by
  obtain ⟨r, r1, r2, r3⟩ := rowIs_ok h
  obtain ⟨v', c1, c2, _⟩ := hs.cell r1 (i := 0) (by rw [r2]; exact Nat.zero_lt_one)
  obtain ⟨_, g1, g2⟩ := hs.glob 0 (by omega)
  obtain ⟨_, g3, g4⟩ := hs.glob 2 (by omega)
  rw [r3 0 Nat.zero_lt_one] at c2
  rw [g1, g2] at c1
  obtain ⟨u, rfl, hu⟩ := vr_ifc c2
  obtain ⟨cs, rfl, hc⟩ := vr_agg hu
  cases hcl : cs.toList with
  | nil => rw [hcl] at hc; cases hc
  | cons x l =>
    rw [hcl] at hc
    cases hc with
    | cons _ _ _ _ hx hl =>
      cases hl
      have hp := (vr_ptr hx).1
      have : cs = #[x] := Array.ext' hcl
      subst this
      rw [g3, g4] at hp
      rw [c1, hp, Nat.zero_add]

theorem store_one {w : World} {a : Addr} {v old : Value} (h1 : v.oneCell' = true) (ht : w.cell? a = some old) (hf : w.frozen? a = false) : (Go.storeCells a [v]).run Tryz.prog w = .ok () (w.setCell a v) := by
  have ha : a.add 0 = a := by unfold Addr.add; cases a; split <;> simp_all
  simp only [Go.storeCells, Sem.run_bind, ha]
  rw [run_store Tryz.prog w a v _ h1]
  simp [ht, hf]

theorem pAs_ok : PrimOK Tryz.prog 69 (pAs 51 206 134 e0) := by
  intro D μ args args' s w v s' ha hs hd hv
  refine ⟨⟨_, Tryz.func69, by kernel_rfl, by kernel_rfl⟩, ?_⟩
  unfold pAs at hv
  split at hv
  · rename_i e t b o
    obtain ⟨e', q', rfl, he, hq⟩ := two_args ha
    obtain ⟨u, rfl, hu⟩ := vr_ifc hq
    obtain ⟨rfl, _⟩ := vr_ptr hu
    cases hc : Nat.beq t 134 && rowIs s 0 [e0] with
    | false => rw [hc] at hv; cases hv
    | true =>
      rw [hc, cond_true] at hv
      simp only [Bool.and_eq_true] at hc
      have := Nat.eq_of_beq_eq_true hc.1
      subst this
      have hg := e0_cell hs hc.2
      split at hv
      · rename_i k hk
        obtain ⟨d, hd4, hch⟩ := chain_of hs 4 e e' k hk he
        split at hv
        · rename_i s1 hst
          cases hv
          obtain ⟨old, ht0, hf0⟩ : ∃ old, w.cell? ⟨(μ b).blk, (μ b).sh + o, none⟩ = some old ∧ w.frozen? ⟨(μ b).blk, (μ b).sh + o, none⟩ = false := by
            have hst' := hst
            unfold AM.storeCells at hst'
            split at hst'
            · rename_i r hr
              cases hb : (r.w && (Nat.ble (o + [AV.int .i64 k].length) r.size && flat [AV.int .i64 k])) with
              | false => rw [hb] at hst'; cases hst'
              | true =>
                simp only [Bool.and_eq_true] at hb
                have hle := Nat.le_of_ble_eq_true hb.2.1
                simp only [List.length_cons, List.length_nil] at hle
                obtain ⟨cs, T, lo, hi, g1, g2, g3, g4, g5⟩ := hs.row hr
                obtain ⟨v', c1, _⟩ := g4 o (by omega)
                refine ⟨v', by simp [World.cell?, g1, c1], ?_⟩
                rcases g5 hb.1 with h | h
                · simp [World.frozen?, g1, h]
                · simp [World.frozen?, g1]; omega
            · cases hst'
          have fin : ∀ ev w', (ev = Ending.returned (.bool true) ∧ ∃ w1, Below w.heap.size w w1 ∧ w' = w1.setCell ⟨(μ b).blk, (μ b).sh + o, none⟩ (.int .i64 k)) → ∃ v' D' μ', ev = .returned v' ∧ Stp D μ s w D' μ' s' w' ∧ VR D' μ' (.bool true) v' := by
            rintro ev w' ⟨rfl, w1, hb, rfl⟩
            have q1 := Stp.quiet hs hb
            obtain ⟨w2, q2, q3⟩ := store_ok (P := Tryz.prog) q1.sr hst (.cons _ _ _ _ (.int .i64 k) .nil)
            have hbl : (μ b).blk < w.heap.size := by
              rcases Nat.lt_or_ge (μ b).blk w.heap.size with h | h
              · exact h
              · simp [World.cell?, Array.getElem?_eq_none h] at ht0
            have q4 := store_one (w := w1) (a := ⟨(μ b).blk, (μ b).sh + o, none⟩) (v := .int .i64 k) rfl ((hb.cell (p := ⟨(μ b).blk, (μ b).sh + o, none⟩) hbl).trans ht0) ((hb.frozen (p := ⟨(μ b).blk, (μ b).sh + o, none⟩) hbl).trans hf0)
            rw [q4] at q2
            cases q2
            exact ⟨_, D, μ, rfl, q1.trans q3, .bool true⟩
          cases hch with
          | here => exact Calls.mono (as_0 w k _ old hg ht0 hf0) fin
          | more p1 v1 hp1 he1 c1 =>
            cases c1 with
            | here => exact Calls.mono (as_1 w k _ p1 old hp1 he1 hg ht0 hf0) fin
            | more p2 v2 hp2 he2 c2 =>
              cases c2 with
              | here => exact Calls.mono (as_2 w k _ p1 p2 old hp1 he1 hp2 he2 hg ht0 hf0) fin
              | more p3 v3 hp3 he3 c3 =>
                cases c3 with
                | here => exact Calls.mono (as_3 w k _ p1 p2 p3 old hp1 he1 hp2 he2 hp3 he3 hg ht0 hf0) fin
                | more _ _ _ _ _ => omega
        · cases hv
      · cases hv
  · cases hv

theorem pIs_ok : PrimOK Tryz.prog 395 (pIs 51 206) := by
  intro D μ args args' s w v s' ha hs hd hv
  refine ⟨⟨_, Tryz.func395, by kernel_rfl, by kernel_rfl⟩, ?_⟩
  unfold pIs at hv
  split at hv
  · rename_i e t c
    obtain ⟨e', q', rfl, he, hq⟩ := two_args ha
    obtain ⟨u, rfl, hu⟩ := vr_ifc hq
    have := vr_int hu
    subst this
    cases hc : Nat.beq t 51 with
    | false => rw [hc] at hv; cases hv
    | true =>
      rw [hc, cond_true] at hv
      have := Nat.eq_of_beq_eq_true hc
      subst this
      split at hv
      · rename_i k hk
        obtain ⟨d, hd4, hch⟩ := chain_of hs 4 e e' k hk he
        cases hkc : iEq k c with
        | false => rw [hkc] at hv; cases hv
        | true =>
          rw [hkc, cond_true] at hv
          cases hv
          rw [iEq_eq, decide_eq_true_eq] at hkc
          subst hkc
          have fin : ∀ ev w', (ev = Ending.returned (.bool true) ∧ Below w.heap.size w w') → ∃ v' D' μ', ev = .returned v' ∧ Stp D μ s w D' μ' s w' ∧ VR D' μ' (.bool true) v' := by
            rintro ev w' ⟨rfl, hb⟩
            exact ⟨_, D, μ, rfl, Stp.quiet hs hb, .bool true⟩
          cases hch with
          | here => exact Calls.mono (is_0 w k) fin
          | more p1 v1 hp1 he1 c1 =>
            cases c1 with
            | here => exact Calls.mono (is_1 w k p1 hp1 he1) fin
            | more p2 v2 hp2 he2 c2 =>
              cases c2 with
              | here => exact Calls.mono (is_2 w k p1 p2 hp1 he1 hp2 he2) fin
              | more p3 v3 hp3 he3 c3 =>
                cases c3 with
                | here => exact Calls.mono (is_3 w k p1 p2 p3 hp1 he1 hp2 he2 hp3 he3) fin
                | more _ _ _ _ _ => omega
      · cases hv
  · cases hv
end Go.Proofs.ErrW
