/-
  Every call that is not walked is sound; so is a run of the abstract machine over this program.
-/
import Derived.Test.YtkfcjmjknflndaaGreatDoorBase
import Derived.Test.YtkfcjmjknflndaaGreatDoorShelf
import Derived.Test.YtkfcjmjknflndaaGreatDoorVals
import Derived.Test.YtkfcjmjknflndaaGreatDoorInsP
import Derived.Test.YtkfcjmjknflndaaGreatDoorErrP
import Derived.Test.YtkfcjmjknflndaaGreatDoorAmF
set_option linter.unusedVariables false
set_option linter.unusedSimpArgs false
namespace Go.Proofs.Ker
open Go Go.AM Go.Proofs Go.Shelf

theorem prims_set {t : Tr (List AV → St → CO)} {f0 : FuncId} {g0 : List AV → St → CO} (h : ∀ f g, prims t f = some g → PrimOK Tryz.prog f g) (h0 : PrimOK Tryz.prog f0 g0) : ∀ f g, prims (t.set (path f0) (some g0)) f = some g → PrimOK Tryz.prog f g := by
  intro f g hg
  unfold prims at hg
  by_cases e : f0 = f
  · subst e
    rw [Tr.get_path_set_same] at hg
    cases hg
    exact h0
  · rw [Tr.get_path_set_ne e] at hg
    exact h f g hg
theorem prims_nil : ∀ f g, prims Tr.nil f = some g → PrimOK Tryz.prog f g := by
  intro f g hg
  unfold prims at hg
  rw [Tr.get_empty] at hg
  cases hg

theorem sI : PrimOK Tryz.prog 84 (pSortI keysI valsI) :=
  pSortI_ok (ρ := Tryz.sortedI_ren) Tryz.sortedI (ρs := Tryz.sortI_ren) Tryz.sortI rfl (enters_of Tryz.func170 (by kernel_rfl) rfl)
    (fun g h => by
      rw [natIn_iff] at h
      simp only [keysI, List.contains_cons, List.contains_nil, Bool.or_false, Bool.or_eq_true, beq_iff_eq] at h
      rcases h with rfl | rfl | rfl | rfl | rfl
      · exact ⟨_, rfl, Tryz.keysI1⟩
      · exact ⟨_, rfl, Tryz.keysI2⟩
      · exact ⟨_, rfl, Tryz.keysI3⟩
      · exact ⟨_, rfl, Tryz.keysI4⟩
      · exact ⟨_, rfl, Tryz.keysI5⟩)
    (fun g h => by
      rw [natIn_iff] at h
      simp only [valsI, List.contains_cons, List.contains_nil, Bool.or_false, beq_iff_eq] at h
      subst h
      exact Vals.yields)
theorem sS : PrimOK Tryz.prog 73 (pSortS keysS) :=
  pSortS_ok (ρ := Tryz.sortedS_ren) Tryz.sortedS (ρs := Tryz.sortS_ren) Tryz.sortS rfl (enters_of Tryz.func158 (by kernel_rfl) rfl)
    (fun g h => by
      rw [natIn_iff] at h
      simp only [keysS, List.contains_cons, List.contains_nil, Bool.or_false, Bool.or_eq_true, beq_iff_eq] at h
      rcases h with rfl | rfl
      · exact ⟨_, rfl, Tryz.keysS1⟩
      · exact ⟨_, rfl, Tryz.keysS2⟩)
theorem prims_ok : ∀ f g, prims prT f = some g → PrimOK Tryz.prog f g :=
  prims_set (prims_set (prims_set (prims_set (prims_set (prims_set prims_nil sI) sS) ErrW.pAs_ok) ErrW.pIs_ok) InsP.pIns1_ok) InsP.pIns2_ok

theorem tt_ok : TTok Tryz.prog tt := ttok_of _
theorem es_ok : ESok Tryz.prog es := esok_of (by decide +kernel)
theorem dr_ok : DrawOK Tryz.prog tt es := draw_ok tt_ok es_ok InsA.mixed
theorem ft_ok : FTok Tryz.prog tt es ft := ftok_of _ _ _ (by decide +kernel)
theorem call_ok {t : Tr (List AV → St → CO)} (h : ∀ f g, prims t f = some g → PrimOK Tryz.prog f g) (n : Nat) : CallOK Tryz.prog (callX (prims t) ft n) := callX_ok tt_ok es_ok dr_ok h ft_ok n

theorem of_tst {t : Tr (List AV → St → CO)} {n : Nat} (h : tst t n = true) : ∃ s1, callX (prims t) ft 1000 n [] (base0 e0 deBruijn) = .ok (.bool true) s1 := by
  unfold tst at h
  split at h
  · rename_i s1 hs
    exact ⟨s1, hs⟩
  · cases h
theorem level {t : Tr (List AV → St → CO)} {n : Nat} (h : ∀ f g, prims t f = some g → PrimOK Tryz.prog f g) (hr : tst t n = true) : ∀ f g, prims (t.set (path n) (some (known e0 deBruijn true))) f = some g → PrimOK Tryz.prog f g := by
  obtain ⟨s1, h1⟩ := of_tst hr
  exact prims_set h (known_ok (call_ok h 1000) rfl rfl h1)
end Go.Proofs.Ker
