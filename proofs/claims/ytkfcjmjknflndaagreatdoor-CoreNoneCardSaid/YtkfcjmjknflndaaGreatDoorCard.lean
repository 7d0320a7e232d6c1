/-
  THE TIED CARD OF CoreNone: it returns true. The card's condition: the two listed package-level variables hold what the program's text lays (tied); the project beside it is a pruned copy.
-/
import Derived.Test.YtkfcjmjknflndaaGreatDoorRow
import Derived.Test.YtkfcjmjknflndaaGreatDoorG
import Derived.Test.YtkfcjmjknflndaaGreatDoorTie
import Derived.Test.YtkfcjmjknflndaaGreatDoorCards
import Derived.SevenTiedAt
set_option linter.unusedVariables false
set_option linter.unusedSimpArgs false
namespace Go.Proofs.YtkfcjmjknflndaaGreatDoor
open Go
theorem looks : true = Tryz.prog.looks [] := by kernel_rfl
theorem coreNone_card : Rows.CoreNoneCardSaid :=
  Claim7.holds_tied_plain_at .later [] [.data, .handle] true Rows.coreNoneCard.stood.harness true
    coreNone_holds (fun _ h => by cases h) (by kernel_rfl) (fun _ h => by cases h) coreNone_row_tie rfl ⟨rfl, rfl⟩ (by kernel_rfl) rfl
    (fun f fn hf hfn => by
      obtain rfl : f = 3 := Option.some.inj ((show Tryz.prog.funcNamed Rows.coreNoneRow.func = some 3 by kernel_rfl).symm.trans hf) |>.symm
      obtain rfl : fn = Tryz.f3 := (Option.some.inj (Tryz.func3.symm.trans hfn)).symm
      exact ⟨looks, fun j t ht => by
        rw [Tryz.params3] at ht
        simp at ht⟩)
    goes
end Go.Proofs.YtkfcjmjknflndaaGreatDoor
