/-
  DERIVED. GIVEN WITH THE SEED: THE CARDS: each row of YtkfcjmjknflndaaGreatDoorRows.lean that lists a variable, with what it lists TIED to the program's text (the seventh form; the later family's looks); each row that meets fmt, with fmt's text TOLD by the authors' own Lean function (tested against real Go, not proved from fmt's source: count such statements apart). THE CARD IS WHAT COUNTS. Prove the row's statement (the work); the ties are given (YtkfcjmjknflndaaGreatDoorTie.lean); close each card by the builder's one call (the guide's Derived/Test/ToyasCard.lean, 'card_holds'). Laid BY PROGRAM, IN A SANDBOX (cutbox-door.mjs). By AI agents, Wed Nov 11 2026. No macro, syntax, notation, axiom, sorry.
-/
import Derived.Test.YtkfcjmjknflndaaGreatDoorRows
import GoSem.ClaimSeven
namespace Go.Proofs.YtkfcjmjknflndaaGreatDoor
namespace Rows

/-- THE TIED CARD OF 'fieldfarelaw23.CoreNone'. -/
def coreNoneCard : Claim7 := { stood := { row := coreNoneRow, standIns := [], harness := (true, "aa0d1b1d30478bc981dcb2eb9caee0cd05390485d064cc27fc6c6dfa4da9395b"), looks := true }, kinds := [], alts := [], laidByText := true, laidKinds := [.data, .handle], laidTests := true, laidLooks := .later }
def CoreNoneCardSaid : Prop := Claim7.holds Tryz.pinned (.plain (OpenSpec.ofChange coreNoneSpec)) coreNoneCard

/-- THE SECOND FORM's CARD OF 'fieldfarelaw23.CoreNone'. -/
def coreNoneUptoCard : Claim7 := { stood := { row := coreNoneUptoRow, standIns := [], harness := (true, "aa0d1b1d30478bc981dcb2eb9caee0cd05390485d064cc27fc6c6dfa4da9395b"), looks := true }, kinds := [], alts := [], laidByText := true, laidKinds := [.data, .handle], laidTests := true, laidLooks := .later }
def CoreNoneUptoCardSaid : Prop := Claim7.holds Tryz.pinned (.plain (OpenSpec.upto coreNoneSpec)) coreNoneUptoCard
end Rows
end Go.Proofs.YtkfcjmjknflndaaGreatDoor
