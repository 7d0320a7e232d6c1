/-
  The abstract machine at this program: its tables, the calls that are not walked, and runs.
-/
import Derived.Test.YtkfcjmjknflndaaGreatDoorAmE
import Derived.Test.YtkfcjmjknflndaaGreatDoorProg
set_option linter.unusedVariables false
set_option linter.unusedSimpArgs false
namespace Go.Proofs.Ker
open Go Go.AM Go.Proofs

def e0 : AV := .ifc 322 (.agg [.ptr 2 35])
def keysI : List Nat := [171, 336, 338, 339, 359]
def keysS : List Nat := [159, 162]
def valsI : List Nat := [292]
noncomputable def prT : Tr (List AV → St → CO) :=
  ((((((Tr.nil.set (path 84) (some (pSortI keysI valsI))).set (path 73) (some (pSortS keysS))).set (path 69) (some (pAs 51 206 134 e0))).set (path 395) (some (pIs 51 206))).set (path 255) (some (pIns 1))).set (path 328) (some (pIns 2)))
noncomputable def k1 := prT.set (path 391) (some (known e0 deBruijn true))
noncomputable def k4 := k1.set (path 386) (some (known e0 deBruijn true))
noncomputable def k7 := k4.set (path 345) (some (known e0 deBruijn true))
noncomputable def k13 := k7.set (path 220) (some (known e0 deBruijn true))
noncomputable def k18 := k13.set (path 68) (some (known e0 deBruijn true))
noncomputable def k23 := k18.set (path 13) (some (known e0 deBruijn true))
noncomputable def prims (t : Tr (List AV → St → CO)) : Prims := fun f => t.get (path f)
noncomputable def tt : TT := Tr.ofList Tryz.prog.types.toList
def es (t : TypeId) : Bool := esOf [132] t
noncomputable def ft : Tr PF := cFuncs tt es 0 Tryz.prog.funcs.toList .nil
noncomputable def tst (t : Tr (List AV → St → CO)) (n : Nat) : Bool := match callX (prims t) ft 1000 n [] (base0 e0 deBruijn) with | .ok (.bool true) _ => true | _ => false
end Go.Proofs.Ker
