/-
  Copies of bytes and of faults, as contracts.
  Conditions: none.
-/
import Derived.Test.YtdigcibkfnolnaaDoorTrB
import Derived.Test.YtdigcibkfnolnaaDoorKG
import Derived.Test.YtdigcibkfnolnaaDoorFnPl
namespace Go.Proofs.YtdigcibkfnolnaaDoor
set_option linter.unusedVariables false
set_option maxRecDepth 100000

def cloneB_D (m : Nat) (xs : List Int) : Option (Unit × List Int × Unit) := bif decide (xs.length ≤ 1000000) then some ((), xs, ()) else none
def cloneB_con (m : Nat) : Con := ⟨_, _, _, vcons (shp (.ints .u8)) vnil, bnil, 0, fun _ => rfl, rone 0 (ownp 0) (bcons (intsp 5 .u8) bnil), fun x b => cloneB_D m x.1⟩
theorem cloneB_ok (m : Nat) : ConOk Tryd.prog 38 (cloneB_con m) := con_row1 (fun xs h => cloneB_a xs none h)
end Go.Proofs.YtdigcibkfnolnaaDoor

