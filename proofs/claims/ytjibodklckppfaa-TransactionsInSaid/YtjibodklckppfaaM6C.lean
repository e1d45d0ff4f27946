/-
  Copies of faults, as contracts; the flags of law 06.
  Conditions: none.
-/
import Derived.Test.YtjibodklckppfaaTrF
import Derived.Test.YtjibodklckppfaaM8C
namespace Go.Proofs.Ytjibodklckppfaa
set_option linter.unusedVariables false
set_option maxRecDepth 100000

def cloneF_D (m : Nat) (xs : List Int) : Option (Unit × List Int × Unit) := bif decide (xs.length ≤ 1000000) then some ((), xs, ()) else none
def cloneF_con (m : Nat) : Con := ⟨_, _, _, vcons (shp (.ints .u8)) vnil, bnil, 0, fun _ => rfl, rone 0 (ownp 0) (bcons (intsp 173 .u8) bnil), fun x b => cloneF_D m x.1⟩
theorem cloneF_ok (m : Nat) : ConOk Try.prog 108 (cloneF_con m) := con_row1 (fun xs h => cloneF_a xs none h)
end Go.Proofs.Ytjibodklckppfaa

