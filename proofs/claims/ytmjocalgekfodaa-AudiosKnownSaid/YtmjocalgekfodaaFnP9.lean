/-
  Which functions of this seat hand back nothing that lies in memory; short names of its shapes.
  Conditions: none.
-/
import Derived.Test.YtmjocalgekfodaaKE
import Derived.Test.YtmjocalgekfodaaAMTy
namespace Go.Proofs.Ytmjocalgekfodaa
def flT : FuncId → Bool := fun f => [12, 13, 49, 51, 75, 76, 52, 54, 53, 37, 43, 40, 73, 42, 26, 27, 28, 62].contains f
end Go.Proofs.Ytmjocalgekfodaa

