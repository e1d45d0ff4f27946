/-
  Which functions of this seat hand back nothing that lies in memory (AudiosKnown).
  Conditions: none.
-/
import Derived.Test.YtmjocalgekfodaaFnP9
namespace Go.Proofs.Ytmjocalgekfodaa
def flK : FuncId → Bool := fun f => [1000000 + 5].contains f || flT f
end Go.Proofs.Ytmjocalgekfodaa

