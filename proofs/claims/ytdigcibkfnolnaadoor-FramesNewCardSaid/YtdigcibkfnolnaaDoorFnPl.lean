/-
  Which functions of this seat (law 11) hand back nothing that lies in memory; short names of its shapes.
  Conditions: none.
-/
import Derived.Test.YtdigcibkfnolnaaDoorKE
import Derived.Test.YtdigcibkfnolnaaDoorAMTy
namespace Go.Proofs.YtdigcibkfnolnaaDoor
def flT : FuncId → Bool := fun f => [38].contains f
end Go.Proofs.YtdigcibkfnolnaaDoor

