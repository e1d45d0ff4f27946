/-
  Which functions of this seat hand back own rows in heads (law 03's reference).
  Conditions: none.
-/
import Derived.Test.YtpdbekbobkjfgaaDoorFnPd
namespace Go.Proofs.YtpdbekbobkjfgaaDoor
def flR : FuncId → Bool := fun f => flT f || [8000000 + 77, 39, 8000000 + 39].contains f
end Go.Proofs.YtpdbekbobkjfgaaDoor

