/-
  Flags of the calls of law 07's New.
  Conditions: none.
-/
import Derived.Test.YtngghkoghbpceaaDoorL7T
namespace Go.Proofs.YtngghkoghbpceaaDoor
def fl7n : FuncId → Bool := fun f => [13000000 + 12, 13000000 + 13, 13000000 + 14].contains f || fl7 f
end Go.Proofs.YtngghkoghbpceaaDoor

