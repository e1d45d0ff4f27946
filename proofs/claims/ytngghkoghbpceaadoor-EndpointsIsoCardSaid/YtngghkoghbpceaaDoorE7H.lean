/-
  Flags of law 07's Read: comparisons only look at lists; slices of an endpoint's own queue stay own.
  Conditions: none.
-/
import Derived.Test.YtngghkoghbpceaaDoorE7s
import Derived.Test.YtngghkoghbpceaaDoorE7G
namespace Go.Proofs.YtngghkoghbpceaaDoor
def fl7q:FuncId→Bool:=fun f=> [32,31].contains f||fl7r f
end Go.Proofs.YtngghkoghbpceaaDoor
