/-
  Flags: slices of an endpoint's own queue stay own.
  Conditions: none.
-/
import Derived.Test.YtngghkoghbpceaaDoorE7a
namespace Go.Proofs.YtngghkoghbpceaaDoor
def fl7r:FuncId→Bool:=fun f=> [9000015,9000033].contains f||fl7d f
end Go.Proofs.YtngghkoghbpceaaDoor
