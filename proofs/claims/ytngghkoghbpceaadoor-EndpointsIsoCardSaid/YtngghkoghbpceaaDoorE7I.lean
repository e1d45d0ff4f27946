/-
  Flags of law 07's Iso: the rows of what was taken are own from the start.
  Conditions: none.
-/
import Derived.Test.YtngghkoghbpceaaDoorE7H
namespace Go.Proofs.YtngghkoghbpceaaDoor
def fl7i:FuncId→Bool:=fun f=> [3000000+100*40+99,3000000+100*40+2].contains f||fl7q f
end Go.Proofs.YtngghkoghbpceaaDoor
