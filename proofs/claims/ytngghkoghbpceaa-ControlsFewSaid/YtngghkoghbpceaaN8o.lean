/-
  Flags of ControlsOnce: the handler's calls are a row of its own from the start.
  Conditions: none.
-/
import Derived.Test.YtngghkoghbpceaaN8h
import Derived.Test.YtngghkoghbpceaaN8w
namespace Go.Proofs.Ytngghkoghbpceaa
def fl8o:FuncId→Bool:=fun f=> [3000000+100*89+99,3000000+100*89+2].contains f||fl8 f
end Go.Proofs.Ytngghkoghbpceaa
