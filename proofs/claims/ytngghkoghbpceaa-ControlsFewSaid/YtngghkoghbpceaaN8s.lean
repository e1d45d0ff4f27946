/-
  Flags of ControlsOnce for requests that write.
  Conditions: none.
-/
import Derived.Test.YtngghkoghbpceaaN8h
import Derived.Test.YtngghkoghbpceaaN8p
namespace Go.Proofs.Ytngghkoghbpceaa
def fl8ow:FuncId→Bool:=fun f=> [3000000+100*89+99,3000000+100*89+2].contains f||fl8w f
end Go.Proofs.Ytngghkoghbpceaa
