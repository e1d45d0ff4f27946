/-
  Flags of law 09.
  Conditions: none.
-/
import Derived.Test.YtngghkoghbpceaaE9w
import Derived.Test.YtngghkoghbpceaaRF9
namespace Go.Proofs.Ytngghkoghbpceaa
def flJ:FuncId→Bool:=fun f=> [21,22,17].contains f
end Go.Proofs.Ytngghkoghbpceaa
