/-
  Flags: slices of an endpoint's own queue stay own.
  Conditions: none.
-/
import Derived.Test.YtngghkoghbpceaaE9a
namespace Go.Proofs.Ytngghkoghbpceaa
def fl9r:FuncId→Bool:=fun f=> [9000015,9000033].contains f||fl7d f
end Go.Proofs.Ytngghkoghbpceaa
