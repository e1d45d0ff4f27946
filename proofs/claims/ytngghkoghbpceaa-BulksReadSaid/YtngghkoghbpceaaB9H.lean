/-
  Flags of law 09's Read: an append of what may be empty to what has been received; comparisons only look.
  Conditions: none.
-/
import Derived.Test.YtngghkoghbpceaaB9t
import Derived.Test.YtngghkoghbpceaaE9r
namespace Go.Proofs.Ytngghkoghbpceaa
def flR9:FuncId→Bool:=fun f=> [21,17,22,12000045].contains f||fl9r f
end Go.Proofs.Ytngghkoghbpceaa
