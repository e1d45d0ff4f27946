/-
  Flags of law 09's Write and Read.
  Conditions: none.
-/
import Derived.Test.YtngghkoghbpceaaB9t
namespace Go.Proofs.Ytngghkoghbpceaa
def flW9:FuncId→Bool:=fun f=> [21,17,22].contains f||fl7d f
end Go.Proofs.Ytngghkoghbpceaa
