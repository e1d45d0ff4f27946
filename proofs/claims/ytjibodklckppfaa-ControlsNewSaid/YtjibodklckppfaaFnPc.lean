/-
  Which functions of this seat hand back nothing that lies in memory; short names of its shapes.
  Conditions: none.
-/
import Derived.Test.YtjibodklckppfaaKE
import Derived.Test.YtjibodklckppfaaAMTy
namespace Go.Proofs.Ytjibodklckppfaa
def flT : FuncId → Bool := fun f => [121, 103, 13, 78, 54, 42, 12000042].contains f
end Go.Proofs.Ytjibodklckppfaa

