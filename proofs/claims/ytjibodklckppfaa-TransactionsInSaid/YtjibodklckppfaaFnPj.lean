/-
  The flags of law 06's Out and In.
  Conditions: none.
-/
import Derived.Test.YtjibodklckppfaaO6a
import Derived.Test.YtjibodklckppfaaM6T
namespace Go.Proofs.Ytjibodklckppfaa
def flJ6 : FuncId → Bool := fun f => flT f || [38, 3000000 + 100 * 112 + 99, 3000000 + 100 * 112].contains f
end Go.Proofs.Ytjibodklckppfaa

