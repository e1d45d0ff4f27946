/-
  Flags of ControlsHost: Start and clone only look at rows, which are handed over as rows.
  Conditions: none.
-/
import Derived.Test.YtjibodklckppfaaH8h
import Derived.Test.YtjibodklckppfaaM8T
namespace Go.Proofs.Ytjibodklckppfaa
def flI5 : FuncId → Bool := fun f => [12, 8000000 + 12, 8000000 + 57, 1000000 + 14, 1000000 + 15, 1000000 + 17].contains f || flT f
end Go.Proofs.Ytjibodklckppfaa

