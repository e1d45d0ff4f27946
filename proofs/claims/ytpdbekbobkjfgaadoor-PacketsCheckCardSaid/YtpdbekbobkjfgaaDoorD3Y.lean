/-
  The statement PacketsBack: plain laws.
  Conditions: none.
-/
import Derived.Test.YtpdbekbobkjfgaaDoorD3b
import Derived.Test.YtpdbekbobkjfgaaDoorD3X
namespace Go.Proofs.YtpdbekbobkjfgaaDoor
set_option linter.unusedVariables false
set_option linter.unusedSimpArgs false
set_option maxRecDepth 100000
set_option maxHeartbeats 2000000

end Go.Proofs.YtpdbekbobkjfgaaDoor

