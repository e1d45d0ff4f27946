/-
  The statement PacketsBack: Encode of splits.
  Conditions: none.
-/
import Derived.Test.YtpdbekbobkjfgaaDoorD3J
namespace Go.Proofs.YtpdbekbobkjfgaaDoor
set_option linter.unusedVariables false
set_option linter.unusedSimpArgs false
set_option maxRecDepth 100000
set_option maxHeartbeats 2000000

end Go.Proofs.YtpdbekbobkjfgaaDoor

