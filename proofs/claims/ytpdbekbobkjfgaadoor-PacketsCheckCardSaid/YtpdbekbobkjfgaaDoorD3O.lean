/-
  The statement PacketsBack: the kinds of packets.
  Conditions: none.
-/
import Derived.Test.YtpdbekbobkjfgaaDoorD3N
namespace Go.Proofs.YtpdbekbobkjfgaaDoor
set_option linter.unusedVariables false
set_option linter.unusedSimpArgs false
set_option maxRecDepth 100000
set_option maxHeartbeats 2000000

end Go.Proofs.YtpdbekbobkjfgaaDoor

