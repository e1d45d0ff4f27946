/-
  The statement PacketsBack: the law's function, out of Encode, Decode and the reference's Encode.
  Conditions: none.
-/
import Derived.Test.YtpdbekbobkjfgaaDoorD3Z
import Derived.Test.YtpdbekbobkjfgaaDoorD3M
namespace Go.Proofs.YtpdbekbobkjfgaaDoor
set_option linter.unusedVariables false
set_option linter.unusedSimpArgs false
set_option maxRecDepth 100000
set_option maxHeartbeats 2000000

end Go.Proofs.YtpdbekbobkjfgaaDoor

