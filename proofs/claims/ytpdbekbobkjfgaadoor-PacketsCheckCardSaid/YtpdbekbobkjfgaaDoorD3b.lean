/-
  Plain functions that the code reckons out to, with the proofs.
  Conditions: none.
-/
import Derived.Test.YtpdbekbobkjfgaaDoorD3o
import Derived.Test.YtpdbekbobkjfgaaDoorD3r
import Derived.Test.YtpdbekbobkjfgaaDoorFnPb
namespace Go.Proofs.YtpdbekbobkjfgaaDoor
set_option linter.unusedVariables false
set_option maxRecDepth 100000

--BEGIN backL
--END backL

end Go.Proofs.YtpdbekbobkjfgaaDoor

