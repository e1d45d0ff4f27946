/-
  Plain functions that the code reckons out to, with the proofs.
  Conditions: none.
-/
import Derived.Test.YtpdbekbobkjfgaaDoorD3s
import Derived.Test.YtpdbekbobkjfgaaDoorD3y
import Derived.Test.YtpdbekbobkjfgaaDoorD3r
namespace Go.Proofs.YtpdbekbobkjfgaaDoor
set_option linter.unusedVariables false
set_option maxRecDepth 100000

--BEGIN decL
--END decL

end Go.Proofs.YtpdbekbobkjfgaaDoor

