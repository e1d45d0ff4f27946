/-
  Plain functions that the code reckons out to, with the proofs.
  Conditions: none.
-/
import Derived.Test.YtpdbekbobkjfgaaDoorD3k
import Derived.Test.YtpdbekbobkjfgaaDoorD3r
import Derived.Test.YtpdbekbobkjfgaaDoorFnPq
namespace Go.Proofs.YtpdbekbobkjfgaaDoor
set_option linter.unusedVariables false
set_option maxRecDepth 100000

--BEGIN ckcheckO
--END ckcheckO

--BEGIN decodeO
--END decodeO


end Go.Proofs.YtpdbekbobkjfgaaDoor

