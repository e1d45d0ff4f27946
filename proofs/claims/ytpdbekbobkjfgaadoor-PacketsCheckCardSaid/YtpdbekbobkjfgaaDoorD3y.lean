/-
  Plain functions that the code reckons out to, with the proofs.
  Conditions: none.
-/
import Derived.Test.YtpdbekbobkjfgaaDoorD3a
import Derived.Test.YtpdbekbobkjfgaaDoorD3x
namespace Go.Proofs.YtpdbekbobkjfgaaDoor
set_option linter.unusedVariables false
set_option maxRecDepth 100000

--BEGIN ckfT
--END ckfT

--BEGIN ckfF
--END ckfF

--BEGIN ckfS
--END ckfS

--BEGIN ckfN
--END ckfN

--BEGIN decode
--END decode

end Go.Proofs.YtpdbekbobkjfgaaDoor

