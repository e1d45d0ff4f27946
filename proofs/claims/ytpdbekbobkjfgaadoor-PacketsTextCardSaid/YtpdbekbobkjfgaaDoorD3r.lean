/-
  Plain functions that the code reckons out to, with the proofs.
  Conditions: none.
-/
import Derived.Test.YtpdbekbobkjfgaaDoorL3T
import Derived.Test.YtpdbekbobkjfgaaDoorFnPr
namespace Go.Proofs.YtpdbekbobkjfgaaDoor
set_option linter.unusedVariables false
set_option maxRecDepth 100000

--BEGIN low
--END low

--BEGIN number
--END number

--BEGIN behind
--END behind

--BEGIN sent
--END sent

--BEGIN all
--END all

--BEGIN r16
--END r16

--BEGIN flag
--END flag

--BEGIN rfirst
--END rfirst

--BEGIN rbits
--END rbits

--BEGIN rencode
--END rencode

--BEGIN rmany
--END rmany

--BEGIN rerror
--END rerror

end Go.Proofs.YtpdbekbobkjfgaaDoor

