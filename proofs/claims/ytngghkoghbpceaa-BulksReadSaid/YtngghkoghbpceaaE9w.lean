/-
  Plain functions that the code reckons out to, with the proofs.
  Conditions: none.
-/
import Derived.Test.YtngghkoghbpceaaE9a
namespace Go.Proofs.Ytngghkoghbpceaa
set_option linter.unusedVariables false
set_option maxRecDepth 100000
end Go.Proofs.Ytngghkoghbpceaa
