/-
  Plain functions that the code reckons out to, with the proofs.
  Conditions: none.
-/
import Derived.Test.YtngghkoghbpceaaDoorE7F
namespace Go.Proofs.YtngghkoghbpceaaDoor
set_option linter.unusedVariables false
set_option maxRecDepth 100000
end Go.Proofs.YtngghkoghbpceaaDoor
