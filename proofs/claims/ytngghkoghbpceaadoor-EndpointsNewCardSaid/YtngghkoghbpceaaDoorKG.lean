/-
  Contracts that are proved by hand, as contracts of the walks by the kernel.
  Conditions: none.
-/
import Derived.Test.YtngghkoghbpceaaDoorKF
namespace Go.Proofs.YtngghkoghbpceaaDoor
open Go.RowKit
set_option linter.unusedVariables false


end Go.Proofs.YtngghkoghbpceaaDoor

