/-
  Small facts of plain laws: numbers, lists, room.
  Conditions: none.
-/
import Derived.Test.YtngghkoghbpceaaDoorKF
namespace Go.Proofs.YtngghkoghbpceaaDoor
set_option linter.unusedVariables false
set_option linter.unusedSimpArgs false

end Go.Proofs.YtngghkoghbpceaaDoor

