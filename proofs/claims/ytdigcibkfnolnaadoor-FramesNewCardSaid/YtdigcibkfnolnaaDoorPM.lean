/-
  Small facts of plain laws: numbers, lists, room.
  Conditions: none.
-/
import Derived.Test.YtdigcibkfnolnaaDoorKF
namespace Go.Proofs.YtdigcibkfnolnaaDoor
set_option linter.unusedVariables false
set_option linter.unusedSimpArgs false

end Go.Proofs.YtdigcibkfnolnaaDoor

