/-
  The statement PacketsBack: the law's plain function is true.
  Conditions: none.
-/
import Derived.Test.YtpdbekbobkjfgaaDoorD3O
namespace Go.Proofs.YtpdbekbobkjfgaaDoor
set_option linter.unusedVariables false
set_option linter.unusedSimpArgs false
set_option maxRecDepth 100000
set_option maxHeartbeats 2000000

theorem z65 (t v : Nat) (ht : t < 65536) : (t + 131072 * v) / 65536 % 2 = 0 := by omega
end Go.Proofs.YtpdbekbobkjfgaaDoor

