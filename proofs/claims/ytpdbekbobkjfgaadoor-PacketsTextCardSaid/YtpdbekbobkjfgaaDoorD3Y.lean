/-
  The statement PacketsBack: plain laws.
  Conditions: none.
-/
import Derived.Test.YtpdbekbobkjfgaaDoorD3b
import Derived.Test.YtpdbekbobkjfgaaDoorD3X
namespace Go.Proofs.YtpdbekbobkjfgaaDoor
set_option linter.unusedVariables false
set_option linter.unusedSimpArgs false
set_option maxRecDepth 100000
set_option maxHeartbeats 2000000

theorem tm11 (k : Nat) (h : k < 256) : Int.tmod (Go.IntKind.wrap .i64 (k : Int)) 11 = ((k % 11 : Nat) : Int) := by
  rw [wi64 (by omega) (by omega), Int.tmod_eq_emod_of_nonneg (by omega)]; rfl
end Go.Proofs.YtpdbekbobkjfgaaDoor

