/-
  The statement PacketsDecode: the law's plain function is true.
  Conditions: none.
-/
import Derived.Test.YtpdbekbobkjfgaaDoorD3T
namespace Go.Proofs.YtpdbekbobkjfgaaDoor
set_option linter.unusedVariables false
set_option linter.unusedSimpArgs false
set_option maxRecDepth 100000
set_option maxHeartbeats 2000000

theorem lt16 {p : Nat} (h : p < 16) : p = 0 ∨ p = 1 ∨ p = 2 ∨ p = 3 ∨ p = 4 ∨ p = 5 ∨ p = 6 ∨ p = 7 ∨ p = 8 ∨ p = 9 ∨ p = 10 ∨ p = 11 ∨ p = 12 ∨ p = 13 ∨ p = 14 ∨ p = 15 := by omega
theorem first_eq (m p : Nat) (h : p < 16) : first_D m (p : Int) = some (((p + 16 * (15 - p) : Nat) : Int), ()) := by
  rcases lt16 h with rfl | rfl | rfl | rfl | rfl | rfl | rfl | rfl | rfl | rfl | rfl | rfl | rfl | rfl | rfl | rfl <;> rfl
theorem rfirst_eq (m p : Nat) (h : p < 16) : rfirst_D m (p : Int) = some (((p + 16 * (15 - p) : Nat) : Int), ()) := by
  rcases lt16 h with rfl | rfl | rfl | rfl | rfl | rfl | rfl | rfl | rfl | rfl | rfl | rfl | rfl | rfl | rfl | rfl <;> rfl
def shv (p : Nat) : Nat := if p = 2 ∨ p = 10 ∨ p = 14 ∨ p = 6 then 1 else if p = 1 ∨ p = 9 ∨ p = 13 then 2 else if p = 5 then 3 else if p = 8 then 4 else if p = 3 ∨ p = 11 then 5 else 0
theorem shape_eq (m p : Nat) (h : p < 16) : shapeOf_D m (p : Int) = some (((shv p : Nat) : Int), ()) := by
  rcases lt16 h with rfl | rfl | rfl | rfl | rfl | rfl | rfl | rfl | rfl | rfl | rfl | rfl | rfl | rfl | rfl | rfl <;> rfl
end Go.Proofs.YtpdbekbobkjfgaaDoor

