/-
  The statement PacketsDecode: the law's plain function is true.
  Conditions: none.
-/
import Derived.Test.YtpdbekbobkjfgaaDoorD3T
namespace Go.Proofs.YtpdbekbobkjfgaaDoor
set_option linter.unusedVariables false
set_option linter.unusedSimpArgs false
set_option maxRecDepth 100000
set_option maxHeartbeats 2000000

theorem nI_cons (a : Nat) (l : List Nat) : nI (a :: l) = (a : Int) :: nI l := rfl
theorem lt16 {p : Nat} (h : p < 16) : p = 0 ∨ p = 1 ∨ p = 2 ∨ p = 3 ∨ p = 4 ∨ p = 5 ∨ p = 6 ∨ p = 7 ∨ p = 8 ∨ p = 9 ∨ p = 10 ∨ p = 11 ∨ p = 12 ∨ p = 13 ∨ p = 14 ∨ p = 15 := by omega
theorem first_eq (m p : Nat) (h : p < 16) : first_D m (p : Int) = some (((p + 16 * (15 - p) : Nat) : Int), ()) := by
  rcases lt16 h with rfl | rfl | rfl | rfl | rfl | rfl | rfl | rfl | rfl | rfl | rfl | rfl | rfl | rfl | rfl | rfl <;> rfl
theorem rfirst_eq (m p : Nat) (h : p < 16) : rfirst_D m (p : Int) = some (((p + 16 * (15 - p) : Nat) : Int), ()) := by
  rcases lt16 h with rfl | rfl | rfl | rfl | rfl | rfl | rfl | rfl | rfl | rfl | rfl | rfl | rfl | rfl | rfl | rfl <;> rfl
/-- How the bytes behind the first one are made. -/
def shv (p : Nat) : Nat := if p = 2 ∨ p = 10 ∨ p = 14 ∨ p = 6 then 1 else if p = 1 ∨ p = 9 ∨ p = 13 then 2 else if p = 5 then 3 else if p = 8 then 4 else if p = 3 ∨ p = 11 then 5 else 0
theorem shape_eq (m p : Nat) (h : p < 16) : shapeOf_D m (p : Int) = some (((shv p : Nat) : Int), ()) := by
  rcases lt16 h with rfl | rfl | rfl | rfl | rfl | rfl | rfl | rfl | rfl | rfl | rfl | rfl | rfl | rfl | rfl | rfl <;> rfl
def good (f : Nat) : Bool := decide (shv (f % 16) ≠ 0) && decide (f = f % 16 + 16 * (15 - f % 16))
theorem zl (n : Nat) : decide ((((n + 1 : Nat) : Int)) = (0 : Int)) = false := dF (by omega)
theorem zb (n : Nat) : inB (0 : Int) (n + 1) = true := inT (by omega) (by omega)
theorem za1 (n : Nat) : decide (1 ≤ n + 1) = true := dT (by omega)
theorem z5' : decide ((0 : Int) ≤ 1) = true := rfl
theorem dcast (a b : Nat) : decide ((a : Int) = (b : Int)) = decide (a = b) := decide_eq_decide.2 (by omega)
theorem bif_ifn {α : Type} (p : Prop) [Decidable p] (a b : α) : (bif !decide p then a else b) = if p then b else a := by by_cases h : p <;> simp [h]
theorem shv_le (p : Nat) : shv p ≤ 5 := by unfold shv; (repeat' split) <;> omega
end Go.Proofs.YtpdbekbobkjfgaaDoor

