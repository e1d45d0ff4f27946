/-
  The statement ControlsHost: the plain law, part 1: what a transfer and the reference's host do with an outcome.
  Conditions: none.
-/
import Derived.Test.YtjibodklckppfaaH8h
import Derived.Test.YtjibodklckppfaaPM
namespace Go.Proofs.Ytjibodklckppfaa
set_option linter.unusedVariables false
set_option linter.unusedSimpArgs false
set_option maxRecDepth 100000
set_option maxHeartbeats 4000000

theorem and128 : ∀ n : Fin 256, decide (Go.bits .and .u8 ((n.val : Nat) : Int) 128 = 0) = decide (n.val < 128) := by decide +kernel
theorem and128' (x : Int) (h0 : 0 ≤ x) (h1 : x < 256) : decide (Go.bits .and .u8 x 128 = 0) = decide (x < 128) := by
  obtain ⟨n, rfl⟩ : ∃ n : Nat, x = n := ⟨x.toNat, by omega⟩
  have := and128 ⟨n, by omega⟩
  simp only at this
  rw [this]
  simp only [decide_eq_decide]; omega
def wrB (r1 r5 : Int) : Bool := decide (r1 < 128) && decide (0 < r5)
theorem writes_eq (m : Nat) (r1 r2 r3 r4 r5 : Int) (h0 : 0 ≤ r1) (h1 : r1 < 256) : writes_D m (r1, r2, r3, r4, r5, ()) = some (wrB r1 r5, ()) := by
  unfold writes_D writes_J0
  rw [show decide (Go.bits .and .u8 (r1, r2, r3, r4, r5, ()).fst 128 = 0) = decide (r1 < 128) from and128' r1 h0 h1]
  by_cases h : r1 < 128
  · rw [dT h, wrB, dT h]; rfl
  · rw [dF h, wrB, dF h]; rfl
theorem rwrites_eq (m : Nat) (r1 r2 r3 r4 r5 : Int) : rwrites_D m (r1, r2, r3, r4, r5, ()) = some (wrB r1 r5, ()) := by
  unfold rwrites_D rwrites_J0 wrB
  by_cases h : r1 < 128
  · simp only [dT h, cond_true, Bool.true_and]
  · simp only [dF h, cond_false, Bool.false_and]
def isMx (x : Int) : Prop := x = 8 ∨ x = 16 ∨ x = 32 ∨ x = 64
theorem fits8_eq (m : Nat) (x : Int) (h : isMx x) : fits8_D m x = some (true, ()) := by
  rcases h with rfl | rfl | rfl | rfl <;> rfl
theorem clone8_eq (m : Nat) (xs : List Int) (h : xs.length ≤ 1000000) : clone8_D m xs = some (xs, ()) := by
  unfold clone8_D
  rw [mkA 1 _ true (by omega) (by omega) (by omega), gr1 _ (by simp; omega)]
  rfl
theorem mx_lt {x : Int} (h : isMx x) : 8 ≤ x ∧ x ≤ 64 := by rcases h with rfl | rfl | rfl | rfl <;> omega
end Go.Proofs.Ytjibodklckppfaa

