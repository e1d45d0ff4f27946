/-
  The statement BulksJoin: the plain law.
  Conditions: none.
-/
import Derived.Test.YtmjocalgekfodaaC9y
import Derived.Test.YtmjocalgekfodaaKF
namespace Go.Proofs.Ytmjocalgekfodaa
set_option linter.unusedVariables false
set_option linter.unusedSimpArgs false
set_option maxRecDepth 100000
set_option maxHeartbeats 2000000

theorem gr1 (n : Nat) (h : n ≤ 1000000000) : growOb 1 n = true := growT (by omega) (by omega)
theorem gr24 (n : Nat) (h : n ≤ 1000000000) : growOb 24 n = true := growT (by omega) (by omega)
theorem wi64 {x : Int} (h0 : -9223372036854775808 ≤ x) (h1 : x < 9223372036854775808) : Go.IntKind.wrap .i64 x = x := by simp [Go.IntKind.wrap, Go.IntKind.bits, Go.IntKind.signed]; omega
theorem mkA (b : Nat) (c : Int) (any : Bool) (hb : b ≤ 64) (h0 : 0 ≤ c) (h : c ≤ 1000000) : makeOb b 0 c any = true := by
  have : (b : Int) * c ≤ 281474976710656 := by
    have := Int.mul_le_mul (show (b : Int) ≤ 64 by omega) h h0 (by omega)
    omega
  simp [makeOb, h0, this]
theorem clipT (n : Nat) : (decide ((0 : Int) ≤ (n : Int)) && (decide ((n : Int) ≤ (n : Int)) && decide (Int.toNat (n : Int) ≤ n))) = true := by
  rw [dT (show (0 : Int) ≤ (n : Int) by omega), dT (show (n : Int) ≤ (n : Int) by omega), dT (show Int.toNat (n : Int) ≤ n by omega)]; rfl
theorem bclone_eq (m : Nat) (xs : List Int) (h : xs.length ≤ 1000000) : bclone_D m xs = some (xs, ()) := by
  unfold bclone_D
  rw [mkA 1 _ true (by omega) (by omega) (by omega), gr1 _ (by simp; omega)]
  rfl
end Go.Proofs.Ytmjocalgekfodaa

