/-
  Small facts of plain laws: numbers, lists, room.
  Conditions: none.
-/
import Derived.Test.YtjibodklckppfaaKF
namespace Go.Proofs.Ytjibodklckppfaa
set_option linter.unusedVariables false
set_option linter.unusedSimpArgs false

theorem gr1 (n : Nat) (h : n ≤ 1000000000) : growOb 1 n = true := growT (by omega) (by omega)
theorem wi64 {x : Int} (h0 : -9223372036854775808 ≤ x) (h1 : x < 9223372036854775808) : Go.IntKind.wrap .i64 x = x := by simp [Go.IntKind.wrap, Go.IntKind.bits, Go.IntKind.signed]; omega
theorem mkA (b : Nat) (c : Int) (any : Bool) (hb : b ≤ 64) (h0 : 0 ≤ c) (h : c ≤ 1000000) : makeOb b 0 c any = true := by
  have : (b : Int) * c ≤ 281474976710656 := by
    have := Int.mul_le_mul (show (b : Int) ≤ 64 by omega) h h0 (by omega)
    omega
  simp [makeOb, h0, this]
end Go.Proofs.Ytjibodklckppfaa

