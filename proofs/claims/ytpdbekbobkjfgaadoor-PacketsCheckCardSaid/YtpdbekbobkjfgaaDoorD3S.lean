/-
  Plain laws: what Decode reads out of the bytes of fields.
  Conditions: none.
-/
import Derived.Test.YtpdbekbobkjfgaaDoorD3R
import Derived.Test.YtpdbekbobkjfgaaDoorD3l
namespace Go.Proofs.YtpdbekbobkjfgaaDoor
set_option linter.unusedVariables false
set_option maxRecDepth 100000
set_option maxHeartbeats 1000000

theorem bitsN_add (v a : Nat) : ∀ b, Chk.bitsN v (a + b) = Chk.bitsN v a ++ Chk.bitsN (v / 2 ^ a) b := by
  intro b
  induction b with
  | zero => simp [Chk.bitsN]
  | succ b ih =>
    rw [← Nat.add_assoc, Chk.bitsN_succ, ih, Chk.bitsN_succ, List.append_assoc, Nat.div_div_eq_div_mul, ← Nat.pow_add]
theorem bitsN_mod (v n : Nat) : Chk.bitsN (v % 2 ^ n) n = Chk.bitsN v n := by
  unfold Chk.bitsN
  apply List.map_congr_left
  intro i hi
  have hi' : i < n := by simpa using hi
  have e : (2 : Nat) ^ n = 2 ^ i * (2 * 2 ^ (n - i - 1)) := by
    rw [← Nat.mul_assoc, ← Nat.pow_succ, ← Nat.pow_add]; congr 1; omega
  rw [e, Nat.mod_mul_right_div_self, Nat.mod_mul_right_mod]
theorem five_mod (v n : Nat) : Chk.five (v % 2 ^ n) n = Chk.five v n := by
  unfold Chk.five; rw [bitsN_mod]
theorem five_lt (v n : Nat) : Chk.five v n < 32 := Nat.xor_lt_two_pow (n := 5) (run5_lt v n) (by decide)
theorem sent5_bits (v n : Nat) : sent5 (Chk.bitsN v n) = Chk.bitsN (Chk.five v n) 5 := rfl
theorem or_parts (i : Nat) {y x : Int} (hy₀ : 0 ≤ y) (hy : y < 2 ^ i) (hy1 : y < 4294967296) (hx₀ : 0 ≤ x) (hx : x % 2 ^ i = 0) (hx₁ : x < 4294967296) : Go.bits Go.BinOp.or Go.IntKind.u32 y x = y + x :=
  bits_join_low .u32 32 (by decide) wraps_u32 i y x hy₀ hy (by omega) hx₀ hx (by omega)
theorem c0 : Int.toNat (Go.IntKind.wrap .i64 ((8 : Int) * (0 : Int))) = 0 := by decide
theorem c1 : Int.toNat (Go.IntKind.wrap .i64 ((8 : Int) * Go.IntKind.wrap .i64 ((0 : Int) + (1 : Int)))) = 8 := by decide
theorem c2 : Int.toNat (Go.IntKind.wrap .i64 ((8 : Int) * Go.IntKind.wrap .i64 (Go.IntKind.wrap .i64 ((0 : Int) + (1 : Int)) + (1 : Int)))) = 16 := by decide
theorem p0 : (2 : Int) ^ Min.min 0 (Go.IntKind.bits Go.IntKind.u32) = 1 := by decide
theorem p8 : (2 : Int) ^ Min.min 8 (Go.IntKind.bits Go.IntKind.u32) = 256 := by decide
theorem q0 : decide ((0 : Int) ≤ Go.IntKind.wrap .i64 ((8 : Int) * (0 : Int))) = true := by decide
theorem q1 : decide ((0 : Int) ≤ Go.IntKind.wrap .i64 ((8 : Int) * Go.IntKind.wrap .i64 ((0 : Int) + (1 : Int)))) = true := by decide
theorem q2 : decide ((0 : Int) ≤ Go.IntKind.wrap .i64 ((8 : Int) * Go.IntKind.wrap .i64 (Go.IntKind.wrap .i64 ((0 : Int) + (1 : Int)) + (1 : Int)))) = true := by decide
theorem i1 : Go.IntKind.wrap .i64 ((0 : Int) + (1 : Int)) = 1 := by decide
theorem i2 : Go.IntKind.wrap .i64 ((1 : Int) + (1 : Int)) = 2 := by decide
theorem i3 : Go.IntKind.wrap .i64 ((2 : Int) + (1 : Int)) = 3 := by decide
theorem d0 : Go.IntKind.wrap .i64 ((8 : Int) * (0 : Int)) = 0 := by decide
theorem d1 : Go.IntKind.wrap .i64 ((8 : Int) * (1 : Int)) = 8 := by decide
theorem d2 : Go.IntKind.wrap .i64 ((8 : Int) * (2 : Int)) = 16 := by decide
theorem t0 : Int.toNat (0 : Int) = 0 := rfl
theorem t1 : Int.toNat (1 : Int) = 1 := rfl
theorem t2 : Int.toNat (2 : Int) = 2 := rfl
theorem t8 : Int.toNat (8 : Int) = 8 := rfl
theorem t16 : Int.toNat (16 : Int) = 16 := rfl
theorem e8 : decide ((0 : Int) ≤ (8 : Int)) = true := rfl
theorem e16 : decide ((0 : Int) ≤ (16 : Int)) = true := rfl
theorem e0 : decide ((0 : Int) ≤ (0 : Int)) = true := rfl
end Go.Proofs.YtpdbekbobkjfgaaDoor

