/-
  Plain laws: what Decode reads out of the bytes of fields.
  Conditions: none.
-/
import Derived.Test.YtpdbekbobkjfgaaDoorD3R
import Derived.Test.YtpdbekbobkjfgaaDoorD3l
namespace Go.Proofs.YtpdbekbobkjfgaaDoor
set_option linter.unusedVariables false
set_option maxRecDepth 100000
set_option maxHeartbeats 1000000

theorem bitsN_add (v a : Nat) : ∀ b, Chk.bitsN v (a + b) = Chk.bitsN v a ++ Chk.bitsN (v / 2 ^ a) b := by
  intro b
  induction b with
  | zero => simp [Chk.bitsN]
  | succ b ih =>
    rw [← Nat.add_assoc, Chk.bitsN_succ, ih, Chk.bitsN_succ, List.append_assoc, Nat.div_div_eq_div_mul, ← Nat.pow_add]
theorem bitsN_mod (v n : Nat) : Chk.bitsN (v % 2 ^ n) n = Chk.bitsN v n := by
  unfold Chk.bitsN
  apply List.map_congr_left
  intro i hi
  have hi' : i < n := by simpa using hi
  have e : (2 : Nat) ^ n = 2 ^ i * (2 * 2 ^ (n - i - 1)) := by
    rw [← Nat.mul_assoc, ← Nat.pow_succ, ← Nat.pow_add]; congr 1; omega
  rw [e, Nat.mod_mul_right_div_self, Nat.mod_mul_right_mod]
theorem five_mod (v n : Nat) : Chk.five (v % 2 ^ n) n = Chk.five v n := by
  unfold Chk.five; rw [bitsN_mod]
theorem five_lt (v n : Nat) : Chk.five v n < 32 := Nat.xor_lt_two_pow (n := 5) (run5_lt v n) (by decide)
theorem sent5_bits (v n : Nat) : sent5 (Chk.bitsN v n) = Chk.bitsN (Chk.five v n) 5 := rfl
theorem or_parts (i : Nat) {y x : Int} (hy₀ : 0 ≤ y) (hy : y < 2 ^ i) (hy1 : y < 4294967296) (hx₀ : 0 ≤ x) (hx : x % 2 ^ i = 0) (hx₁ : x < 4294967296) : Go.bits Go.BinOp.or Go.IntKind.u32 y x = y + x :=
  bits_join_low .u32 32 (by decide) wraps_u32 i y x hy₀ hy (by omega) hx₀ hx (by omega)
theorem fits_eq (m v n : Nat) (hv : v < 4294967296) (hn : n ≤ 29) : fits_D m (v : Int) (n : Int) (29 : Int) = some (decide (v < 2 ^ n), ()) := by
  unfold fits_D fits_J0
  rw [dT (show (0 : Int) ≤ (n : Int) by omega), cond_true, dT (show (n : Int) ≤ 29 by omega), cond_true, cond_true, show Go.IntKind.bits Go.IntKind.u32 = 32 from rfl, pw n 32 (by omega), fd]
  have hp : 0 < 2 ^ n := Nat.two_pow_pos n
  have e : decide (((v / 2 ^ n : Nat) : Int) = 0) = decide (v < 2 ^ n) := decide_eq_decide.2 (by rw [← Nat.div_eq_zero_iff_lt hp]; omega)
  rw [e]
theorem part_eq (m v k : Nat) (hk : k ≤ 24) (hv : v < 2 ^ (k + 5)) (hm : 33 ≤ m) : part_D m (v : Int) ((k + 5 : Nat) : Int) = if Chk.five v k = v / 2 ^ k then some ((((v % 2 ^ k : Nat) : Int), (0 : Int), ()), ()) else some (((0 : Int), (10 : Int), ()), ()) := by
  have h1 : (2 : Nat) ^ (k + 5) ≤ 2 ^ 29 := Nat.pow_le_pow_right (by omega) (by omega)
  have h1' : (2 : Nat) ^ k ≤ 2 ^ 24 := Nat.pow_le_pow_right (by omega) hk
  have hp : 0 < 2 ^ k := Nat.two_pow_pos k
  have hv2 : v / 2 ^ k < 32 := by
    rw [Nat.div_lt_iff_lt_mul hp]
    rw [Nat.pow_add] at hv; omega
  have hmod : v % 2 ^ k < 2 ^ k := Nat.mod_lt _ hp
  have hw : Go.IntKind.wrap .i64 (((k + 5 : Nat) : Int) - (5 : Int)) = (k : Int) := by rw [wi64 (by omega) (by omega)]; omega
  have hmask : Go.IntKind.wrap .u32 (Go.IntKind.wrap .u32 ((1 : Int) * ((2 ^ k : Nat) : Int)) - (1 : Int)) = ((2 ^ k - 1 : Nat) : Int) := by
    rw [Int.one_mul, w32 (x := ((2 ^ k : Nat) : Int)) (by omega) (by omega), w32 (by omega) (by omega)]; omega
  have h32 : Go.IntKind.bits Go.IntKind.u32 = 32 := rfl
  unfold part_D
  rw [fits_eq m v (k + 5) (by omega) (by omega), bnd_some]
  simp only [hw, h32, pw k 32 (by omega), hmask, fd, and32_m v k (by omega) (by omega)]
  rw [dT hv, Bool.not_true, cond_false, dF (show ¬ ((k + 5 : Nat) : Int) < 5 by omega), cond_false, dT (show (0 : Int) ≤ (k : Int) by omega), cond_true, five_eq m _ k hm (by omega) (by omega), bnd_some, cond_true, five_mod]
  have hf := five_lt v k
  simp only
  rw [w32 (by omega) (by omega)]
  by_cases h : Chk.five v k = v / 2 ^ k
  · rw [if_pos h, dT (show ((Chk.five v k : Nat) : Int) = ((v / 2 ^ k : Nat) : Int) by omega)]; rfl
  · rw [if_neg h, dF (show ¬ ((Chk.five v k : Nat) : Int) = ((v / 2 ^ k : Nat) : Int) by omega)]; rfl
theorem c0 : Int.toNat (Go.IntKind.wrap .i64 ((8 : Int) * (0 : Int))) = 0 := by decide
theorem c1 : Int.toNat (Go.IntKind.wrap .i64 ((8 : Int) * Go.IntKind.wrap .i64 ((0 : Int) + (1 : Int)))) = 8 := by decide
theorem c2 : Int.toNat (Go.IntKind.wrap .i64 ((8 : Int) * Go.IntKind.wrap .i64 (Go.IntKind.wrap .i64 ((0 : Int) + (1 : Int)) + (1 : Int)))) = 16 := by decide
theorem p0 : (2 : Int) ^ Min.min 0 (Go.IntKind.bits Go.IntKind.u32) = 1 := by decide
theorem p8 : (2 : Int) ^ Min.min 8 (Go.IntKind.bits Go.IntKind.u32) = 256 := by decide
theorem p16 : (2 : Int) ^ Min.min 16 (Go.IntKind.bits Go.IntKind.u32) = 65536 := by decide
theorem acc0 (b : Nat) (h : b < 256) : Go.bits Go.BinOp.or Go.IntKind.u32 (0 : Int) (Go.IntKind.wrap .u32 (Go.IntKind.wrap .u32 (b : Int) * (1 : Int))) = (b : Int) := by
  rw [w32 (x := (b : Int)) (by omega) (by omega), w32 (by omega) (by omega), or_parts 0 (by omega) (by omega) (by omega) (by omega) (by omega) (by omega)]; omega
theorem acc1 (a b : Nat) (ha : a < 256) (h : b < 256) : Go.bits Go.BinOp.or Go.IntKind.u32 (a : Int) (Go.IntKind.wrap .u32 (Go.IntKind.wrap .u32 (b : Int) * (256 : Int))) = ((a + 256 * b : Nat) : Int) := by
  rw [w32 (x := (b : Int)) (by omega) (by omega), w32 (by omega) (by omega), or_parts 8 (by omega) (by omega) (by omega) (by omega) (by omega) (by omega)]; omega
theorem acc2 (a b : Nat) (ha : a < 65536) (h : b < 256) : Go.bits Go.BinOp.or Go.IntKind.u32 (a : Int) (Go.IntKind.wrap .u32 (Go.IntKind.wrap .u32 (b : Int) * (65536 : Int))) = ((a + 65536 * b : Nat) : Int) := by
  rw [w32 (x := (b : Int)) (by omega) (by omega), w32 (by omega) (by omega), or_parts 16 (by omega) (by omega) (by omega) (by omega) (by omega) (by omega)]; omega
theorem q0 : decide ((0 : Int) ≤ Go.IntKind.wrap .i64 ((8 : Int) * (0 : Int))) = true := by decide
theorem q1 : decide ((0 : Int) ≤ Go.IntKind.wrap .i64 ((8 : Int) * Go.IntKind.wrap .i64 ((0 : Int) + (1 : Int)))) = true := by decide
theorem q2 : decide ((0 : Int) ≤ Go.IntKind.wrap .i64 ((8 : Int) * Go.IntKind.wrap .i64 (Go.IntKind.wrap .i64 ((0 : Int) + (1 : Int)) + (1 : Int)))) = true := by decide
theorem i1 : Go.IntKind.wrap .i64 ((0 : Int) + (1 : Int)) = 1 := by decide
theorem i2 : Go.IntKind.wrap .i64 ((1 : Int) + (1 : Int)) = 2 := by decide
theorem i3 : Go.IntKind.wrap .i64 ((2 : Int) + (1 : Int)) = 3 := by decide
theorem d0 : Go.IntKind.wrap .i64 ((8 : Int) * (0 : Int)) = 0 := by decide
theorem d1 : Go.IntKind.wrap .i64 ((8 : Int) * (1 : Int)) = 8 := by decide
theorem d2 : Go.IntKind.wrap .i64 ((8 : Int) * (2 : Int)) = 16 := by decide
theorem t0 : Int.toNat (0 : Int) = 0 := rfl
theorem t1 : Int.toNat (1 : Int) = 1 := rfl
theorem t2 : Int.toNat (2 : Int) = 2 := rfl
theorem t8 : Int.toNat (8 : Int) = 8 := rfl
theorem t16 : Int.toNat (16 : Int) = 16 := rfl
theorem e8 : decide ((0 : Int) ≤ (8 : Int)) = true := rfl
theorem e16 : decide ((0 : Int) ≤ (16 : Int)) = true := rfl
theorem e0 : decide ((0 : Int) ≤ (0 : Int)) = true := rfl
theorem l02 : decide ((0 : Int) < (2 : Int)) = true := rfl
theorem l12 : decide ((1 : Int) < (2 : Int)) = true := rfl
theorem l22 : decide ((2 : Int) < (2 : Int)) = false := rfl
theorem l03 : decide ((0 : Int) < (3 : Int)) = true := rfl
theorem l13 : decide ((1 : Int) < (3 : Int)) = true := rfl
theorem l23 : decide ((2 : Int) < (3 : Int)) = true := rfl
theorem l33 : decide ((3 : Int) < (3 : Int)) = false := rfl
theorem b02 : inB (0 : Int) 2 = true := rfl
theorem b12 : inB (1 : Int) 2 = true := rfl
theorem b03 : inB (0 : Int) 3 = true := rfl
theorem b13 : inB (1 : Int) 3 = true := rfl
theorem b23 : inB (2 : Int) 3 = true := rfl
theorem ckfT_L (k m : Nat) (a b : Nat) (ha : a < 256) (hb : b < 256) (x0 x1 x2 x3 x4 x5 : Int) (x6 x7 : Bool) (x8 : Int) (y : List Int) :
    ckfT_L0 m (k + 3) 0 [(a : Int), (b : Int)] 2 0 x0 x1 x2 x3 x4 x5 x6 x7 x8 y = some ((16, (((a + 256 * b : Nat) : Int), ())), ((x0, (x1, (x2, (x3, (x4, (x5, (x6, (x7, (x8, (y, ())))))))))), ())) := by
  rw [ckfT_L0, ckfT_L0, ckfT_L0]
  simp only [i1, i2, d0, d1, t0, t1, t8, e0, e8, l02, l12, l22, cond_true, cond_false, List.length_cons, List.length_nil, b02, b12, Nat.zero_add, Nat.reduceAdd, List.getD_cons_zero, List.getD_cons_succ, p0, p8, acc0 a ha, acc1 a b ha hb]
  rfl
theorem ckfF_L (k m : Nat) (a b : Nat) (ha : a < 256) (hb : b < 256) (x0 x1 x2 x3 x4 x5 : Int) (x6 x7 : Bool) (x8 : Int) (y : List Int) :
    ckfF_L0 m (k + 3) 0 [(a : Int), (b : Int)] 2 0 x0 x1 x2 x3 x4 x5 x6 x7 x8 y = some ((16, (((a + 256 * b : Nat) : Int), ())), ((x0, (x1, (x2, (x3, (x4, (x5, (x6, (x7, (x8, (y, ())))))))))), ())) := by
  rw [ckfF_L0, ckfF_L0, ckfF_L0]
  simp only [i1, i2, d0, d1, t0, t1, t8, e0, e8, l02, l12, l22, cond_true, cond_false, List.length_cons, List.length_nil, b02, b12, Nat.zero_add, Nat.reduceAdd, List.getD_cons_zero, List.getD_cons_succ, p0, p8, acc0 a ha, acc1 a b ha hb]
  rfl
theorem ckfS_L (k m : Nat) (a b c : Nat) (ha : a < 256) (hb : b < 256) (hc : c < 256) (x0 x1 x2 x3 x4 x5 : Int) (x6 x7 : Bool) (x8 : Int) (y : List Int) :
    ckfS_L0 m (k + 4) 0 [(a : Int), (b : Int), (c : Int)] 3 0 x0 x1 x2 x3 x4 x5 x6 x7 x8 y = some ((24, (((a + 256 * b + 65536 * c : Nat) : Int), ())), ((x0, (x1, (x2, (x3, (x4, (x5, (x6, (x7, (x8, (y, ())))))))))), ())) := by
  rw [ckfS_L0, ckfS_L0, ckfS_L0, ckfS_L0]
  simp only [i1, i2, i3, d0, d1, d2, t0, t1, t2, t8, t16, e0, e8, e16, l03, l13, l23, l33, cond_true, cond_false, List.length_cons, List.length_nil, b03, b13, b23, Nat.zero_add, Nat.reduceAdd, List.getD_cons_zero, List.getD_cons_succ, p0, p8, p16, acc0 a ha, acc1 a b ha hb, acc2 (a + 256 * b) c (by omega) hc]
  rfl
end Go.Proofs.YtpdbekbobkjfgaaDoor

