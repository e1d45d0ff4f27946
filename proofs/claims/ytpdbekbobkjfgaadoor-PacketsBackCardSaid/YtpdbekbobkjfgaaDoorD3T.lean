/-
  Plain laws: what Decode reads out of the bytes of fields (2).
  Conditions: none.
-/
import Derived.Test.YtpdbekbobkjfgaaDoorD3S
namespace Go.Proofs.YtpdbekbobkjfgaaDoor
set_option linter.unusedVariables false
set_option maxRecDepth 100000
set_option maxHeartbeats 2000000

theorem mk7 : Go.IntKind.wrap .u32 (Go.IntKind.wrap .u32 ((1 : Int) * (128 : Int)) - (1 : Int)) = 127 := by decide
theorem mk4 : Go.IntKind.wrap .u32 (Go.IntKind.wrap .u32 ((1 : Int) * (16 : Int)) - (1 : Int)) = 15 := by decide
theorem mk11 : Go.IntKind.wrap .u32 (Go.IntKind.wrap .u32 ((1 : Int) * (2048 : Int)) - (1 : Int)) = 2047 := by decide
theorem mk1 : Go.IntKind.wrap .u32 (Go.IntKind.wrap .u32 ((1 : Int) * (2 : Int)) - (1 : Int)) = 1 := by decide
theorem mk2 : Go.IntKind.wrap .u32 (Go.IntKind.wrap .u32 ((1 : Int) * (4 : Int)) - (1 : Int)) = 3 := by decide
theorem pp0 : (2 : Int) ^ Min.min (Int.toNat (0 : Int)) (Go.IntKind.bits Go.IntKind.u32) = 1 := by decide
theorem pp1 : (2 : Int) ^ Min.min (Int.toNat (1 : Int)) (Go.IntKind.bits Go.IntKind.u32) = 2 := by decide
theorem pp2 : (2 : Int) ^ Min.min (Int.toNat (2 : Int)) (Go.IntKind.bits Go.IntKind.u32) = 4 := by decide
theorem pp4 : (2 : Int) ^ Min.min (Int.toNat (4 : Int)) (Go.IntKind.bits Go.IntKind.u32) = 16 := by decide
theorem pp7 : (2 : Int) ^ Min.min (Int.toNat (7 : Int)) (Go.IntKind.bits Go.IntKind.u32) = 128 := by decide
theorem pp8 : (2 : Int) ^ Min.min (Int.toNat (8 : Int)) (Go.IntKind.bits Go.IntKind.u32) = 256 := by decide
theorem pp11 : (2 : Int) ^ Min.min (Int.toNat (11 : Int)) (Go.IntKind.bits Go.IntKind.u32) = 2048 := by decide
theorem pp15 : (2 : Int) ^ Min.min (Int.toNat (15 : Int)) (Go.IntKind.bits Go.IntKind.u32) = 32768 := by decide
theorem pp16 : (2 : Int) ^ Min.min (Int.toNat (16 : Int)) (Go.IntKind.bits Go.IntKind.u32) = 65536 := by decide
theorem pp17 : (2 : Int) ^ Min.min (Int.toNat (17 : Int)) (Go.IntKind.bits Go.IntKind.u32) = 131072 := by decide
theorem s7 : Go.IntKind.wrap .i64 ((0 : Int) + (7 : Int)) = 7 := by decide
theorem s8 : Go.IntKind.wrap .i64 ((7 : Int) + (1 : Int)) = 8 := by decide
theorem s15 : Go.IntKind.wrap .i64 ((8 : Int) + (7 : Int)) = 15 := by decide
theorem s16 : Go.IntKind.wrap .i64 ((15 : Int) + (1 : Int)) = 16 := by decide
theorem s17 : Go.IntKind.wrap .i64 ((16 : Int) + (1 : Int)) = 17 := by decide
theorem u12 : Go.IntKind.wrap .i64 ((5 : Int) + (7 : Int)) = 12 := by decide
theorem u16 : Go.IntKind.wrap .i64 ((12 : Int) + (4 : Int)) = 16 := by decide
theorem u16' : Go.IntKind.wrap .i64 ((5 : Int) + (11 : Int)) = 16 := by decide
theorem u13 : Go.IntKind.wrap .i64 ((12 : Int) + (1 : Int)) = 13 := by decide
theorem u20 : Go.IntKind.wrap .i64 ((13 : Int) + (7 : Int)) = 20 := by decide
theorem u21 : Go.IntKind.wrap .i64 ((20 : Int) + (1 : Int)) = 21 := by decide
theorem u22 : Go.IntKind.wrap .i64 ((21 : Int) + (1 : Int)) = 22 := by decide
theorem u24 : Go.IntKind.wrap .i64 ((22 : Int) + (2 : Int)) = 24 := by decide
theorem v2 : Go.IntKind.wrap .i64 (Int.tdiv (16 : Int) (8 : Int)) = 2 := by decide
theorem v3 : Go.IntKind.wrap .i64 (Int.tdiv (24 : Int) (8 : Int)) = 3 := by decide
theorem a7 (w : Nat) (h : w < 4294967296) : Go.bits Go.BinOp.and Go.IntKind.u32 (w : Int) 127 = ((w % 128 : Nat) : Int) := and32_m w 7 h (by omega)
theorem a4 (w : Nat) (h : w < 4294967296) : Go.bits Go.BinOp.and Go.IntKind.u32 (w : Int) 15 = ((w % 16 : Nat) : Int) := and32_m w 4 h (by omega)
theorem a11 (w : Nat) (h : w < 4294967296) : Go.bits Go.BinOp.and Go.IntKind.u32 (w : Int) 2047 = ((w % 2048 : Nat) : Int) := and32_m w 11 h (by omega)
theorem a2 (w : Nat) (h : w < 4294967296) : Go.bits Go.BinOp.and Go.IntKind.u32 (w : Int) 3 = ((w % 4 : Nat) : Int) := and32_m w 2 h (by omega)
theorem f128 (w : Nat) : Int.fdiv (w : Int) 128 = ((w / 128 : Nat) : Int) := fd w 128
theorem f2 (w : Nat) : Int.fdiv (w : Int) 2 = ((w / 2 : Nat) : Int) := fd w 2
theorem x0 (a : Nat) (h : a < 4294967296) : Go.IntKind.wrap .u32 ((a : Int) * 1) = (a : Int) := by rw [w32 (by omega) (by omega)]; omega
theorem orp (i a b : Nat) (ha : a < 2 ^ i) (hb : b % 2 ^ i = 0) (h1 : a + b < 4294967296) : Go.bits Go.BinOp.or Go.IntKind.u32 (a : Int) (b : Int) = ((a + b : Nat) : Int) := by
  rw [or_parts i (by omega) (by exact_mod_cast ha) (by omega) (by omega) (by exact_mod_cast hb) (by omega)]; omega
theorem ckfT_eq (m : Nat) (hm : 100 ≤ m) (p : Int) (a b : Nat) (ha : a < 256) (hb : b < 256) : ckfT_D m p 0 0 0 0 0 false false 0 [(a : Int), (b : Int)] =
    if Chk.five (a + 256 * b) 11 = (a + 256 * b) / 2048 then some (0, (p, ((((a + 256 * b) % 2048) % 128 : Nat) : Int), ((((a + 256 * b) % 2048) / 128 : Nat) : Int), 0, 0, 0, false, false, 0, [(a : Int), (b : Int)], ()), ())
    else some (10, (p, 0, 0, 0, 0, 0, false, false, 0, [(a : Int), (b : Int)], ()), ()) := by
  obtain ⟨k, rfl⟩ : ∃ k, m = k + 3 := ⟨m - 3, by omega⟩
  unfold ckfT_D
  have hpart := part_eq (k + 3) (a + 256 * b) 11 (by omega) (by omega) (by omega)
  rw [show ((11 + 5 : Nat) : Int) = 16 from rfl, show (2 : Nat) ^ 11 = 2048 from rfl] at hpart
  simp only [u12, u16, v2, List.length_cons, List.length_nil, Nat.zero_add, Nat.reduceAdd]
  rw [show (((2 : Nat) : Int)) = 2 from rfl, dT rfl, Bool.not_true, cond_false, ckfT_L k (k + 3) a b ha hb, bnd_some]
  simp only
  rw [hpart]
  generalize a + 256 * b = v at *
  by_cases h : Chk.five v 11 = v / 2048
  · rw [if_pos h, if_pos h, bnd_some]
    have hw : v % 2048 < 2048 := Nat.mod_lt _ (by omega)
    generalize v % 2048 = w at hw ⊢
    simp only [decide_true, Bool.not_true, cond_false, pp7, pp4, pp0, s7, mk7, mk4, a7 w (by omega), f128, a4 (w / 128) (by omega)]
    rw [w8 (x := ((w % 128 : Nat) : Int)) (by omega) (by omega), w8 (x := ((w / 128 % 16 : Nat) : Int)) (by omega) (by omega), acc0 _ (by omega)]
    rw [w32 (x := ((w / 128 % 16 : Nat) : Int)) (by omega) (by omega), w32 (x := ((w / 128 % 16 : Nat) : Int) * 128) (by omega) (by omega)]
    rw [or_parts 7 (by omega) (by omega) (by omega) (by omega) (by omega) (by omega), dT (by omega), Bool.not_true, cond_false]
    rw [show w / 128 % 16 = w / 128 by omega]
  · rw [if_neg h, if_neg h, bnd_some]
    simp only
    rfl
theorem ckfF_eq (m : Nat) (hm : 100 ≤ m) (p : Int) (a b : Nat) (ha : a < 256) (hb : b < 256) : ckfF_D m p 0 0 0 0 0 false false 0 [(a : Int), (b : Int)] =
    if Chk.five (a + 256 * b) 11 = (a + 256 * b) / 2048 then some (0, (p, 0, 0, (((a + 256 * b) % 2048 : Nat) : Int), 0, 0, false, false, 0, [(a : Int), (b : Int)], ()), ())
    else some (10, (p, 0, 0, 0, 0, 0, false, false, 0, [(a : Int), (b : Int)], ()), ()) := by
  obtain ⟨k, rfl⟩ : ∃ k, m = k + 3 := ⟨m - 3, by omega⟩
  unfold ckfF_D
  have hpart := part_eq (k + 3) (a + 256 * b) 11 (by omega) (by omega) (by omega)
  rw [show ((11 + 5 : Nat) : Int) = 16 from rfl, show (2 : Nat) ^ 11 = 2048 from rfl] at hpart
  simp only [u16', v2, List.length_cons, List.length_nil, Nat.zero_add, Nat.reduceAdd]
  rw [show (((2 : Nat) : Int)) = 2 from rfl, dT rfl, Bool.not_true, cond_false, ckfF_L k (k + 3) a b ha hb, bnd_some]
  simp only
  rw [hpart]
  generalize a + 256 * b = v at *
  by_cases h : Chk.five v 11 = v / 2048
  · rw [if_pos h, if_pos h, bnd_some]
    have hw : v % 2048 < 2048 := Nat.mod_lt _ (by omega)
    generalize v % 2048 = w at hw ⊢
    simp only [decide_true, Bool.not_true, cond_false, pp11, pp0, mk11, a11 w (by omega)]
    rw [w16 (x := ((w % 2048 : Nat) : Int)) (by omega) (by omega), w32 (x := ((w % 2048 : Nat) : Int)) (by omega) (by omega), x0 _ (by omega)]
    rw [or_parts 0 (by omega) (by omega) (by omega) (by omega) (by omega) (by omega), dT (by omega), Bool.not_true, cond_false]
    rw [show w % 2048 = w by omega]
  · rw [if_neg h, if_neg h, bnd_some]
    simp only
    rfl
theorem one_eq (m : Nat) (b : Bool) : one3_D m b = some ((if b then (1 : Int) else 0), ()) := by cases b <;> rfl
theorem ckfS_eq (m : Nat) (hm : 100 ≤ m) (p : Int) (a b c : Nat) (ha : a < 256) (hb : b < 256) (hc : c < 256) (w : Nat) (ew : w = (a + 256 * b + 65536 * c) % 524288) : ckfS_D m p 0 0 0 0 0 false false 0 [(a : Int), (b : Int), (c : Int)] =
    if Chk.five (a + 256 * b + 65536 * c) 19 = (a + 256 * b + 65536 * c) / 524288 then
      some ((if w / 65536 % 2 = 0 then 0 else 4), (p, 0, 0, 0, ((w % 128 : Nat) : Int), ((w / 256 % 128 : Nat) : Int), decide (w / 128 % 2 = 1), decide (w / 32768 % 2 = 1), ((w / 131072 : Nat) : Int), [(a : Int), (b : Int), (c : Int)], ()), ())
    else some (10, (p, 0, 0, 0, 0, 0, false, false, 0, [(a : Int), (b : Int), (c : Int)], ()), ()) := by
  obtain ⟨k, rfl⟩ : ∃ k, m = k + 4 := ⟨m - 4, by omega⟩
  unfold ckfS_D
  have hpart := part_eq (k + 4) (a + 256 * b + 65536 * c) 19 (by omega) (by omega) (by omega)
  rw [show ((19 + 5 : Nat) : Int) = 24 from rfl, show (2 : Nat) ^ 19 = 524288 from rfl, ← ew] at hpart
  simp only [u12, u13, u20, u21, u22, u24, v3, List.length_cons, List.length_nil, Nat.zero_add, Nat.reduceAdd]
  rw [show (((3 : Nat) : Int)) = 3 from rfl, dT rfl, Bool.not_true, cond_false, ckfS_L k (k + 4) a b c ha hb hc, bnd_some]
  simp only
  rw [hpart]
  have hw : w < 524288 := by rw [ew]; exact Nat.mod_lt _ (by omega)
  clear ew hpart
  generalize a + 256 * b + 65536 * c = v at *
  by_cases h : Chk.five v 19 = v / 524288
  · rw [if_pos h, if_pos h, bnd_some]
    simp only [decide_true, Bool.not_true, cond_false, pp7, pp1, pp2, pp0, pp8, pp15, pp16, pp17, s7, s8, s15, s16, s17, mk7, mk1, mk2, a7 w (by omega), f128, f2, and32_1 (w / 128) (by omega), a7 (w / 128 / 2) (by omega), and32_1 (w / 128 / 2 / 128) (by omega), a2 (w / 128 / 2 / 128 / 2 / 2) (by omega)]
    have e1 : decide (((w / 128 % 2 : Nat) : Int) = 1) = decide (w / 128 % 2 = 1) := decide_eq_decide.2 (by omega)
    have e2 : decide (((w / 128 / 2 / 128 % 2 : Nat) : Int) = 1) = decide (w / 32768 % 2 = 1) := decide_eq_decide.2 (by omega)
    rw [e1, e2, one_eq, bnd_some, one_eq, bnd_some]
    simp only
    rw [w8 (x := ((w % 128 : Nat) : Int)) (by omega) (by omega), w8 (x := ((w / 128 / 2 % 128 : Nat) : Int)) (by omega) (by omega), w8 (x := ((w / 128 / 2 / 128 / 2 / 2 % 4 : Nat) : Int)) (by omega) (by omega), acc0 _ (by omega)]
    rw [w32 (x := ((w / 128 / 2 % 128 : Nat) : Int)) (by omega) (by omega), w32 (x := ((w / 128 / 2 % 128 : Nat) : Int) * 256) (by omega) (by omega)]
    rw [w32 (x := ((w / 128 / 2 / 128 / 2 / 2 % 4 : Nat) : Int)) (by omega) (by omega), w32 (x := ((w / 128 / 2 / 128 / 2 / 2 % 4 : Nat) : Int) * 131072) (by omega) (by omega)]
    have c1 : Go.IntKind.wrap .u32 ((if decide (w / 128 % 2 = 1) = true then (1 : Int) else 0) * 128) = ((w / 128 % 2 * 128 : Nat) : Int) := by
      by_cases hq : w / 128 % 2 = 1
      · rw [if_pos (by simpa using hq), w32 (by omega) (by omega)]; omega
      · rw [if_neg (by simpa using hq), w32 (by omega) (by omega)]; omega
    have c2 : Go.IntKind.wrap .u32 ((if decide (w / 32768 % 2 = 1) = true then (1 : Int) else 0) * 32768) = ((w / 32768 % 2 * 32768 : Nat) : Int) := by
      by_cases hq : w / 32768 % 2 = 1
      · rw [if_pos (by simpa using hq), w32 (by omega) (by omega)]; omega
      · rw [if_neg (by simpa using hq), w32 (by omega) (by omega)]; omega
    have c3 : Go.IntKind.wrap .u32 ((0 : Int) * 65536) = 0 := by decide
    rw [c1, c2, c3, or_parts 7 (y := ((w % 128 : Nat) : Int)) (x := ((w / 128 % 2 * 128 : Nat) : Int)) (by omega) (by omega) (by omega) (by omega) (by omega) (by omega), or_parts 8 (y := ((w % 128 : Nat) : Int) + ((w / 128 % 2 * 128 : Nat) : Int)) (x := ((w / 128 / 2 % 128 : Nat) : Int) * 256) (by omega) (by omega) (by omega) (by omega) (by omega) (by omega), or_parts 15 (y := ((w % 128 : Nat) : Int) + ((w / 128 % 2 * 128 : Nat) : Int) + ((w / 128 / 2 % 128 : Nat) : Int) * 256) (x := ((w / 32768 % 2 * 32768 : Nat) : Int)) (by omega) (by omega) (by omega) (by omega) (by omega) (by omega), or_parts 16 (y := ((w % 128 : Nat) : Int) + ((w / 128 % 2 * 128 : Nat) : Int) + ((w / 128 / 2 % 128 : Nat) : Int) * 256 + ((w / 32768 % 2 * 32768 : Nat) : Int)) (x := 0) (by omega) (by omega) (by omega) (by omega) (by omega) (by omega), or_parts 17 (y := ((w % 128 : Nat) : Int) + ((w / 128 % 2 * 128 : Nat) : Int) + ((w / 128 / 2 % 128 : Nat) : Int) * 256 + ((w / 32768 % 2 * 32768 : Nat) : Int) + 0) (x := ((w / 128 / 2 / 128 / 2 / 2 % 4 : Nat) : Int) * 131072) (by omega) (by omega) (by omega) (by omega) (by omega) (by omega)]
    rw [show w / 128 / 2 % 128 = w / 256 % 128 by omega, show w / 128 / 2 / 128 / 2 / 2 % 4 = w / 131072 by omega]
    by_cases hz : w / 65536 % 2 = 0
    · rw [dT (by omega), Bool.not_true, cond_false, if_pos hz]
    · rw [dF (by omega), Bool.not_false, cond_true, if_neg hz]
  · rw [if_neg h, if_neg h, bnd_some]
    simp only
    rfl
end Go.Proofs.YtpdbekbobkjfgaaDoor

