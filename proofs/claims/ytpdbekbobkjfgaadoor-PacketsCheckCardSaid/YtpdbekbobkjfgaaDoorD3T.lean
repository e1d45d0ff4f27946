/-
  Plain laws: what Decode reads out of the bytes of fields (2).
  Conditions: none.
-/
import Derived.Test.YtpdbekbobkjfgaaDoorD3S
namespace Go.Proofs.YtpdbekbobkjfgaaDoor
set_option linter.unusedVariables false
set_option maxRecDepth 100000
set_option maxHeartbeats 2000000

theorem pp0 : (2 : Int) ^ Min.min (Int.toNat (0 : Int)) (Go.IntKind.bits Go.IntKind.u32) = 1 := by decide
theorem pp7 : (2 : Int) ^ Min.min (Int.toNat (7 : Int)) (Go.IntKind.bits Go.IntKind.u32) = 128 := by decide
theorem pp8 : (2 : Int) ^ Min.min (Int.toNat (8 : Int)) (Go.IntKind.bits Go.IntKind.u32) = 256 := by decide
theorem pp15 : (2 : Int) ^ Min.min (Int.toNat (15 : Int)) (Go.IntKind.bits Go.IntKind.u32) = 32768 := by decide
theorem pp16 : (2 : Int) ^ Min.min (Int.toNat (16 : Int)) (Go.IntKind.bits Go.IntKind.u32) = 65536 := by decide
theorem pp17 : (2 : Int) ^ Min.min (Int.toNat (17 : Int)) (Go.IntKind.bits Go.IntKind.u32) = 131072 := by decide
theorem s7 : Go.IntKind.wrap .i64 ((0 : Int) + (7 : Int)) = 7 := by decide
theorem s8 : Go.IntKind.wrap .i64 ((7 : Int) + (1 : Int)) = 8 := by decide
theorem s15 : Go.IntKind.wrap .i64 ((8 : Int) + (7 : Int)) = 15 := by decide
theorem s16 : Go.IntKind.wrap .i64 ((15 : Int) + (1 : Int)) = 16 := by decide
theorem s17 : Go.IntKind.wrap .i64 ((16 : Int) + (1 : Int)) = 17 := by decide
theorem u16 : Go.IntKind.wrap .i64 ((12 : Int) + (4 : Int)) = 16 := by decide
theorem v2 : Go.IntKind.wrap .i64 (Int.tdiv (16 : Int) (8 : Int)) = 2 := by decide
theorem v3 : Go.IntKind.wrap .i64 (Int.tdiv (24 : Int) (8 : Int)) = 3 := by decide
theorem a4 (w : Nat) (h : w < 4294967296) : Go.bits Go.BinOp.and Go.IntKind.u32 (w : Int) 15 = ((w % 16 : Nat) : Int) := and32_m w 4 h (by omega)
theorem a2 (w : Nat) (h : w < 4294967296) : Go.bits Go.BinOp.and Go.IntKind.u32 (w : Int) 3 = ((w % 4 : Nat) : Int) := and32_m w 2 h (by omega)
theorem f128 (w : Nat) : Int.fdiv (w : Int) 128 = ((w / 128 : Nat) : Int) := fd w 128
theorem f2 (w : Nat) : Int.fdiv (w : Int) 2 = ((w / 2 : Nat) : Int) := fd w 2
theorem x0 (a : Nat) (h : a < 4294967296) : Go.IntKind.wrap .u32 ((a : Int) * 1) = (a : Int) := by rw [w32 (by omega) (by omega)]; omega
theorem orp (i a b : Nat) (ha : a < 2 ^ i) (hb : b % 2 ^ i = 0) (h1 : a + b < 4294967296) : Go.bits Go.BinOp.or Go.IntKind.u32 (a : Int) (b : Int) = ((a + b : Nat) : Int) := by
  rw [or_parts i (by omega) (by exact_mod_cast ha) (by omega) (by omega) (by exact_mod_cast hb) (by omega)]; omega
end Go.Proofs.YtpdbekbobkjfgaaDoor

