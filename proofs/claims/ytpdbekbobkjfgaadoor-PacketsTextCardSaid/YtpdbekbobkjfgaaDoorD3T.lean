/-
  Plain laws: what Decode reads out of the bytes of fields (2).
  Conditions: none.
-/
import Derived.Test.YtpdbekbobkjfgaaDoorD3S
namespace Go.Proofs.YtpdbekbobkjfgaaDoor
set_option linter.unusedVariables false
set_option maxRecDepth 100000
set_option maxHeartbeats 2000000

theorem u16 : Go.IntKind.wrap .i64 ((12 : Int) + (4 : Int)) = 16 := by decide
theorem v2 : Go.IntKind.wrap .i64 (Int.tdiv (16 : Int) (8 : Int)) = 2 := by decide
theorem v3 : Go.IntKind.wrap .i64 (Int.tdiv (24 : Int) (8 : Int)) = 3 := by decide
theorem a4 (w : Nat) (h : w < 4294967296) : Go.bits Go.BinOp.and Go.IntKind.u32 (w : Int) 15 = ((w % 16 : Nat) : Int) := and32_m w 4 h (by omega)
theorem a2 (w : Nat) (h : w < 4294967296) : Go.bits Go.BinOp.and Go.IntKind.u32 (w : Int) 3 = ((w % 4 : Nat) : Int) := and32_m w 2 h (by omega)
theorem f128 (w : Nat) : Int.fdiv (w : Int) 128 = ((w / 128 : Nat) : Int) := fd w 128
theorem f2 (w : Nat) : Int.fdiv (w : Int) 2 = ((w / 2 : Nat) : Int) := fd w 2
theorem x0 (a : Nat) (h : a < 4294967296) : Go.IntKind.wrap .u32 ((a : Int) * 1) = (a : Int) := by rw [w32 (by omega) (by omega)]; omega
end Go.Proofs.YtpdbekbobkjfgaaDoor

