/-
  The statement PacketsBack: Decode of the bytes of packets.
  Conditions: none.
-/
import Derived.Test.YtpdbekbobkjfgaaDoorD3Y
namespace Go.Proofs.YtpdbekbobkjfgaaDoor
set_option linter.unusedVariables false
set_option linter.unusedSimpArgs false
set_option maxRecDepth 100000
set_option maxHeartbeats 2000000

theorem five_sum (w : Nat) (n : Nat) (hw : w < 2 ^ n) (v : Nat) (hv : v = w + 2 ^ n * Chk.five w n) : Chk.five v n = v / 2 ^ n ∧ v % 2 ^ n = w := by
  have hpos : 0 < 2 ^ n := Nat.two_pow_pos n
  have e1 : v % 2 ^ n = w := by rw [hv, Nat.add_mul_mod_self_left, Nat.mod_eq_of_lt hw]
  have e2 : v / 2 ^ n = Chk.five w n := by rw [hv, Nat.add_mul_div_left _ _ hpos, Nat.div_eq_of_lt hw, Nat.zero_add]
  refine ⟨?_, e1⟩
  rw [e2, ← five_mod v n, e1]
end Go.Proofs.YtpdbekbobkjfgaaDoor

