/-
  The statement PacketsDecode: the law's plain function is true (2).
  Conditions: none.
-/
import Derived.Test.YtpdbekbobkjfgaaDoorD3U
namespace Go.Proofs.YtpdbekbobkjfgaaDoor
set_option linter.unusedVariables false
set_option linter.unusedSimpArgs false
set_option maxRecDepth 100000
set_option maxHeartbeats 2000000

theorem byte_at {l : List Nat} (hl : ∀ x ∈ l, x < 256) (i : Nat) : l.getD i 0 < 256 := by
  rw [List.getD_eq_getElem?_getD]
  cases hx : l[i]? with
  | none => simp
  | some y => exact hl y (List.mem_of_getElem? hx)
theorem b24 (x y z : Nat) (hx : x < 256) (hy : y < 256) : Chk.allBits [x, y, z] = Chk.bitsN (x + 256 * y + 65536 * z) 24 := by
  rw [show [x, y, z] = [x, y] ++ [z] from rfl, Chk.allBits_append, Chk.two_bytes x y hx, show (24 : Nat) = 16 + 8 from rfl, bitsN_add]
  have e1 : Chk.bitsN (x + 256 * y + 65536 * z) 16 = Chk.bitsN (x + 256 * y) 16 := by
    rw [← bitsN_mod, ← bitsN_mod (x + 256 * y)]; congr 1; omega
  have e2 : (x + 256 * y + 65536 * z) / 2 ^ 16 = z := by omega
  rw [e1, e2]
  simp [Chk.allBits]
end Go.Proofs.YtpdbekbobkjfgaaDoor

