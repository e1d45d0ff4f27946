/-
  The contracts of the reference of plugboardlaw02: bits, the register as a list, the number of bits.
-/
import Derived.Test.YtmjocalgekfodaaChk2
namespace Go.Proofs.Ytmjocalgekfodaa
open Go.RowKit
set_option linter.unusedVariables false

theorem st8 : SliceTy Try.prog 22 5 (.int .u8 0) 1 1 := ⟨Try.underlying22, by kernel_rfl, rfl, by decide⟩
def n8 (l : List Nat) : List Value := l.map fun n : Nat => .int .u8 (n : Int)
theorem n8_one (l : List Nat) : ∀ u ∈ n8 l, u.oneCell' = true := by
  intro u hu; obtain ⟨x, _, rfl⟩ := List.mem_map.1 hu; rfl
theorem n8_len (l : List Nat) : (n8 l).length = l.length := by simp [n8]



end Go.Proofs.Ytmjocalgekfodaa

