/-
  Bytes as arguments of a law.
-/
import Derived.Test.YtolmhlikmjkkfaaFrame2
import Derived.Test.YtolmhlikmjkkfaaChk8
namespace Go.Proofs.Ytolmhlikmjkkfaa
open Go.ChangeShapes Go.WideShapes Go.ChangeAt Go.RowKit
set_option linter.unusedVariables false

theorem nats_of : ∀ (zs : List Int), (∀ z ∈ zs, 0 ≤ z ∧ z ≤ 255) → ∃ l : List Nat, zs.map (Value.int .u8) = n8 l ∧ int8s l ∧ l.length = zs.length
  | [], _ => ⟨[], rfl, by intro x hx; simp at hx, rfl⟩
  | z :: zs, h => by
    obtain ⟨l, h1, h2, h3⟩ := nats_of zs (fun u hu => h u (by simp [hu]))
    have hz := h z (by simp)
    obtain ⟨n, rfl⟩ := Int.eq_ofNat_of_zero_le hz.1
    refine ⟨n :: l, ?_, ?_, by simp [h3]⟩
    · rw [List.map_cons, h1]; rfl
    · intro x hx
      rcases List.mem_cons.1 hx with h' | h'
      · subst h'; omega
      · exact h2 x h'

/-- A slice of bytes. -/
theorem Tr.bytes {W : World} {cs : List Value} (h : Tr Try.prog W 33 cs) : ∃ (a : Option Addr) (l : List Nat) (cap : Nat), cs = [.slice a l.length cap] ∧ l.length ≤ cap ∧ cap ≤ maxLen ∧ (a = none → cap = 0) ∧ Cells W a (n8 l) ∧ int8s l := by
  obtain ⟨a, zs, cap, rfl, h1, h2, h3, h4, h5⟩ := h.ints Try.underlying33 Try.underlying5 (by kernel_rfl)
  obtain ⟨l, e1, e2, e3⟩ := nats_of zs (fun z hz => by have := bounds_u8 (h5 z hz); omega)
  exact ⟨a, l, cap, by rw [e3], by rw [e3]; exact h1, h2, h3, by rw [← e1]; exact h4, e2⟩
end Go.Proofs.Ytolmhlikmjkkfaa
