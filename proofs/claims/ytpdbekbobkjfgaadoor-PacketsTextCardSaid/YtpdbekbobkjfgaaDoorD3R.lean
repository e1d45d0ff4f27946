/-
  Plain laws: the reference's checks (2), texts of bytes, the program's checks.
  Conditions: none.
-/
import Derived.Test.YtpdbekbobkjfgaaDoorD3Q
namespace Go.Proofs.YtpdbekbobkjfgaaDoor
set_option linter.unusedVariables false
set_option maxRecDepth 100000
set_option maxHeartbeats 1000000


theorem strs_eq (a b : List Nat) (ha : ∀ x ∈ a, x < 256) (hb : ∀ x ∈ b, x < 256) : decide (ByteArray.toList (Go.strOfNums (nI a)) = ByteArray.toList (Go.strOfNums (nI b))) = decide (a = b) := by
  have key : ∀ l : List Nat, ByteArray.toList (Go.strOfNums (nI l)) = l.map fun n => UInt8.ofNat n := by
    intro l
    simp [Go.strOfNums, nI]
  rw [key, key]
  refine decide_eq_decide.2 ⟨fun h => ?_, fun h => by rw [h]⟩
  induction a generalizing b with
  | nil =>
    cases b with
    | nil => rfl
    | cons => simp at h
  | cons x a ih =>
    cases b with
    | nil => simp at h
    | cons y b =>
      simp only [List.map_cons, List.cons.injEq] at h
      have hx := ha x (by simp)
      have hy := hb y (by simp)
      have h1 := congrArg UInt8.toNat h.1
      simp only [UInt8.toNat_ofNat'] at h1
      rw [Nat.mod_eq_of_lt (by omega), Nat.mod_eq_of_lt (by omega)] at h1
      rw [h1, ih b (fun x hx => ha x (by simp [hx])) (fun x hx => hb x (by simp [hx])) h.2]
end Go.Proofs.YtpdbekbobkjfgaaDoor

