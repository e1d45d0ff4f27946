/-
  One more word for arguments: arrays.
-/
import Derived.Test.YtpdbekbobkjfgaaFrame
namespace Go.Proofs.Ytpdbekbobkjfgaa
open Go.ChangeShapes Go.WideShapes Go.ChangeAt Go.RowKit
set_option linter.unusedVariables false

/-- One element of an array that is held by value. -/
theorem Tr.elem {P : Program} {W : World} {t e : TypeId} {cs : List Value} {k n m : Nat} (hu : P.underlying t = some (.array n e)) (hm : P.cellsOf e = m) (hk : k < n) (h : Tr P W t cs) : Tr P W e ((cs.drop (k * m)).take m) := by
  obtain ⟨H, enc, fuel, x, hf⟩ := h
  cases fuel with
  | zero => simp [DataW.trod] at hf
  | succ f =>
    unfold DataW.trod at hf
    rw [hu] at hf
    simp only at hf
    split at hf
    · obtain ⟨xs, hxs, -⟩ := Option.map_eq_some_iff.1 hf
      have h1 := mapM_some_get hxs k k (by simp [hk])
      have hl : k < xs.length := by
        have := mapM_some_length hxs
        simp at this; omega
      rw [hm] at h1
      exact ⟨H, enc, f, xs[k], by rw [h1]; simp [hl]⟩
    · cases hf

end Go.Proofs.Ytpdbekbobkjfgaa
