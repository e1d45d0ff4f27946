/-
  Layer 1 (levels): unstuffing.
  Conditions: none.
-/
import Derived.Test.YtapbnkbknflggaaLvH
namespace Go.Proofs.Ytapbnkbknflggaa
open Go.RowKit
set_option linter.unusedVariables false
set_option linter.unusedSimpArgs false

def unF (s : Option (List Int × Nat)) (x : Int) : Option (List Int × Nat) :=
  match s with
  | none => none
  | some (o, c) => if c = 6 then (if x = 1 then none else some (o, 0)) else some (o ++ [x], if x = 1 then c + 1 else 0)
def unS (xs : List Int) : Option (List Int × Nat) := xs.foldl unF (some ([], 0))
def unL (xs : List Int) : Option (List Int) :=
  match unS xs with
  | some (o, c) => if c = 6 then none else some o
  | none => none
def unR (xs : List Int) : AV :=
  match unL xs with
  | some o => .tup [.d (.ints .u8 o (some o.length)), .d (.v (.int .i64 0))]
  | none => .tup [.d (.v (.slice none 0 0)), .d (.v (.int .i64 4))]
theorem foldl_take' {σ : Type} {f : σ → Int → σ} {s : σ} {xs : List Int} {k : Nat} (h : k < xs.length) : (xs.take (k + 1)).foldl f s = f ((xs.take k).foldl f s) xs[k] := by
  rw [take_snocI h, List.foldl_append]; rfl
theorem unS_snoc {xs : List Int} {k : Nat} (h : k < xs.length) : unS (xs.take (k + 1)) = unF (unS (xs.take k)) xs[k] := foldl_take' h
theorem unF_none (xs : List Int) : xs.foldl unF none = none := by
  induction xs with
  | nil => rfl
  | cons x xs ih => rw [List.foldl_cons]; exact ih
theorem unS_none {xs : List Int} {k : Nat} (h : unS (xs.take k) = none) : unL xs = none := by
  have : unS xs = none := by
    unfold unS at h ⊢
    rw [← List.take_append_drop k xs, List.foldl_append, h, unF_none]
  unfold unL; rw [this]
theorem unS_len {xs : List Int} : ∀ {s : List Int × Nat} {o c}, s.2 ≤ 6 → xs.foldl unF (some s) = some (o, c) → c ≤ 6 ∧ o.length ≤ s.1.length + xs.length := by
  induction xs with
  | nil => intro s o c h he; cases he; exact ⟨h, by simp⟩
  | cons x xs ih =>
    intro s o c h he
    rw [List.foldl_cons] at he
    cases hs : unF (some s) x with
    | none => rw [hs, unF_none] at he; cases he
    | some s' =>
      rw [hs] at he
      have h1 : s'.2 ≤ 6 ∧ s'.1.length ≤ s.1.length + 1 := by
        unfold unF at hs
        dsimp only at hs
        split at hs
        · split at hs
          · cases hs
          · cases hs; exact ⟨by simp, by simp⟩
        · cases hs; refine ⟨?_, by simp⟩; dsimp only; split <;> omega
      have := ih h1.1 he
      refine ⟨this.1, ?_⟩
      rw [List.length_cons]; omega

end Go.Proofs.Ytapbnkbknflggaa
