/-
  Layer 1 (levels): states read, copies, and the small functions.
  Conditions: none.
-/
import Derived.Test.YtapbnkbknflggaaLvD
namespace Go.Proofs.Ytapbnkbknflggaa
open Go.RowKit
set_option linter.unusedVariables false
set_option linter.unusedSimpArgs false

/-! The states' bits -/
def deF (s : List Int × Int) (x : Int) : List Int × Int := (s.1 ++ [if x = s.2 then 1 else 0], x)
def decS (xs : List Int) : List Int × Int := xs.foldl deF ([], 0)
def decL (xs : List Int) : List Int := (decS xs).1
theorem decS_snoc {xs : List Int} {k : Nat} (h : k < xs.length) : decS (xs.take (k + 1)) = deF (decS (xs.take k)) xs[k] := foldl_take h
theorem deF_len {xs : List Int} : ∀ {s : List Int × Int}, (xs.foldl deF s).1.length = s.1.length + xs.length := by
  induction xs with
  | nil => intro s; simp
  | cons x xs ih => intro s; rw [List.foldl_cons, ih]; simp [deF]; omega
theorem decS_len (xs : List Int) : (decS xs).1.length = xs.length := by have := deF_len (xs := xs) (s := ([], 0)); simp only [List.length_nil, Nat.zero_add] at this; exact this
theorem set_zeros (a : List Int) (m : Nat) (v : Int) : (a ++ List.replicate (m + 1) 0).set a.length v = a ++ [v] ++ List.replicate m 0 := by
  rw [List.set_append_right _ _ (Nat.le_refl _), Nat.sub_self, List.replicate_succ, List.set_cons_zero, List.append_assoc]; rfl

end Go.Proofs.Ytapbnkbknflggaa
