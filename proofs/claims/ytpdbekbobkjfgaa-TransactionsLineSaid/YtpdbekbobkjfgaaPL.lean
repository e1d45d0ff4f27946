/-
  Small facts on the plain functions that code reckons out to.
  Conditions: none.
-/
import Derived.Test.YtpdbekbobkjfgaaAN8
namespace Go.Proofs.Ytpdbekbobkjfgaa
set_option linter.unusedVariables false

theorem dT {p : Prop} [Decidable p] (h : p) : decide p = true := decide_eq_true h
theorem dF {p : Prop} [Decidable p] (h : ¬ p) : decide p = false := decide_eq_false h
theorem inT {i : Int} {n : Nat} (h0 : 0 ≤ i) (h1 : i < n) : inB i n = true := inB_iff.2 ⟨h0, by omega⟩
theorem inF {i : Int} {n : Nat} (h : i < 0 ∨ (n : Int) ≤ i) : inB i n = false := by
  cases hb : inB i n with
  | false => rfl
  | true => obtain ⟨h1, h2⟩ := inB_iff.1 hb; omega
theorem growT {b n : Nat} (h : n * b ≤ 140737488355328) (h2 : n ≤ 9223372036854775807) : growOb b n = true := growOb_iff.2 ⟨h, by unfold maxLen; omega⟩
theorem bnd_some {A B : Type} (a : A) (f : A → Option B) : bnd (some a) f = f a := rfl
theorem bnd_none {A B : Type} (f : A → Option B) : bnd none f = none := rfl
theorem sumK_l {A B C : Type} (a : A) (f : A → C) (g : B → C) : sumK (.inl a) f g = f a := rfl
theorem sumK_r {A B C : Type} (b : B) (f : A → C) (g : B → C) : sumK (.inr b) f g = g b := rfl
theorem toNatC (n : Nat) : Int.toNat (n : Int) = n := Int.toNat_natCast n
theorem getD_lt {α : Type} {l : List α} {i : Nat} {d : α} (h : i < l.length) : l.getD i d = l[i] := by
  rw [List.getD_eq_getElem?_getD, List.getElem?_eq_getElem h]; rfl
theorem drop_get {α : Type} {l : List α} {i : Nat} (h : i < l.length) : l.drop i = l[i] :: l.drop (i + 1) := List.drop_eq_getElem_cons h
end Go.Proofs.Ytpdbekbobkjfgaa
