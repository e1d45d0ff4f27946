/-
  The statement TransactionsLine: the law's plain function is true.
  Conditions: none.
-/
import Derived.Test.YtpdbekbobkjfgaaG4b
import Derived.Test.YtpdbekbobkjfgaaPL
namespace Go.Proofs.Ytpdbekbobkjfgaa
set_option linter.unusedVariables false

theorem tLine_L0_eq (m : Nat) (xs : List Int) (c : Int) (hl : xs.length ≤ 60) : ∀ (n i : Nat) (l : List Int), i ≤ xs.length → l.length = i → xs.length - i < n → tLine_L0 m n xs c i l = some ((xs, (c, ())), (l ++ xs.drop i, ())) := by
  intro n
  induction n with
  | zero => intro i l h1 h2 h3; omega
  | succ n ih =>
    intro i l h1 h2 h3
    rw [tLine_L0]
    by_cases hlt : i < xs.length
    · rw [dT (show (i : Int) < (xs.length : Int) by omega), cond_true, inT (by omega) (by omega), cond_true, growT (by simp; omega) (by simp; omega), cond_true, w_i64 _ (by omega) (by omega)]
      have := ih (i + 1) (l ++ [xs.getD i 0]) (by omega) (by simp [h2]) (by omega)
      rw [toNatC]
      rw [show ((i : Int) + 1) = ((i + 1 : Nat) : Int) by omega, this, drop_get hlt, getD_lt hlt]
      simp
    · rw [dF (show ¬ (i : Int) < (xs.length : Int) by omega), cond_false]
      have : xs.drop i = [] := List.drop_eq_nil_of_le (by omega)
      rw [this, List.append_nil]
theorem tLine_L1_eq (m : Nat) (xs : List Int) (c : Int) (cp : List Int) : ∀ (n i : Nat) (l : List Int), l.length ≤ 60 → i ≤ l.length → l.length - i < n → tLine_L1 m n xs c i l cp = some ((xs, (c, ())), (cp, ())) := by
  intro n
  induction n with
  | zero => intro i l h1 h2 h3; omega
  | succ n ih =>
    intro i l h1 h2 h3
    rw [tLine_L1]
    by_cases hlt : i < l.length
    · rw [dT (show (i : Int) < (l.length : Int) by omega), cond_true, inT (by omega) (by omega), cond_true, toNatC, dT hlt, cond_true, cond_true, cond_true, w_i64 _ (by omega) (by omega)]
      rw [show ((i : Int) + 1) = ((i + 1 : Nat) : Int) by omega]
      exact ih (i + 1) _ (by simpa using h1) (by simp; omega) (by simp; omega)
    · rw [dF (show ¬ (i : Int) < (l.length : Int) by omega), cond_false]
theorem tLine_L2_eq (m : Nat) (xs : List Int) (c : Nat) (hl : xs.length ≤ 60) (hc : c ≤ 255) : ∀ (n i : Nat), i ≤ c → c - i < n → tLine_L2 m n xs c i (xs.drop i) = some (.inr ((), ())) := by
  intro n
  induction n with
  | zero => intro i h1 h2; omega
  | succ n ih =>
    intro i h1 h2
    rw [tLine_L2]
    rw [w_i64 (c : Int) (by omega) (by omega)]
    by_cases hlt : i < c
    · have next := ih (i + 1) (by omega) (by omega)
      rw [dT (show (i : Int) < (c : Int) by omega), cond_true, w_i64 ((xs.length : Int) - i) (by omega) (by omega), w_i64 ((i : Int) + 1) (by omega) (by omega)]
      have hdl : (xs.drop i).length = xs.length - i := List.length_drop ..
      by_cases hx : i < xs.length
      · rw [dT (show (0 : Int) < (xs.length : Int) - i by omega), cond_true, inT (by omega) (by omega), cond_true, dT (show ((xs.drop i).length : Int) = (xs.length : Int) - i by omega), dF (show ¬ ((xs.drop i).length : Int) = 0 by omega), inT (by omega) (by omega)]
        have e : (xs.drop i).getD (Int.toNat 0) 0 = xs.getD (Int.toNat i) 0 := by
          rw [toNatC, getD_lt hx]
          rw [show Int.toNat 0 = 0 from rfl, getD_lt (by omega)]
          simp
        rw [e, dT rfl]
        rw [dT (show (0 : Int) ≤ 1 by omega), dT (show Int.toNat 1 ≤ (xs.drop i).length by rw [hdl]; simp; omega)]
        simp only [Bool.not_true, cond_false, cond_true, Bool.and_self]
        rw [show ((i : Int) + 1) = ((i + 1 : Nat) : Int) by omega, List.drop_drop]
        exact next
      · have he : xs.drop i = [] := List.drop_eq_nil_of_le (by omega)
        have he2 : xs.drop (i + 1) = [] := List.drop_eq_nil_of_le (by omega)
        rw [he2] at next
        rw [dF (show ¬ (0 : Int) < (xs.length : Int) - i by omega), he]
        rw [show ((i : Int) + 1) = ((i + 1 : Nat) : Int) by omega]
        simp only [List.length_nil, Int.natCast_zero, decide_true, Bool.not_true, cond_false, cond_true]
        exact next
    · rw [dF (show ¬ (i : Int) < (c : Int) by omega), cond_false]
theorem tLine_true (xs : List Int) (c : Nat) (hc : c ≤ 255) : tLine_D 1000 xs c = some (true, ()) := by
  rw [tLine_D]
  by_cases h : 60 < xs.length
  · rw [dT (show (60 : Int) < (xs.length : Int) by omega), cond_true]
  · rw [dF (show ¬ (60 : Int) < (xs.length : Int) by omega), cond_false]
    have h0 := tLine_L0_eq 1000 xs c (by omega) 1000 0 [] (by omega) rfl (by omega)
    rw [show ((0 : Nat) : Int) = 0 from rfl] at h0
    rw [h0, bnd_some]
    simp only [List.nil_append, List.drop_zero, cloneF_D]
    rw [dT (show xs.length ≤ 1000000 by omega), cond_true, bnd_some]
    have h1 := tLine_L1_eq 1000 xs c xs 1000 0 xs (by omega) (by omega) (by omega)
    rw [show ((0 : Nat) : Int) = 0 from rfl] at h1
    rw [h1, bnd_some]
    have h2 := tLine_L2_eq 1000 xs c (by omega) hc 1000 0 (by omega) (by omega)
    rw [show ((0 : Nat) : Int) = 0 from rfl, List.drop_zero] at h2
    rw [h2, bnd_some, sumK_r]
    rfl
end Go.Proofs.Ytpdbekbobkjfgaa
