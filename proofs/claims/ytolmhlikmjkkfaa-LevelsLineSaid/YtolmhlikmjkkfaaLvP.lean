/-
  Layer 1 (levels): plain laws of stuffing.
  Conditions: none.
-/
import Derived.Test.YtolmhlikmjkkfaaLvI
namespace Go.Proofs.Ytolmhlikmjkkfaa
open Go.RowKit
set_option linter.unusedVariables false

/-! Unstuffing inverts stuffing: by lists -/
def stR (c : Nat) : List Int → List Int
  | [] => []
  | x :: xs => if x = 0 then x :: stR 0 xs else if c + 1 = 6 then x :: 0 :: stR 0 xs else x :: stR (c + 1) xs
def unRr (c : Nat) : List Int → Option (List Int)
  | [] => if c = 6 then none else some []
  | x :: xs => if c = 6 then (if x = 1 then none else unRr 0 xs) else (unRr (if x = 1 then c + 1 else 0) xs).map (x :: ·)
theorem stR_fold : ∀ (xs : List Int) (o : List Int) (c : Nat), (xs.foldl stF (o, c)).1 = o ++ stR c xs
  | [], o, c => by simp [stR]
  | x :: xs, o, c => by
    rw [List.foldl_cons]
    have e : stF (o, c) x = if x = 0 then (o ++ [x], 0) else if c + 1 = 6 then (o ++ [x] ++ [0], 0) else (o ++ [x], c + 1) := rfl
    rw [e]
    split
    · rename_i h; rw [stR_fold xs]; simp [stR, h]
    · rename_i h
      split
      · rename_i h6; rw [stR_fold xs]; simp only [stR, if_neg h, if_pos h6, List.append_assoc, List.cons_append, List.nil_append]
      · rename_i h6; rw [stR_fold xs]; simp only [stR, if_neg h, if_neg h6, List.append_assoc, List.cons_append, List.nil_append]
theorem unRr_fold : ∀ (xs : List Int) (o : List Int) (c : Nat), (match xs.foldl unF (some (o, c)) with | some (o', c') => if c' = 6 then none else some o' | none => none) = (unRr c xs).map (o ++ ·)
  | [], o, c => by simp only [List.foldl_nil, unRr]; split <;> simp
  | x :: xs, o, c => by
    rw [List.foldl_cons]
    have e : unF (some (o, c)) x = if c = 6 then (if x = 1 then none else some (o, 0)) else some (o ++ [x], if x = 1 then c + 1 else 0) := rfl
    rw [e]
    by_cases h6 : c = 6
    · simp only [unRr, if_pos h6]
      by_cases h1 : x = 1
      · simp only [if_pos h1, unF_none, Option.map_none]
      · simp only [if_neg h1]
        exact unRr_fold xs o 0
    · simp only [unRr, if_neg h6]
      rw [unRr_fold xs (o ++ [x]) (if x = 1 then c + 1 else 0), Option.map_map]
      congr 1
      funext l; simp
theorem stuffL_R (xs : List Int) : stuffL xs = stR 0 xs := by have := stR_fold xs [] 0; simpa [stuffL, stuffS] using this
theorem unL_R (xs : List Int) : unL xs = unRr 0 xs := by
  have := unRr_fold xs [] 0
  unfold unL unS
  simp only [List.nil_append] at this
  rw [show (unRr 0 xs).map (fun l => l) = unRr 0 xs by cases unRr 0 xs <;> rfl] at this
  exact this
theorem un_stR : ∀ (xs : List Int) (c : Nat), c < 6 → b01 xs → unRr c (stR c xs) = some xs
  | [], c, h, _ => by simp only [stR, unRr]; rw [if_neg (by omega)]
  | x :: xs, c, h, hx => by
    have h01 := hx x (by simp)
    have hr : b01 xs := fun y hy => hx y (by simp [hy])
    have hc6 : ¬ c = 6 := by omega
    simp only [stR]
    split
    · rename_i h0
      simp only [unRr, if_neg hc6]
      rw [if_neg (by omega), un_stR xs 0 (by omega) hr]; rfl
    · rename_i h0
      have h1 : x = 1 := by omega
      split
      · rename_i h6
        simp only [unRr, if_neg hc6, if_pos h1]
        rw [if_pos h6, if_neg (by omega), un_stR xs 0 (by omega) hr]; rfl
      · rename_i h6
        simp only [unRr, if_neg hc6, if_pos h1]
        rw [un_stR xs (c + 1) (by omega) hr]; rfl
theorem st_unRr : ∀ (xs : List Int) (c : Nat) (o : List Int), c < 6 → b01 xs → unRr c xs = some o → stR c o = xs
  | [], c, o, h, _, he => by
    simp only [unRr] at he
    rw [if_neg (by omega)] at he
    cases he; rfl
  | x :: xs, c, o, h, hx, he => by
    have h01 := hx x (by simp)
    have hr : b01 xs := fun y hy => hx y (by simp [hy])
    simp only [unRr] at he
    rw [if_neg (by omega)] at he
    obtain ⟨o', h1, rfl⟩ := Option.map_eq_some_iff.1 he
    simp only [stR]
    by_cases h0 : x = 0
    · rw [if_pos h0]
      rw [if_neg (by omega)] at h1
      rw [st_unRr xs 0 o' (by omega) hr h1]
    · rw [if_neg h0]
      rw [if_pos (by omega)] at h1
      by_cases h6 : c + 1 = 6
      · rw [if_pos h6]
        rw [h6] at h1
        cases xs with
        | nil => simp [unRr] at h1
        | cons y ys =>
          have hy := hr y (by simp)
          simp only [unRr, if_true] at h1
          split at h1
          · cases h1
          · rename_i hy1
            have : y = 0 := by omega
            subst this
            rw [st_unRr ys 0 o' (by omega) (fun z hz => hr z (by simp [hz])) h1]
      · rw [if_neg h6, st_unRr xs (c + 1) o' (by omega) hr h1]
theorem un_stuff {xs : List Int} (h : b01 xs) : unL (stuffL xs) = some xs := by rw [stuffL_R, unL_R]; exact un_stR xs 0 (by omega) h
theorem stuff_un {xs o : List Int} (h : b01 xs) (he : unL xs = some o) : stuffL o = xs := by rw [unL_R] at he; rw [stuffL_R]; exact st_unRr xs 0 o (by omega) h he

/-! Bits 1 at the end -/
def onesE (xs : List Int) : Nat := xs.foldl (fun c x => if x = 1 then c + 1 else 0) 0
theorem onesE_snoc {xs : List Int} {k : Nat} (h : k < xs.length) : onesE (xs.take (k + 1)) = if xs[k] = 1 then onesE (xs.take k) + 1 else 0 := by
  unfold onesE; rw [take_snocI h, List.foldl_append]; rfl
theorem onesE_stR : ∀ (xs : List Int) (c k : Nat), c < 6 → b01 xs → ((stR c xs).take k).foldl (fun c x => if x = 1 then c + 1 else 0) c ≤ 6
  | [], c, k, h, _ => by simp [stR]; omega
  | x :: xs, c, k, h, hx => by
    have h01 := hx x (by simp)
    have hr : b01 xs := fun y hy => hx y (by simp [hy])
    cases k with
    | zero => simp; omega
    | succ k =>
      simp only [stR]
      split
      · rename_i h0
        rw [List.take_succ_cons, List.foldl_cons, if_neg (by omega)]
        exact onesE_stR xs 0 k (by omega) hr
      · rename_i h0
        have h1 : x = 1 := by omega
        split
        · rename_i h6
          rw [List.take_succ_cons, List.foldl_cons, if_pos h1]
          cases k with
          | zero => simp; omega
          | succ k =>
            rw [List.take_succ_cons, List.foldl_cons, if_neg (by omega)]
            exact onesE_stR xs 0 k (by omega) hr
        · rename_i h6
          rw [List.take_succ_cons, List.foldl_cons, if_pos h1]
          exact onesE_stR xs (c + 1) k (by omega) hr
theorem onesE_stuff {xs : List Int} (h : b01 xs) (k : Nat) : onesE ((stuffL xs).take k) ≤ 6 := by rw [stuffL_R]; exact onesE_stR xs 0 k (by omega) h
end Go.Proofs.Ytolmhlikmjkkfaa
