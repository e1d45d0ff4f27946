/-
  Layer 4 (speeds): how long stuffed packets are.
  Conditions: none.
-/
import Derived.Test.YtapbnkbknflggaaLvK
namespace Go.Proofs.Ytapbnkbknflggaa
open Go.RowKit
set_option linter.unusedVariables false

def worstN (n : Int) : Int := 11 + 8 * n + (8 * n + 1) / 6
theorem stF_ones : ∀ (m : Nat) (s : List Int × Nat), s.2 < 6 → ((List.replicate m 1).foldl stF s).1.length = s.1.length + m + (s.2 + m) / 6 ∧ ((List.replicate m 1).foldl stF s).2 = (s.2 + m) % 6
  | 0, s, h => by simp; omega
  | m + 1, s, h => by
    rw [List.replicate_succ, List.foldl_cons]
    have e : stF s 1 = if s.2 + 1 = 6 then (s.1 ++ [1] ++ [0], 0) else (s.1 ++ [1], s.2 + 1) := by simp [stF]
    rw [e]
    split
    · rename_i h6
      have := stF_ones m (s.1 ++ [1] ++ [0], 0) (by simp)
      simp only [List.length_append, List.length_cons, List.length_nil] at this
      rw [this.1, this.2]; omega
    · rename_i h6
      have := stF_ones m (s.1 ++ [1], s.2 + 1) (by simp; omega)
      simp only [List.length_append, List.length_cons, List.length_nil] at this
      rw [this.1, this.2]; omega
theorem stF_upper : ∀ (xs : List Int) (s : List Int × Nat), s.2 < 6 → 6 * (xs.foldl stF s).1.length + (xs.foldl stF s).2 ≤ 6 * (s.1.length + xs.length) + s.2 + xs.length
  | [], s, h => by simp
  | x :: xs, s, h => by
    rw [List.foldl_cons]
    have h1 : (stF s x).2 < 6 ∧ 6 * (stF s x).1.length + (stF s x).2 ≤ 6 * (s.1.length + 1) + s.2 + 1 := by
      unfold stF
      split
      · simp; omega
      · split
        · simp; omega
        · simp; omega
    have := stF_upper xs (stF s x) h1.1
    rw [List.length_cons]; omega
theorem stuffS_sync (xs : List Int) : stuffS (syncL ++ xs) = xs.foldl stF (syncL, 1) := by
  unfold stuffS
  rw [List.foldl_append]; rfl
theorem bits_255 (n : Nat) : bitsL (List.replicate n 255) = List.replicate (8 * n) 1 := by
  induction n with
  | zero => rfl
  | succ n ih =>
    rw [List.replicate_succ, show bitsL (255 :: List.replicate n 255) = byteBits 255 ++ bitsL (List.replicate n 255) from rfl, ih, show byteBits 255 = List.replicate 8 1 by decide, List.replicate_append_replicate]
    congr 1; omega
theorem sendL_len (b : List Int) : (sendL b).length = (stuffL (syncL ++ bitsL b)).length + 3 := by
  unfold sendL
  have hen : (encL (stuffL (syncL ++ bitsL b))).length = (stuffL (syncL ++ bitsL b)).length := encS_len _
  rw [List.length_append, hen]; rfl
theorem send_255 (n : Nat) : ((sendL (List.replicate n 255)).length : Int) = worstN n := by
  rw [sendL_len, bits_255]
  unfold stuffL
  rw [stuffS_sync]
  have := (stF_ones (8 * n) (syncL, 1) (by simp)).1
  rw [this, show syncL.length = 8 from rfl]
  unfold worstN
  omega
theorem send_worst (b : List Int) : ((sendL b).length : Int) ≤ worstN b.length := by
  rw [sendL_len]
  have := stF_upper (bitsL b) (syncL, 1) (by simp)
  rw [bitsL_length, show syncL.length = 8 from rfl] at this
  unfold stuffL
  rw [stuffS_sync]
  unfold worstN
  dsimp only at this ⊢
  omega
/-- The bit times of packets with their gaps. -/
def sumW (l : List Int) : Int := l.foldl (fun s n => s + (worstN n + 8)) 0
theorem sumW_snoc {l : List Int} {k : Nat} (h : k < l.length) : sumW (l.take (k + 1)) = sumW (l.take k) + (worstN l[k] + 8) := by unfold sumW; rw [take_snocI h, List.foldl_append]; rfl
def small (l : List Int) : Prop := ∀ x ∈ l, 0 ≤ x ∧ x ≤ 2000
instance (l : List Int) : Decidable (small l) := by unfold small; exact inferInstance
theorem small_nil : small [] := fun x hx => by simp at hx
theorem small_cons {x : Int} {l : List Int} (h : 0 ≤ x ∧ x ≤ 2000) (hl : small l) : small (x :: l) := fun y hy => by
  rcases List.mem_cons.1 hy with h' | h'
  · rw [h']; exact h
  · exact hl y h'
theorem worstN_le {n : Int} (h : 0 ≤ n ∧ n ≤ 2000) : 0 ≤ worstN n ∧ worstN n ≤ 20000 := by unfold worstN; omega
theorem sumW_le : ∀ (l : List Int) (s : Int), small l → s ≤ l.foldl (fun s n => s + (worstN n + 8)) s ∧ l.foldl (fun s n => s + (worstN n + 8)) s ≤ s + 20008 * l.length
  | [], s, _ => by simp
  | x :: l, s, h => by
    rw [List.foldl_cons]
    have h1 := worstN_le (h x (by simp))
    have := sumW_le l (s + (worstN x + 8)) (fun y hy => h y (by simp [hy]))
    rw [List.length_cons]; omega
theorem small_take {l : List Int} {k : Nat} (h : small l) : small (l.take k) := fun x hx => h x (List.mem_of_mem_take hx)
end Go.Proofs.Ytapbnkbknflggaa
