/-
  Senders and receivers with a toggle, the plain law: copies, lists that begin others.
  Conditions: none.
-/
import Derived.Test.YtjibodklckppfaaDoA
namespace Go.Proofs.Ytjibodklckppfaa
set_option linter.unusedVariables false
set_option linter.unusedSimpArgs false
set_option maxRecDepth 100000
set_option maxHeartbeats 4000000

theorem set_mid {α : Type} (x y : α) (b : List α) : ∀ a : List α, (a ++ y :: b).set a.length x = a ++ x :: b
  | [] => rfl
  | z :: a => by simp [set_mid x y b a]
theorem tcopies_L0_eq (m : Nat) (l : List (List Int)) (hl : l.length ≤ 1000) (hb : ∀ b ∈ l, b.length ≤ 100000) : ∀ (f i : Nat), i ≤ l.length → l.length - i < f →
    tcopies_L0 m f l (l.length : Int) (i : Int) (l.take i ++ List.replicate (l.length - i) []) = some ((), (l, ())) := by
  intro f
  induction f with
  | zero => intro i h1 h2; omega
  | succ f ih =>
    intro i h1 h2
    rw [tcopies_L0]
    by_cases h : i < l.length
    · have hx := hb _ (getD_mem (d := []) h)
      have hlen : (l.take i ++ List.replicate (l.length - i) ([] : List Int)).length = l.length := by simp; omega
      rw [dT (by omega : (i : Int) < (l.length : Nat)), inT (by omega) (by omega : (i : Int) < (l.length : Nat)), toNatC, mkA 1 _ true (by omega) (by omega) (by omega), hlen,
        inT (by omega) (by omega : (i : Int) < (l.length : Nat)), dT h, wS i (by omega)]
      have hz : List.replicate (Int.toNat 0) (0 : Int) = [] := rfl
      rw [hz, gr1 _ (by simp only [List.length_nil]; omega)]
      simp only [cond_true, List.nil_append]
      have e1 : (l.take i ++ List.replicate (l.length - i) []).set i (l.getD i []) = l.take (i + 1) ++ List.replicate (l.length - (i + 1)) [] := by
        have hr : List.replicate (l.length - i) ([] : List Int) = [] :: List.replicate (l.length - (i + 1)) [] := by
          rw [show l.length - i = (l.length - (i + 1)) + 1 by omega]; rfl
        have ht : (l.take i).length = i := by simp; omega
        rw [hr]
        have := set_mid (l.getD i []) [] (List.replicate (l.length - (i + 1)) ([] : List Int)) (l.take i)
        rw [ht] at this
        rw [this, List.take_succ_eq_append_getElem h, List.append_assoc, getD_lt h]
        rfl
      rw [e1]
      exact ih (i + 1) (by omega) (by omega)
    · have : i = l.length := by omega
      subst this
      rw [dF (by omega : ¬ ((l.length : Nat) : Int) < (l.length : Nat))]
      simp
theorem tcopies_eq (m : Nat) (l : List (List Int)) (hm : l.length < m) (hl : l.length ≤ 1000) (hb : ∀ b ∈ l, b.length ≤ 100000) : tcopies_D m l = some ((), l, ()) := by
  unfold tcopies_D
  rw [mkL 24 _ (by omega) (by omega) (by omega)]
  have := tcopies_L0_eq m l hl hb m 0 (by omega) (by omega)
  simp only [List.take_zero, List.nil_append, Nat.sub_zero] at this
  rw [toNatC]
  rw [show ((0 : Nat) : Int) = 0 from rfl] at this
  rw [this]; rfl
theorem few6_L0_eq (m : Nat) (l : List (List Int)) (hl : l.length ≤ 20) : ∀ (f i : Nat), i ≤ l.length → l.length - i < f → (few6_L0 m f l (i : Int) = some (.inl ((false, ()), ())) ∨ (few6_L0 m f l (i : Int) = some (.inr ((), ())) ∧ ∀ j, i ≤ j → j < l.length → (l.getD j []).length ≤ 64)) := by
  intro f
  induction f with
  | zero => intro i h1 h2; omega
  | succ f ih =>
    intro i h1 h2
    rw [few6_L0]
    by_cases h : i < l.length
    · rw [dT (by omega : (i : Int) < (l.length : Nat)), inT (by omega) (by omega : (i : Int) < (l.length : Nat)), toNatC, wS i (by omega)]
      simp only [cond_true]
      by_cases hx : 64 < ((l.getD i []).length : Int)
      · rw [dT hx]; exact .inl rfl
      · rw [dF hx]
        simp only [cond_false]
        rcases ih (i + 1) (by omega) (by omega) with h3 | ⟨h3, h4⟩
        · exact .inl h3
        · refine .inr ⟨h3, fun j hj1 hj2 => ?_⟩
          by_cases hij : j = i
          · subst hij; omega
          · exact h4 j (by omega) hj2
    · rw [dF (by omega : ¬ (i : Int) < (l.length : Nat))]
      exact .inr ⟨rfl, fun j hj1 hj2 => by omega⟩
theorem few6_eq (m : Nat) (l : List (List Int)) (hm : 21 ≤ m) : few6_D m l = some (false, ()) ∨ (few6_D m l = some (true, ()) ∧ l.length ≤ 20 ∧ ∀ b ∈ l, b.length ≤ 64) := by
  unfold few6_D
  by_cases h : 20 < (l.length : Int)
  · rw [dT h]; exact .inl rfl
  · rw [dF h]
    rcases few6_L0_eq m l (by omega) m 0 (by omega) (by omega) with h3 | ⟨h3, h4⟩
    · rw [show ((0 : Nat) : Int) = 0 from rfl] at h3; rw [h3]; exact .inl rfl
    · rw [show ((0 : Nat) : Int) = 0 from rfl] at h3; rw [h3]
      refine .inr ⟨rfl, by omega, fun b hb => ?_⟩
      obtain ⟨j, hj, rfl⟩ := List.mem_iff_getElem.1 hb
      have := h4 j (by omega) hj
      rwa [getD_lt hj] at this
theorem tnew_L0_eq (m : Nat) (l : List (List Int)) (hl : l.length ≤ 1000) (hb : ∀ b ∈ l, b.length ≤ 1024) : ∀ (f i : Nat), i ≤ l.length → l.length - i < f → tnew_L0 m f l l (l.length : Int) (i : Int) false = some (.inr ((l, ()), ((false, ()), ()))) := by
  intro f
  induction f with
  | zero => intro i h1 h2; omega
  | succ f ih =>
    intro i h1 h2
    rw [tnew_L0]
    by_cases h : i < l.length
    · have hx := hb _ (getD_mem (d := []) h)
      rw [dT (by omega : (i : Int) < (l.length : Nat)), inT (by omega) (by omega : (i : Int) < (l.length : Nat)), toNatC, wS i (by omega), dF (by omega : ¬ 1024 < ((l.getD i []).length : Int))]
      exact ih (i + 1) (by omega) (by omega)
    · rw [dF (by omega : ¬ (i : Int) < (l.length : Nat))]; rfl
theorem tnew_eq (m : Nat) (l : List (List Int)) (hm : l.length < m) (hl : l.length ≤ 1000) (hb : ∀ b ∈ l, b.length ≤ 1024) : tnew_D m l = some (((false, l, ()), 0, ()), ()) := by
  unfold tnew_D
  have := tnew_L0_eq m l hl hb m 0 (by omega) (by omega)
  rw [show ((0 : Nat) : Int) = 0 from rfl] at this
  rw [dF (by omega : ¬ 4096 < (l.length : Int)), this]
  simp only [cond_false, bnd_some, sumK_r, tcopies_eq m l hm hl (fun b h => by have := hb b h; omega)]
theorem lists6_L0_eq (m : Nat) (l : List (List Int)) (k : Nat) (hk : k ≤ l.length) (hl : l.length ≤ 1000) : ∀ (f i : Nat), i ≤ k → k - i < f → lists6_L0 m f (l.take k) l (i : Int) = some (.inr ((l.take k, ()), ())) := by
  intro f
  induction f with
  | zero => intro i h1 h2; omega
  | succ f ih =>
    intro i h1 h2
    have hlk : (l.take k).length = k := by simp; omega
    rw [lists6_L0]
    by_cases h : i < k
    · have e : (l.take k).getD i [] = l.getD i [] := by
        rw [getD_lt (by omega), getD_lt (by omega : i < l.length)]; simp
      rw [dT (by omega : (i : Int) < ((l.take k).length : Nat)), inT (by omega) (by omega : (i : Int) < ((l.take k).length : Nat)), inT (by omega) (by omega : (i : Int) < (l.length : Nat)), toNatC, wS i (by omega), e, dT rfl]
      exact ih (i + 1) (by omega) (by omega)
    · rw [dF (by omega : ¬ (i : Int) < ((l.take k).length : Nat))]; rfl
theorem lists6_eq (m : Nat) (l : List (List Int)) (k : Nat) (hk : k ≤ l.length) (hl : l.length ≤ 1000) (hm : k < m) : lists6_D m (l.take k) l = some ((k : Int), ()) := by
  have hlk : (l.take k).length = k := by simp; omega
  unfold lists6_D
  have := lists6_L0_eq m l k hk hl m 0 (by omega) (by omega)
  rw [show ((0 : Nat) : Int) = 0 from rfl] at this
  rw [dF (by omega : ¬ (l.length : Int) < ((l.take k).length : Nat)), this]
  simp only [cond_false, bnd_some, sumK_r, hlk]
theorem faults6_L0_eq (m : Nat) (x : List Int) (hx : x.length ≤ 1000) : ∀ (f i : Nat) (acc : List Int), i ≤ x.length → acc.length = i → x.length - i < f → ∃ w : List Int, w.length = x.length ∧ faults6_L0 m f x (i : Int) acc = some ((), (w, ())) := by
  intro f
  induction f with
  | zero => intro i acc h1 h2 h3; omega
  | succ f ih =>
    intro i acc h1 h2 h3
    rw [faults6_L0]
    by_cases h : i < x.length
    · rw [dT (by omega : (i : Int) < (x.length : Nat)), inT (by omega) (by omega : (i : Int) < (x.length : Nat)), gr1 _ (by simp; omega), wS i (by omega)]
      exact ih (i + 1) _ (by omega) (by simp; omega) (by omega)
    · rw [dF (by omega : ¬ (i : Int) < (x.length : Nat))]
      exact ⟨acc, by omega, rfl⟩
theorem cloneF_eq (m : Nat) (xs : List Int) (h : xs.length ≤ 1000000) : cloneF_D m xs = some ((), xs, ()) := by
  unfold cloneF_D; rw [dT h]; rfl
theorem wire6_eq (m : Nat) (x : List Int) (hx : x.length ≤ 1000) (hm : x.length < m) : ∃ w : List Int, w.length = x.length ∧ wire6_D m x = some ((), (w, ()), ()) := by
  obtain ⟨w, h1, h2⟩ := faults6_L0_eq m x hx m 0 [] (by omega) rfl (by omega)
  refine ⟨w, h1, ?_⟩
  rw [show ((0 : Nat) : Int) = 0 from rfl] at h2
  unfold wire6_D faults6_D
  rw [h2]
  simp only [bnd_some, cloneF_eq m w (by omega)]
theorem toff_none (m : Nat) (t : Bool) : toff_D m (t, [], ()) = some (([], false, false, ()), ()) := by rfl
theorem toff_some (m : Nat) (t : Bool) (b : List Int) (r : List (List Int)) (hb : b.length ≤ 100000) (hm : 2 ≤ m) : toff_D m (t, b :: r, ()) = some ((b, t, true, ()), ()) := by
  unfold toff_D
  have h0 : ¬ (((b :: r).length : Nat) : Int) = 0 := by simp only [List.length_cons]; omega
  simp only [dF h0, cond_false]
  rw [dT (by omega : (0 : Int) ≤ 1), dT (by simp only [List.length_cons]; omega : Int.toNat 1 ≤ (b :: r).length)]
  have e : List.take (Int.toNat 1) (b :: r) = [b] := by simp
  rw [e, tcopies_eq m [b] (by simp; omega) (by simp) (by simpa using hb)]
  rfl
theorem tack_eq (m : Nat) (t : Bool) (b : List Int) (r : List (List Int)) (hr : r.length ≤ 1000) (hb : ∀ x ∈ r, x.length ≤ 100000) (hm : r.length < m) : tack_D m (t, b :: r, ()) = some (((!t, r, ()), 0, ()), ()) := by
  unfold tack_D
  have h0 : ¬ (((b :: r).length : Nat) : Int) = 0 := by simp only [List.length_cons]; omega
  simp only [dF h0, cond_false]
  rw [dT (by omega : (0 : Int) ≤ 1), dT (by simp only [List.length_cons]; omega : Int.toNat 1 ≤ (b :: r).length)]
  have e : List.drop (Int.toNat 1) (b :: r) = r := by simp
  have e2 : List.take (Int.toNat ((0 : Nat) : Int)) ([] : List (List Int)) = [] := by simp
  rw [e, e2, tcopies_eq m r hm hr hb, tcopies_eq m [] (by simp; omega) (by simp) (by simp)]
  rfl
end Go.Proofs.Ytjibodklckppfaa

