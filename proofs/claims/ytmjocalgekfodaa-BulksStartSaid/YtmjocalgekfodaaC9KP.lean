/-
  The statement BulksStart: the plain law.
  Conditions: none.
-/
import Derived.Test.YtmjocalgekfodaaC9k
import Derived.Test.YtmjocalgekfodaaC9J
namespace Go.Proofs.Ytmjocalgekfodaa
set_option linter.unusedVariables false
set_option linter.unusedSimpArgs false
set_option maxRecDepth 100000
set_option maxHeartbeats 2000000

theorem bcutB_eq1 (m : Nat) (acc : List (List Int)) (x : List Int) (ha : acc.length ≤ 1000000) (hx : x.length ≤ 1000000) : bcutB m acc (x, ()) = some (acc ++ [x]) := by
  unfold bcutB cutB_J1
  simp only
  rw [mkA 1 _ true (by omega) (by omega) (by omega), gr1 _ (by simp; omega), gr24 _ (by simp; omega)]
  rfl
theorem yk_ints (m : Nat) {R : Type} (V : Value) (g : List (List Int)) (xs : List Int) (c : Option Nat) (K : List (List Int) → Option R) : ykF (bcutB m) bcutP R V g [SV.ints .u8 xs c] K = bnd (bcutB m g (xs, ())) K := rfl
theorem yk_nil (m : Nat) {R : Type} (V : Value) (g : List (List Int)) (K : List (List Int) → Option R) : ykF (bcutB m) bcutP R V g [SV.d (D.v (Go.Value.slice Option.none (0 : Nat) (0 : Nat)))] K = bnd (bcutB m g ([], ())) K := rfl
def chk9 (k : Nat) : Nat → List Int → List (List Int) × List Int
  | 0, b => ([], b)
  | n + 1, b => if k < b.length then (b.take k :: (chk9 k n (b.drop k)).1, (chk9 k n (b.drop k)).2) else ([], b)
theorem chk9_facts (k : Nat) (hk : 1 ≤ k) : ∀ (n : Nat) (b : List Int), b.length ≤ n → (chk9 k n b).2.length ≤ k ∧ (∀ c ∈ (chk9 k n b).1, c.length ≤ k) ∧ (chk9 k n b).1.length + (chk9 k n b).2.length ≤ b.length
  | 0, b, h => by simp [chk9]; omega
  | n + 1, b, h => by
    unfold chk9
    split
    · rename_i hlt
      obtain ⟨h1, h2, h3⟩ := chk9_facts k hk n (b.drop k) (by simp; omega)
      refine ⟨h1, fun c hc => ?_, ?_⟩
      · rcases List.mem_cons.1 hc with rfl | hc
        · simp; omega
        · exact h2 c hc
      · simp only [List.length_drop, List.length_cons] at h3 ⊢; omega
    · exact ⟨by simp; omega, by simp, by simp⟩
theorem pcs_L0_eq (m : Nat) (V : Value) (full z : Bool) (k : Nat) (hk : 1 ≤ k) : ∀ (f n : Nat) (b : List Int) (acc : List (List Int)), b.length ≤ n → n < f → b.length ≤ 1000000 → acc.length + b.length ≤ 1000000 →
    pcs_L0 (ykF (bcutB m) bcutP) m f V full b (k : Int) z acc = some (((V, (full, ())), (((chk9 k n b).2, ()), (((k : Int), ()), ((z, ()), ())))), acc ++ (chk9 k n b).1) := by
  intro f
  induction f with
  | zero => intro n b acc h1 h2; omega
  | succ f ih =>
    intro n b acc h1 h2 h3 h4
    rw [pcs_L0]
    by_cases h : k < b.length
    · obtain ⟨n, rfl⟩ : ∃ n', n = n' + 1 := ⟨n - 1, by omega⟩
      rw [dT (show (k : Int) < (b.length : Int) by omega), dT (show (0 : Int) ≤ (k : Int) by omega), dT (show (k : Int) ≤ (k : Int) by omega), toNatC, dT (show k ≤ b.length by omega), yk_ints, bcutB_eq1 m acc _ (by omega) (by simp; omega)]
      simp only [cond_true, bnd_some, Bool.and_true]
      rw [ih n (b.drop k) _ (by simp; omega) (by omega) (by simp; omega) (by simp; omega)]
      simp only [chk9, if_pos h, List.append_assoc, List.singleton_append]
    · rw [dF (show ¬ (k : Int) < (b.length : Int) by omega)]
      have e : chk9 k n b = ([], b) := by cases n <;> simp [chk9, h]
      rw [e]; simp
def cut9 (b : List Int) (k : Nat) (z : Bool) : List (List Int) := (chk9 k b.length b).1 ++ [(chk9 k b.length b).2] ++ if z && (decide (0 < b.length) && decide (b.length % k = 0)) then [[]] else []
theorem tmodN (a k : Nat) : Int.tmod (a : Int) (k : Int) = ((a % k : Nat) : Int) := by rw [Int.tmod_eq_emod_of_nonneg (by omega)]; omega
theorem pcs_Y_eq (m : Nat) (V : Value) (z : Bool) (k : Nat) (hk : 1 ≤ k) (b : List Int) (hb : b.length ≤ 900000) (hm : b.length < m) : pcs_Y (ykF (bcutB m) bcutP) m V b (k : Int) z [] = some (cut9 b k z) := by
  obtain ⟨h1, h2, h3⟩ := chk9_facts k hk b.length b (Nat.le_refl _)
  have hl : ∀ full, pcs_L0 (ykF (bcutB m) bcutP) m m V full b (k : Int) z [] = some (((V, (full, ())), (((chk9 k b.length b).2, ()), (((k : Int), ()), ((z, ()), ())))), (chk9 k b.length b).1) := fun full => by
    have := pcs_L0_eq m V full z k hk m b.length b [] (Nat.le_refl _) hm (by omega) (by simp; omega)
    simpa using this
  have ht : ∀ xs : List Int, List.take (Int.toNat (xs.length : Int)) xs = xs := fun xs => by rw [toNatC, List.take_length]
  unfold pcs_Y cut9
  by_cases hz : 0 < b.length
  · rw [dT (show (0 : Int) < (b.length : Int) by omega), dF (show ¬ (k : Int) = 0 by omega)]
    simp only [cond_true, Bool.not_false, hl, bnd_some, clipT, yk_ints, yk_nil, ht, tmodN, hz, decide_true, Bool.true_and]
    rw [bcutB_eq1 m _ _ (by omega) (by omega)]
    simp only [bnd_some]
    have e : (((b.length % k : Nat) : Int) = 0) = (b.length % k = 0) := propext ⟨fun h => by omega, fun h => by omega⟩
    simp only [e]
    cases z with
    | false => simp
    | true =>
      by_cases hf : b.length % k = 0
      · simp only [hf, decide_true, cond_true, Bool.and_self, if_true]
        rw [bcutB_eq1 m _ _ (by simp; omega) (by simp)]
        rfl
      · simp [hf]
  · rw [dF (show ¬ (0 : Int) < (b.length : Int) by omega)]
    simp only [cond_false, hl, bnd_some, clipT, cond_true, yk_ints, yk_nil, ht, hz, decide_false, Bool.false_and, Bool.and_false]
    rw [bcutB_eq1 m _ _ (by omega) (by omega)]
    cases z <;> simp [bnd]
theorem bcut_eq (m : Nat) (z : Bool) (k : Nat) (hk : 1 ≤ k) (hk2 : k ≤ 1024) (b : List Int) (hb : b.length ≤ 900000) (hm : b.length < m) : bcut_D m b (k : Int) z = some ((cut9 b k z, 0, ()), ()) := by
  have ed : Int.tdiv (b.length : Int) (k : Int) = ((b.length / k : Nat) : Int) := by rw [Int.tdiv_eq_ediv_of_nonneg (by omega)]; omega
  have ed2 : b.length / k ≤ b.length := Nat.div_le_self _ _
  unfold bcut_D bcut_J0
  rw [dF (show ¬ (k : Int) < 1 by omega), dF (show ¬ (1024 : Int) < (k : Int) by omega), dF (show ¬ (k : Int) = 0 by omega), ed]
  generalize b.length / k = dd at ed2 ⊢
  rw [wi64 (x := ((dd : Nat) : Int)) (by omega) (by omega), wi64 (by omega) (by omega)]
  simp -implicitDefEqProofs only [cond_false, Bool.not_false, cond_true]
  rw [mkA 24 _ _ (by omega) (by omega) (by omega)]
  unfold bcutRF
  have e0 : (List.replicate (Int.toNat (0 : Int)) ([] : List Int)) = [] := rfl
  rw [e0, pcs_Y_eq m V00 z k hk b hb hm]
  simp -implicitDefEqProofs only [cond_true, bnd_some, clipT]
  simp -implicitDefEqProofs only [toNatC, List.take_length]
theorem cut9_cons (b : List Int) (k : Nat) (hk : 1 ≤ k) (z : Bool) : 0 < (cut9 b k z).length ∧ ((cut9 b k z).getD 0 []).length ≤ k := by
  obtain ⟨h1, h2, h3⟩ := chk9_facts k hk b.length b (Nat.le_refl _)
  unfold cut9
  cases hc : (chk9 k b.length b).1 with
  | nil => simp; exact h1
  | cons c l => simp; exact h2 c (by rw [hc]; simp)
abbrev Pl9 := Bool × Int × Int × Bool × List Int × Bool × Int × Unit
def err9 (p : Pl9) : Int := if p.2.1 = 0 ∨ 15 < p.2.1 ∨ p.2.2.1 < 1 ∨ 1024 < p.2.2.1 then 1
  else if (p.1 = true ∧ (p.2.2.2.2.1.length ≠ 0 ∨ p.2.2.2.2.2.1 = true ∨ p.2.2.2.2.2.2.1 < 0)) ∨ (p.1 = false ∧ p.2.2.2.2.2.2.1 ≠ 0) then 1
  else if 65536 < p.2.2.2.2.1.length ∨ 65536 < p.2.2.2.2.2.2.1 then 3 else 0
end Go.Proofs.Ytmjocalgekfodaa

