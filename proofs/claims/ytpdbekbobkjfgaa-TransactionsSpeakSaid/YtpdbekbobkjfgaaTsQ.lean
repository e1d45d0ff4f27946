/-
  The statement TransactionsSpeak: the law's plain function is true, from what Speak and its reference do.
  Conditions: none.
-/
import Derived.Test.YtpdbekbobkjfgaaTsP
namespace Go.Proofs.Ytpdbekbobkjfgaa
set_option linter.unusedVariables false
set_option maxRecDepth 100000
set_option maxHeartbeats 4000000

theorem faults_L0_eq (m : Nat) (ws : List Int) (hl : ws.length ≤ 200) : ∀ (n i : Nat) (l : List Int), i ≤ ws.length → l.length = i → ws.length - i < n → ∃ l', faults_L0 m n ws (i : Int) l = some ((), (l', ())) ∧ l'.length = ws.length := by
  intro n
  induction n with
  | zero => intro i l h1 h2 h3; omega
  | succ n ih =>
    intro i l h1 h2 h3
    rw [faults_L0]
    by_cases hlt : i < ws.length
    · rw [dT (show (i : Int) < (ws.length : Int) by omega), cond_true, inT (by omega) (by omega), cond_true, growT (by simp; omega) (by simp; omega), cond_true, w_i64 _ (by omega) (by omega)]
      rw [show ((i : Int) + 1) = ((i + 1 : Nat) : Int) by omega]
      exact ih (i + 1) _ (by omega) (by simp [h2]) (by omega)
    · rw [dF (show ¬ (i : Int) < (ws.length : Int) by omega), cond_false]
      exact ⟨l, rfl, by omega⟩
theorem faults_eq (m : Nat) (ws : List Int) (hl : ws.length ≤ 200) (hm : 300 ≤ m) : ∃ l, faults_D m ws = some (l, ()) ∧ l.length = ws.length := by
  obtain ⟨l, h1, h2⟩ := faults_L0_eq m ws hl m 0 [] (by omega) rfl (by omega)
  rw [show ((0 : Nat) : Int) = 0 from rfl] at h1
  exact ⟨l, by unfold faults_D; rw [h1]; rfl, h2⟩
theorem wire_eq (m : Nat) (ws l : List Int) (h : faults_D m ws = some (l, ())) (hl : l.length ≤ 200) : wire_D m ws = some ((), (l, ()), ()) := by
  unfold wire_D
  rw [h, bnd_some]
  unfold cloneF_D
  rw [dT (show (l, ()).1.length ≤ 1000000 by simp only; omega), cond_true, bnd_some]
theorem small_L0_eq (m : Nat) (ans : List PkT) (ws : List Int) (hl : ans.length ≤ 20) : ∀ (n i : Nat), i ≤ ans.length → ans.length - i < n →
    small_L0 m n (i : Int) ans ws = some (.inl ((false, ()), ())) ∨ (small_L0 m n (i : Int) ans ws = some (.inr ((), ())) ∧ ∀ a ∈ ans.drop i, (pdat a).length ≤ 1100) := by
  intro n
  induction n with
  | zero => intro i h1 h2; omega
  | succ n ih =>
    intro i h1 h2
    rw [small_L0]
    by_cases hlt : i < ans.length
    · rw [dT (show (i : Int) < (ans.length : Int) by omega), cond_true, inT (by omega) (by omega), cond_true, toNatC, getD_lt hlt]
      by_cases hd : 1100 < (pdat ans[i]).length
      · unfold pdat at hd
        rw [dT (show (1100 : Int) < ((ans[i].2.2.2.2.2.2.2.2.2.1).length : Int) by omega), cond_true]
        exact .inl rfl
      · have hd' := hd
        unfold pdat at hd'
        rw [dF (show ¬ (1100 : Int) < ((ans[i].2.2.2.2.2.2.2.2.2.1).length : Int) by omega), cond_false, w_i64 _ (by omega) (by omega)]
        rw [show ((i : Int) + 1) = ((i + 1 : Nat) : Int) by omega]
        rcases ih (i + 1) (by omega) (by omega) with h | ⟨h, h'⟩
        · exact .inl h
        · refine .inr ⟨h, ?_⟩
          rw [drop_get hlt]
          intro a ha
          rcases List.mem_cons.1 ha with rfl | ha
          · omega
          · exact h' a ha
    · rw [dF (show ¬ (i : Int) < (ans.length : Int) by omega), cond_false]
      refine .inr ⟨rfl, ?_⟩
      rw [List.drop_eq_nil_of_le (by omega)]
      intro a ha; cases ha
theorem small_eq (m : Nat) (hm : 300 ≤ m) (ans : List PkT) (ws : List Int) : small_D m (ans, ws, ()) = some (false, ()) ∨ (small_D m (ans, ws, ()) = some (true, ()) ∧ (∀ a ∈ ans, (pdat a).length ≤ 1100) ∧ ans.length ≤ 20 ∧ ws.length ≤ 60) := by
  unfold small_D
  by_cases h1 : 20 < ans.length
  · rw [dT (show (20 : Int) < ((ans, ws, ()).1.length : Int) by simp only; omega), cond_true]; exact .inl rfl
  · rw [dF (show ¬ (20 : Int) < ((ans, ws, ()).1.length : Int) by simp only; omega), cond_false]
    by_cases h2 : 60 < ws.length
    · rw [dT (show (60 : Int) < ((ans, ws, ()).2.1.length : Int) by simp only; omega), cond_true]; exact .inl rfl
    · rw [dF (show ¬ (60 : Int) < ((ans, ws, ()).2.1.length : Int) by simp only; omega), cond_false]
      have h0 := small_L0_eq m ans ws (by omega) m 0 (by omega) (by omega)
      rw [show ((0 : Nat) : Int) = 0 from rfl, List.drop_zero] at h0
      rcases h0 with h0 | ⟨h0, h3⟩
      · refine .inl ?_
        rw [h0, bnd_some, sumK_l]
      · refine .inr ⟨?_, h3, by omega, by omega⟩
        rw [h0, bnd_some, sumK_r]
theorem spk_sent (ans : List PkT) (fs : List Int) (p : PkT) : (spk ans fs p).sent.length ≤ 2 := by
  unfold spk
  split
  · simp
  · split
    · simp
    · split
      · simp
      · split
        · simp
        · split <;> simp
theorem spk_heard (ans : List PkT) (fs : List Int) (p : PkT) : (spk ans fs p).heard.length ≤ 1 := by
  unfold spk
  split
  · simp
  · split
    · simp
    · split
      · simp
      · split
        · simp
        · split <;> simp
theorem spLaw_true (p : PkT) (ans : List PkT) (ws : List Int) (wp : pwf p) (wa : ∀ a ∈ ans, pwf a) : spLaw_D 1000 p (ans, ws, ()) = some (true, ()) := by
  unfold spLaw_D
  by_cases hp : 1100 < (pdat p).length
  · unfold pdat at hp
    rw [dT (show (1100 : Int) < ((p.2.2.2.2.2.2.2.2.2.1).length : Int) by omega), cond_true]
  · have hp' := hp
    unfold pdat at hp'
    rw [dF (show ¬ (1100 : Int) < ((p.2.2.2.2.2.2.2.2.2.1).length : Int) by omega), cond_false]
    rcases small_eq 1000 (by omega) ans ws with h | ⟨h, ha, h20, h60⟩
    · rw [h, bnd_some]; rfl
    · rw [h, bnd_some]
      simp only [Bool.not_true, cond_false]
      obtain ⟨fl, hf, hfl⟩ := faults_eq 1000 ws (by omega) (by omega)
      rw [wire_eq 1000 ws fl hf (by omega), bnd_some]
      simp only
      rw [speak_eq 1000 ans fl p (by omega) wp (fun a h => ⟨ha a h, wa a h⟩), bnd_some, hf, bnd_some]
      simp only
      rw [rspeak_eq, bnd_some]
      simp only [decide_true, Bool.not_true, cond_false]
      have s1 := spk_sent ans fl p
      have s2 := spk_heard ans fl p
      rw [df3_refl, bnd_some]
      simp only [decide_true, Bool.not_true, cond_false]
      rw [dfS_refl 1000 _ (by omega) (by omega), bnd_some]
      simp only [decide_true, Bool.not_true, cond_false]
      rw [dfP_refl 1000 _ (by omega) (by omega), bnd_some]
      simp only [decide_true, Bool.not_true, cond_false]
      rw [pk_eq 1000 p wp, bnd_some, rf_eq, bnd_some]
      have hcl := cloneB_eq 1000 (p.2.2.2.2.2.2.2.2.2.1) (by omega)
      rw [hcl]
      by_cases hc : chkv p = 0
      · simp only [hc, bnd_some, decide_true, Bool.not_true, cond_false, cond_true, y1, y4, y5, y6, Bool.and_self]
        rfl
      · simp only [hc, bnd_some, decide_false, Bool.not_false, cond_true]
        rfl
end Go.Proofs.Ytpdbekbobkjfgaa
