/-
  The statement BulksJoin: the plain law.
  Conditions: none.
-/
import Derived.Test.YtmjocalgekfodaaC9y
import Derived.Test.YtmjocalgekfodaaKF
namespace Go.Proofs.Ytmjocalgekfodaa
set_option linter.unusedVariables false
set_option linter.unusedSimpArgs false
set_option maxRecDepth 100000
set_option maxHeartbeats 2000000

theorem gr1 (n : Nat) (h : n ≤ 1000000000) : growOb 1 n = true := growT (by omega) (by omega)
theorem gr24 (n : Nat) (h : n ≤ 1000000000) : growOb 24 n = true := growT (by omega) (by omega)
theorem wi64 {x : Int} (h0 : -9223372036854775808 ≤ x) (h1 : x < 9223372036854775808) : Go.IntKind.wrap .i64 x = x := by simp [Go.IntKind.wrap, Go.IntKind.bits, Go.IntKind.signed]; omega
theorem mkA (b : Nat) (c : Int) (any : Bool) (hb : b ≤ 64) (h0 : 0 ≤ c) (h : c ≤ 1000000) : makeOb b 0 c any = true := by
  have : (b : Int) * c ≤ 281474976710656 := by
    have := Int.mul_le_mul (show (b : Int) ≤ 64 by omega) h h0 (by omega)
    omega
  simp [makeOb, h0, this]
theorem clipT (n : Nat) : (decide ((0 : Int) ≤ (n : Int)) && (decide ((n : Int) ≤ (n : Int)) && decide (Int.toNat (n : Int) ≤ n))) = true := by
  rw [dT (show (0 : Int) ≤ (n : Int) by omega), dT (show (n : Int) ≤ (n : Int) by omega), dT (show Int.toNat (n : Int) ≤ n by omega)]; rfl
theorem wS (i : Nat) (h : i < 1000000000) : Go.IntKind.wrap .i64 ((i : Int) + 1) = ((i + 1 : Nat) : Int) := by rw [wi64 (by omega) (by omega)]; omega
theorem lives9_true : lives9_D 2000 = some (true, ()) := by kernel_rfl
theorem bclone_eq (m : Nat) (xs : List Int) (h : xs.length ≤ 1000000) : bclone_D m xs = some (xs, ()) := by
  unfold bclone_D
  rw [mkA 1 _ true (by omega) (by omega) (by omega), gr1 _ (by simp; omega)]
  rfl
theorem lst9_self_L (m : Nat) (a : List (List Int)) (ha : a.length ≤ 1000000) : ∀ (f i : Nat), i ≤ a.length → a.length - i < f → lst9_L0 m f a a (i : Int) = some (.inr ((), ())) := by
  intro f
  induction f with
  | zero => intro i h1 h2; omega
  | succ f ih =>
    intro i h1 h2
    rw [lst9_L0]
    by_cases h : i < a.length
    · rw [dT (show (i : Int) < (a.length : Int) by omega), inT (by omega) (by omega : (i : Int) < (a.length : Nat)), wS i (by omega), ih (i + 1) (by omega) (by omega)]
      simp
    · rw [dF (show ¬ (i : Int) < (a.length : Int) by omega)]
      rfl
theorem lst9_self (m : Nat) (a : List (List Int)) (ha : a.length < m) (hb : a.length ≤ 1000000) : lst9_D m a a = some (0, ()) := by
  unfold lst9_D
  rw [lst9_self_L m a hb m 0 (by omega) (by omega) |> (fun h => (by simpa using h : lst9_L0 m m a a (0 : Int) = some (.inr ((), ()))))]
  simp [bnd, sumK]
def jn (mx : Int) : List (List Int) → List Int → List (List Int) → List (List Int) × List Int
  | acc, rest, [] => (acc, rest)
  | acc, rest, b :: l => if (b.length : Int) < mx then jn mx (acc ++ [rest ++ b]) [] l else jn mx acc (rest ++ b) l
theorem drop_cons {α : Type} {l : List α} {i : Nat} {d : α} (h : i < l.length) : l.drop i = l.getD i d :: l.drop (i + 1) := by rw [getD_lt h]; exact drop_get h
theorem jn_len (mx : Int) : ∀ (l : List (List Int)) (acc : List (List Int)) (rest : List Int), (∀ b ∈ l, b.length ≤ 60) → (jn mx acc rest l).1.length ≤ acc.length + l.length ∧ (jn mx acc rest l).2.length ≤ rest.length + 60 * l.length
  | [], acc, rest, _ => by simp [jn]
  | b :: l, acc, rest, h => by
    have hb := h b (by simp)
    have hl := fun c hc => h c (List.mem_cons_of_mem _ hc)
    unfold jn
    split
    · have := jn_len mx l (acc ++ [rest ++ b]) [] hl
      simp at this ⊢; omega
    · have := jn_len mx l acc (rest ++ b) hl
      simp at this ⊢; omega
theorem getD_mem {α : Type} {l : List α} {i : Nat} {d : α} (h : i < l.length) : l.getD i d ∈ l := by rw [getD_lt h]; exact List.getElem_mem h
theorem bjoin_L1_eq (m : Nat) (mx : Int) (l : List (List Int)) (hl : ∀ b ∈ l, b.length ≤ 60) (hn : l.length ≤ 40) : ∀ (f i : Nat) (acc : List (List Int)) (rest : List Int), i ≤ l.length → l.length - i < f → acc.length ≤ i → rest.length ≤ 60 * i →
    bjoin_L1 m f mx l (l.length : Int) (i : Int) acc rest = some ((), ((jn mx acc rest (l.drop i)).1, ((jn mx acc rest (l.drop i)).2, ()))) := by
  intro f
  induction f with
  | zero => intro i acc rest h1 h2; omega
  | succ f ih =>
    intro i acc rest h1 h2 h3 h4
    rw [bjoin_L1]
    by_cases h : i < l.length
    · have hb := hl _ (getD_mem (d := []) h)
      rw [dT (show (i : Int) < (l.length : Int) by omega)]
      unfold bjoin_J1
      rw [inT (by omega) (by omega : (i : Int) < (l.length : Nat)), toNatC, wS i (by omega), gr1 _ (by omega), drop_cons (d := []) h]
      simp only [cond_true, jn]
      by_cases hc : ((l.getD i []).length : Int) < mx
      · rw [dT hc, if_pos hc, bclone_eq m _ (by simp only [List.length_append, List.length_cons, List.length_nil]; omega)]
        simp only [cond_true, bnd_some]
        rw [gr24 _ (by simp only [List.length_append, List.length_cons, List.length_nil]; omega), ih (i + 1) _ [] (by omega) (by omega) (by simp only [List.length_append, List.length_cons, List.length_nil]; omega) (by simp)]
        rfl
      · rw [dF hc, if_neg hc, ih (i + 1) acc _ (by omega) (by omega) (by omega) (by simp only [List.length_append, List.length_cons, List.length_nil]; omega)]
        rfl
    · rw [dF (show ¬ (i : Int) < (l.length : Int) by omega), List.drop_eq_nil_of_le (by omega)]
      rfl
theorem rjoin_L0_eq (m : Nat) (mx : Int) (l : List (List Int)) (hl : ∀ b ∈ l, b.length ≤ 60) (hn : l.length ≤ 40) : ∀ (f i : Nat) (acc : List (List Int)) (rest : List Int), i ≤ l.length → l.length - i < f → acc.length ≤ i → rest.length ≤ 60 * i →
    rjoin_L0 m f l mx rest (i : Int) acc = some (((jn mx acc rest (l.drop i)).2, ()), ((jn mx acc rest (l.drop i)).1, ())) := by
  intro f
  induction f with
  | zero => intro i acc rest h1 h2; omega
  | succ f ih =>
    intro i acc rest h1 h2 h3 h4
    rw [rjoin_L0]
    by_cases h : i < l.length
    · have hb := hl _ (getD_mem (d := []) h)
      rw [dT (show (i : Int) < (l.length : Int) by omega)]
      unfold rjoin_J0
      rw [inT (by omega) (by omega : (i : Int) < (l.length : Nat)), toNatC, wS i (by omega), gr1 _ (by omega), gr1 _ (by simp only [List.length_append, List.length_cons, List.length_nil]; omega), drop_cons (d := []) h, dT (show (17 : Nat) < 36 by omega)]
      simp only [cond_true, jn, List.nil_append, Bool.and_true]
      by_cases hc : ((l.getD i []).length : Int) < mx
      · rw [dT hc, if_pos hc, gr24 _ (by simp only [List.length_append, List.length_cons, List.length_nil]; omega), ih (i + 1) _ [] (by omega) (by omega) (by simp only [List.length_append, List.length_cons, List.length_nil]; omega) (by simp)]
        rfl
      · rw [dF hc, if_neg hc, ih (i + 1) acc _ (by omega) (by omega) (by omega) (by simp only [List.length_append, List.length_cons, List.length_nil]; omega)]
        rfl
    · rw [dF (show ¬ (i : Int) < (l.length : Int) by omega), List.drop_eq_nil_of_le (by omega)]
      rfl
theorem bjoin_L0_eq (m : Nat) (mx : Int) (l0 l : List (List Int)) (hn : l.length ≤ 40) : ∀ (f i : Nat), i ≤ l.length → l.length - i < f →
    bjoin_L0 m f l0 mx l (l.length : Int) (i : Int) = some (if ∃ b ∈ l.drop i, mx < (b.length : Int) then .inl ((3, ()), ()) else .inr ((l0, (mx, ())), ())) := by
  intro f
  induction f with
  | zero => intro i h1 h2; omega
  | succ f ih =>
    intro i h1 h2
    rw [bjoin_L0]
    by_cases h : i < l.length
    · rw [dT (show (i : Int) < (l.length : Int) by omega), inT (by omega) (by omega : (i : Int) < (l.length : Nat)), toNatC, wS i (by omega), drop_cons (d := []) h, ih (i + 1) (by omega) (by omega)]
      by_cases hc : mx < ((l.getD i []).length : Int)
      · rw [dT hc, if_pos (show ∃ b ∈ l.getD i [] :: l.drop (i + 1), mx < (b.length : Int) from ⟨_, List.mem_cons_self .., hc⟩)]; rfl
      · rw [dF hc]
        simp only [cond_true, cond_false, List.mem_cons, exists_eq_or_imp, hc, false_or]
    · rw [dF (show ¬ (i : Int) < (l.length : Int) by omega), List.drop_eq_nil_of_le (by omega)]
      simp
theorem lawJ_L0_eq (m : Nat) (mx : Int) (l : List (List Int)) (hn : l.length ≤ 40) : ∀ (f i : Nat) (w : Int), i ≤ l.length → l.length - i < f →
    lawJ_L0 m f l mx w (i : Int) = some (if ∃ b ∈ l.drop i, 60 < b.length then .inl ((true, ()), ()) else .inr ((l, (mx, ((if ∃ b ∈ l.drop i, mx < (b.length : Int) then 3 else w), ()))), ())) := by
  intro f
  induction f with
  | zero => intro i w h1 h2; omega
  | succ f ih =>
    intro i w h1 h2
    rw [lawJ_L0]
    by_cases h : i < l.length
    · unfold lawJ_J0
      rw [dT (show (i : Int) < (l.length : Int) by omega), inT (by omega) (by omega : (i : Int) < (l.length : Nat)), toNatC, wS i (by omega), drop_cons (d := []) h]
      simp only [cond_true]
      by_cases h60 : (60 : Int) < ((l.getD i []).length : Int)
      · rw [dT h60, if_pos (show ∃ b ∈ l.getD i [] :: l.drop (i + 1), 60 < b.length from ⟨_, List.mem_cons_self .., by omega⟩)]; rfl
      · have h60' : ¬ 60 < (l.getD i []).length := by omega
        rw [dF h60, ih (i + 1) 3 (by omega) (by omega), ih (i + 1) w (by omega) (by omega)]
        simp only [cond_false, List.mem_cons, exists_eq_or_imp, h60', false_or]
        by_cases hc : mx < ((l.getD i []).length : Int)
        · rw [dT hc]
          simp only [cond_true, hc, true_or, if_true, ite_self]
        · rw [dF hc]
          simp only [cond_false, hc, false_or]
    · rw [dF (show ¬ (i : Int) < (l.length : Int) by omega), List.drop_eq_nil_of_le (by omega)]
      simp
theorem bjoin_eq (mx : Int) (l : List (List Int)) (hn : l.length ≤ 40) (hl : ∀ b ∈ l, b.length ≤ 60) (h1 : 1 ≤ mx) (h2 : mx ≤ 64) :
    bjoin_D 2000 l mx = some (if ∃ b ∈ l, mx < (b.length : Int) then (([], [], 3, ()), ()) else (((jn mx [] [] l).1, (jn mx [] [] l).2, 0, ()), ())) := by
  unfold bjoin_D bjoin_J0
  rw [dF (show ¬ mx < 1 by omega), dF (show ¬ 1024 < mx by omega)]
  simp only [cond_false]
  have e0 : bjoin_L0 2000 2000 l mx l (l.length : Int) 0 = some (if ∃ b ∈ l, mx < (b.length : Int) then .inl ((3, ()), ()) else .inr ((l, (mx, ())), ())) := bjoin_L0_eq 2000 mx l l hn 2000 0 (by omega) (by omega)
  rw [e0]
  by_cases hc : ∃ b ∈ l, mx < (b.length : Int)
  · rw [if_pos hc, if_pos hc]; rfl
  · rw [if_neg hc, if_neg hc]
    have e1 : bjoin_L1 2000 2000 mx l (l.length : Int) 0 [] [] = some ((), ((jn mx [] [] l).1, ((jn mx [] [] l).2, ()))) := bjoin_L1_eq 2000 mx l hl hn 2000 0 [] [] (by omega) (by omega) (by simp) (by simp)
    have hj := jn_len mx l [] [] hl
    simp only [List.length_nil] at hj
    simp only [bnd_some, sumK_r, e1, clipT, cond_true]
    rw [bclone_eq _ _ (by omega)]
    simp only [bnd_some, toNatC, List.take_length]
theorem rjoin_eq (mx : Int) (l : List (List Int)) (hn : l.length ≤ 40) (hl : ∀ b ∈ l, b.length ≤ 60) : rjoin_D 2000 l mx = some (((jn mx [] [] l).1, (jn mx [] [] l).2, ()), ()) := by
  unfold rjoin_D
  have e1 : rjoin_L0 2000 2000 l mx [] 0 [] = some (((jn mx [] [] l).2, ()), ((jn mx [] [] l).1, ())) := rjoin_L0_eq 2000 mx l hl hn 2000 0 [] [] (by omega) (by omega) (by simp) (by simp)
  rw [e1]; rfl
theorem lawJ_true (l : List (List Int)) (x : Int) (h0 : 0 ≤ x) (h1 : x ≤ 255) : lawJ_D 2000 l x = some (true, ()) := by
  unfold lawJ_D
  by_cases hn : 40 < l.length
  · rw [dT (show (40 : Int) < (l.length : Int) by omega)]; rfl
  · rw [dF (show ¬ (40 : Int) < (l.length : Int) by omega)]
    simp only [cond_false]
    have hw : Go.IntKind.wrap .i64 x = x := wi64 (by omega) (by omega)
    have ht : Int.tmod x 64 = x % 64 := Int.tmod_eq_emod_of_nonneg h0
    have hN : Go.IntKind.wrap .i64 ((1 : Int) + Int.tmod (Go.IntKind.wrap .i64 x) (64 : Int)) = 1 + x % 64 := by rw [hw, ht, wi64 (by omega) (by omega)]
    rw [hN]
    generalize hmx : 1 + x % 64 = mx
    have g1 : 1 ≤ mx := by omega
    have g2 : mx ≤ 64 := by omega
    have e0 : lawJ_L0 2000 2000 l mx 0 0 = some (if ∃ b ∈ l, 60 < b.length then .inl ((true, ()), ()) else .inr ((l, (mx, ((if ∃ b ∈ l, mx < (b.length : Int) then 3 else 0), ()))), ())) := lawJ_L0_eq 2000 mx l (by omega) 2000 0 0 (by omega) (by omega)
    rw [e0]
    by_cases h60 : ∃ b ∈ l, 60 < b.length
    · rw [if_pos h60]; rfl
    · rw [if_neg h60]
      have hl : ∀ b ∈ l, b.length ≤ 60 := fun b hb => by
        rcases Nat.lt_or_ge 60 b.length with h | h
        · exact absurd ⟨b, hb, h⟩ h60
        · exact h
      simp only [bnd_some, sumK_r]
      rw [bjoin_eq mx l (by omega) hl g1 g2]
      simp only [bnd_some]
      by_cases hc : ∃ b ∈ l, mx < (b.length : Int)
      · simp only [if_pos hc]
        unfold lawJ_J1
        simp [lives9_true, bnd]
      · simp only [if_neg hc]
        rw [rjoin_eq mx l (by omega) hl]
        unfold lawJ_J2
        have hj := jn_len mx l [] [] hl
        simp only [List.length_nil] at hj
        simp only [bnd_some]
        rw [lst9_self 2000 _ (by omega) (by omega)]
        simp [lives9_true, bnd]
end Go.Proofs.Ytmjocalgekfodaa

