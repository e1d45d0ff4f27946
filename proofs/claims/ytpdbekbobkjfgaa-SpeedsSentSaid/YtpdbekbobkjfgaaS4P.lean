/-
  The statement SpeedsSent: how many states packets have.
  Conditions: none.
-/
import Derived.Test.YtpdbekbobkjfgaaS4c
import Derived.Test.YtpdbekbobkjfgaaPkP
namespace Go.Proofs.Ytpdbekbobkjfgaa
set_option linter.unusedVariables false
set_option linter.unusedSimpArgs false
set_option maxRecDepth 100000
set_option maxHeartbeats 2000000

theorem gr1 (n : Nat) (h : n ≤ 1000000000) : growOb 1 n = true := growT (by omega) (by omega)
theorem wi64 {x : Int} (h0 : -9223372036854775808 ≤ x) (h1 : x < 9223372036854775808) : Go.IntKind.wrap .i64 x = x := by simp [Go.IntKind.wrap, Go.IntKind.bits, Go.IntKind.signed]; omega
theorem mk0 (c : Int) (h0 : 0 ≤ c) (h : c ≤ 1000000) : makeOb 1 0 c true = true := by
  unfold makeOb
  simp [maxLen]
  omega
/-! ### The bits of bytes -/
theorem lvBits_L0_len (m : Nat) (xs : List Int) (hx : xs.length ≤ 2000) : ∀ (f i : Nat) (acc : List Int), i ≤ xs.length → xs.length - i < f → acc.length ≤ 8 * i → ∃ ys, lvBits_L0 m f xs (xs.length : Int) (i : Int) acc = some ((), (ys, ())) ∧ ys.length = acc.length + 8 * (xs.length - i) := by
  intro f
  induction f with
  | zero => intro i acc _ h; omega
  | succ f ih =>
    intro i acc hi hf ha
    rw [lvBits_L0]
    by_cases hlt : i < xs.length
    · rw [dT (show (i : Int) < (xs.length : Int) by omega), cond_true, inT (by omega) (by omega), cond_true]
      simp only [List.length_append, List.length_cons, List.length_nil, Nat.zero_add]
      iterate 8 rw [gr1 _ (by omega), cond_true]
      rw [wi64 (by omega) (by omega), show ((i : Int) + 1) = ((i + 1 : Nat) : Int) by omega]
      have go : ∀ B : List Int, B.length = acc.length + 8 → ∃ ys, lvBits_L0 m f xs (xs.length : Int) ((i + 1 : Nat) : Int) B = some ((), (ys, ())) ∧ ys.length = acc.length + 8 * (xs.length - i) := by
        intro B hB
        obtain ⟨ys, h1, h2⟩ := ih (i + 1) B (by omega) (by omega) (by omega)
        exact ⟨ys, h1, by omega⟩
      exact go _ (by simp only [List.length_append, List.length_cons, List.length_nil])
    · have : i = xs.length := by omega
      subst this
      rw [dF (by omega), cond_false]
      exact ⟨acc, rfl, by omega⟩
theorem lvBits_len (m : Nat) (xs : List Int) (hx : xs.length ≤ 2000) (hm : 2001 ≤ m) : ∃ ys, lvBits_D m xs = some (ys, ()) ∧ ys.length = 8 * xs.length := by
  obtain ⟨ys, h1, h2⟩ := lvBits_L0_len m xs hx m 0 [] (by omega) (by omega) (by simp)
  refine ⟨ys, ?_, by simpa using h2⟩
  unfold lvBits_D
  rw [mk0 _ (by rw [wi64 (by omega) (by omega)]; omega) (by rw [wi64 (by omega) (by omega)]; omega), cond_true]
  have e : List.replicate (Int.toNat (0 : Int)) (0 : Int) = [] := rfl
  rw [e, show (0 : Int) = ((0 : Nat) : Int) from rfl, h1, bnd_some]
/-! ### Stuffing -/
def nz (l : List Int) : Nat := (l.filter fun x => !decide (x = 0)).length
theorem nz_app (a b : List Int) : nz (a ++ b) = nz a + nz b := by simp [nz]
theorem nz_le (a : List Int) : nz a ≤ a.length := List.length_filter_le _ _
theorem nz_take (xs : List Int) (i : Nat) (h : i < xs.length) : nz (xs.take (i + 1)) = nz (xs.take i) + if xs.getD i 0 = 0 then 0 else 1 := by
  rw [List.take_add_one, List.getElem?_eq_getElem h, nz_app, getD_lt h]
  by_cases h0 : xs[i] = 0
  · rw [if_pos h0]; simp [nz, h0]
  · rw [if_neg h0]; simp [nz, h0]
theorem lvStuff_L0_len (m : Nat) (xs : List Int) (hx : xs.length ≤ 20000) : ∀ (f i c s : Nat) (acc : List Int), i ≤ xs.length → xs.length - i < f → c < 6 → 6 * s + c ≤ nz (xs.take i) → acc.length = i + s → ∃ ys s', lvStuff_L0 m f (c : Int) xs (xs.length : Int) (i : Int) acc = some ((), (ys, ())) ∧ ys.length = xs.length + s' ∧ 6 * s' ≤ nz xs := by
  intro f
  induction f with
  | zero => intro i c s acc _ h; omega
  | succ f ih =>
    intro i c s acc hi hf hc hs ha
    rw [lvStuff_L0]
    by_cases hlt : i < xs.length
    · have hn := nz_le (xs.take i)
      have hn2 : (xs.take i).length ≤ 20000 := by simp; omega
      have ht := nz_take xs i hlt
      unfold lvStuff_J0
      rw [dT (show (i : Int) < (xs.length : Int) by omega), cond_true, inT (by omega) (by omega), cond_true]
      simp only [Int.toNat_natCast, List.length_append, List.length_cons, List.length_nil, Nat.zero_add]
      rw [gr1 _ (by omega), cond_true, wi64 (x := (c : Int) + 1) (by omega) (by omega), wi64 (x := (i : Int) + 1) (by omega) (by omega), show ((i : Int) + 1) = ((i + 1 : Nat) : Int) by omega]
      by_cases h0 : xs.getD i 0 = 0
      · rw [dT h0, cond_true]
        rw [if_pos h0] at ht
        exact ih (i + 1) 0 s _ (by omega) (by omega) (by omega) (by omega) (by simp only [List.length_append, List.length_cons, List.length_nil]; omega)
      · rw [dF h0, cond_false]
        rw [if_neg h0] at ht
        by_cases h6 : c = 5
        · subst h6
          rw [dT (by omega), cond_true, gr1 _ (by omega), cond_true]
          exact ih (i + 1) 0 (s + 1) _ (by omega) (by omega) (by omega) (by omega) (by simp only [List.length_append, List.length_cons, List.length_nil]; omega)
        · rw [dF (by omega), cond_false, show ((c : Int) + 1) = ((c + 1 : Nat) : Int) by omega]
          exact ih (i + 1) (c + 1) s _ (by omega) (by omega) (by omega) (by omega) (by simp only [List.length_append, List.length_cons, List.length_nil]; omega)
    · have : i = xs.length := by omega
      subst this
      rw [dF (by omega), cond_false]
      rw [List.take_length] at hs
      exact ⟨acc, s, rfl, ha, by omega⟩
theorem clipT (n : Nat) : (decide ((0 : Int) ≤ (n : Int)) && (decide ((n : Int) ≤ (n : Int)) && decide (Int.toNat (n : Int) ≤ n))) = true := by
  rw [dT (by omega), dT (Int.le_refl _), dT (by rw [Int.toNat_natCast]; exact Nat.le_refl _)]; rfl
theorem lvStuff_len (m : Nat) (xs : List Int) (hx : xs.length ≤ 20000) (hm : 20001 ≤ m) : ∃ ys s', lvStuff_D m xs = some (ys, ()) ∧ ys.length = xs.length + s' ∧ 6 * s' ≤ nz xs := by
  obtain ⟨ys, s', h1, h2, h3⟩ := lvStuff_L0_len m xs hx m 0 0 0 [] (by omega) (by omega) (by omega) (by simp) (by simp)
  refine ⟨ys, s', ?_, h2, h3⟩
  unfold lvStuff_D
  rw [show (0 : Int) = ((0 : Nat) : Int) from rfl, h1, bnd_some]
  simp only
  rw [show ((0 : Nat) : Int) = 0 from rfl, clipT, cond_true, Int.toNat_natCast, List.take_length]
theorem lvEnc_L0_len (m : Nat) (xs : List Int) (hx : xs.length ≤ 50000) : ∀ (f i : Nat) (s : Int) (acc : List Int), i ≤ xs.length → xs.length - i < f → acc.length = i → ∃ ys, lvEnc_L0 m f s xs (xs.length : Int) (i : Int) acc = some ((), (ys, ())) ∧ ys.length = xs.length := by
  intro f
  induction f with
  | zero => intro i s acc _ h; omega
  | succ f ih =>
    intro i s acc hi hf ha
    rw [lvEnc_L0]
    by_cases hlt : i < xs.length
    · unfold lvEnc_J0
      rw [dT (show (i : Int) < (xs.length : Int) by omega), cond_true, inT (by omega) (by omega), cond_true]
      simp only [List.length_cons, List.length_nil, Nat.zero_add]
      rw [gr1 _ (by omega), wi64 (x := (i : Int) + 1) (by omega) (by omega), show ((i : Int) + 1) = ((i + 1 : Nat) : Int) by omega]
      cases decide (xs.getD (Int.toNat (i : Int)) 0 = 0)
      · exact ih (i + 1) _ _ (by omega) (by omega) (by simp; omega)
      · exact ih (i + 1) _ _ (by omega) (by omega) (by simp; omega)
    · have : i = xs.length := by omega
      subst this
      rw [dF (by omega), cond_false]
      exact ⟨acc, rfl, by omega⟩
theorem lvEnc_len (m : Nat) (xs : List Int) (hx : xs.length ≤ 50000) (hm : 50001 ≤ m) : ∃ ys, lvEnc_D m xs 3 = some ((), (ys, ())) ∧ ys.length = xs.length := by
  obtain ⟨ys, h1, h2⟩ := lvEnc_L0_len m xs hx m 0 0 [] (by omega) (by omega) rfl
  refine ⟨ys, ?_, h2⟩
  unfold lvEnc_D
  rw [mk0 _ (by rw [wi64 (by omega) (by omega)]; omega) (by rw [wi64 (by omega) (by omega)]; omega), cond_true]
  have e : List.replicate (Int.toNat (0 : Int)) (0 : Int) = [] := rfl
  rw [e]
  rw [show ((0 : Nat) : Int) = 0 from rfl] at h1
  rw [h1, bnd_some]
def wst (n : Nat) : Nat := 8 + 8 * n + (8 * n + 1) / 6 + 3
theorem lvSend_len (m : Nat) (xs : List Int) (h1 : 1 ≤ xs.length) (h2 : xs.length ≤ 1027) (hm : 60000 ≤ m) : ∃ ys, lvSend_D m xs = some ((ys, 0, ()), ()) ∧ ys.length ≤ wst xs.length := by
  obtain ⟨bs, b1, b2⟩ := lvBits_len m xs (by omega) (by omega)
  have hlen : ([0, 0, 0, 0, 0, 0, 0, 1] ++ bs : List Int).length = 8 + 8 * xs.length := by rw [List.length_append, b2]; rfl
  obtain ⟨st, s', s1, s2, s3⟩ := lvStuff_len m ([0, 0, 0, 0, 0, 0, 0, 1] ++ bs) (by omega) (by omega)
  have hnz : nz ([0, 0, 0, 0, 0, 0, 0, 1] ++ bs) ≤ 1 + 8 * xs.length := by
    rw [nz_app]
    have := nz_le bs
    have e : nz [0, 0, 0, 0, 0, 0, 0, 1] = 1 := by decide
    omega
  obtain ⟨es, e1, e2⟩ := lvEnc_len m st (by omega) (by omega)
  refine ⟨es ++ [2, 2, 0], ?_, ?_⟩
  · unfold lvSend_D
    rw [dF (by omega), cond_false, dF (by omega), cond_false, b1, bnd_some]
    have hc : (decide ((8 : Nat) = List.length [(0 : Int), (0 : Int), (0 : Int), (0 : Int), (0 : Int), (0 : Int), (0 : Int), (1 : Int)]) && (decide ((0 : Nat) < bs.length) && growOb 1 (List.length [(0 : Int), (0 : Int), (0 : Int), (0 : Int), (0 : Int), (0 : Int), (0 : Int), (1 : Int)] + bs.length))) = true := by
      rw [dT (show (0 : Nat) < bs.length by omega), gr1 _ (by simp only [List.length_cons, List.length_nil]; omega)]; rfl
    simp only
    rw [hc, cond_true, s1, bnd_some]
    simp only
    rw [e1, bnd_some]
    simp only
    rw [gr1 _ (by simp only [List.length_cons, List.length_nil]; omega), cond_true]
  · rw [List.length_append]
    simp only [List.length_cons, List.length_nil]
    unfold wst
    omega
end Go.Proofs.Ytpdbekbobkjfgaa
