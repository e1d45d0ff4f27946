/-
  The statement SpeedsSent: the law's plain function is true.
  Conditions: none.
-/
import Derived.Test.YtpdbekbobkjfgaaS4P
namespace Go.Proofs.Ytpdbekbobkjfgaa
set_option linter.unusedVariables false
set_option linter.unusedSimpArgs false
set_option maxRecDepth 100000
set_option maxHeartbeats 2000000

/-! ### The checks have an outcome -/
theorem step8_tot (m : Nat) (a b c : Int) : ∃ r, step8_D m a b c = some (r, ()) := by
  unfold step8_D
  cases decide (Go.bits .and .u8 (Go.bits .xor .u8 a c) (1 : Int) = (1 : Int))
  · exact ⟨_, rfl⟩
  · exact ⟨_, rfl⟩
theorem ckbits_L0_tot (m : Nat) (v : Int) (n : Nat) (hn : n ≤ 64) : ∀ (f i : Nat) (r : Int), i ≤ n → n - i < f → ∃ r', ckbits_L0 m f v (n : Int) (i : Int) r = some ((), ((r', ()), ())) := by
  intro f
  induction f with
  | zero => intro i r _ h; omega
  | succ f ih =>
    intro i r hi hf
    rw [ckbits_L0]
    by_cases hlt : i < n
    · rw [dT (show (i : Int) < (n : Int) by omega), cond_true, dT (show (0 : Int) ≤ (i : Int) by omega), cond_true]
      obtain ⟨r1, h1⟩ := step8_tot m r 20 (Go.IntKind.wrap .u8 (Go.bits .and .u32 (Int.fdiv v ((2 : Int) ^ Min.min (Int.toNat (i : Int)) (Go.IntKind.bits .u32))) (1 : Int)))
      rw [h1, bnd_some, wi64 (by omega) (by omega), show ((i : Int) + 1) = ((i + 1 : Nat) : Int) by omega]
      exact ih (i + 1) _ (by omega) (by omega)
    · rw [dF (by omega), cond_false]
      exact ⟨r, rfl⟩
theorem five_tot (m : Nat) (v : Int) (n : Nat) (hn : n ≤ 64) (hm : 65 ≤ m) : ∃ r, five_D m v (n : Int) = some (r, ()) := by
  obtain ⟨r, h⟩ := ckbits_L0_tot m v n hn m 0 31 (by omega) (by omega)
  unfold five_D ckbits_D
  rw [show (0 : Int) = ((0 : Nat) : Int) from rfl, h, bnd_some, bnd_some]
  exact ⟨_, rfl⟩
theorem join_tot (m : Nat) (v : Int) (hm : 65 ≤ m) : ∃ r e, join_D m v 11 = some ((r, e, ()), ()) := by
  obtain ⟨r, h⟩ := five_tot m v 11 (by omega) hm
  unfold join_D ckfits_D ckfits_J0
  rw [show decide ((0 : Int) ≤ 11) = true from rfl, cond_true, show decide ((11 : Int) ≤ 24) = true from rfl, cond_true, cond_true, bnd_some]
  rw [show ((11 : Nat) : Int) = 11 from rfl] at h
  generalize decide (Int.fdiv v ((2 : Int) ^ Min.min (Int.toNat (11 : Int)) (Go.IntKind.bits .u32)) = (0 : Int)) = b
  cases b
  · exact ⟨_, _, rfl⟩
  · simp only [Bool.not_true, cond_false, h, bnd_some, cond_true]
    exact ⟨_, _, rfl⟩
theorem and15_rng (x : Int) : 0 ≤ Go.bits .and .u16 x (15 : Int) ∧ Go.bits .and .u16 x (15 : Int) < 16 := by
  have e : Go.bits .and .u16 x (15 : Int) = Go.IntKind.wrap .u16 ((BitVec.ofInt 16 x &&& BitVec.ofInt 16 (15 : Int)).toNat : Int) := rfl
  have h : (BitVec.ofInt 16 x &&& BitVec.ofInt 16 (15 : Int)).toNat ≤ 15 := by
    rw [BitVec.toNat_and]
    exact Nat.and_le_right
  rw [e, wraps_u16 _ (by omega) (by omega)]
  omega
theorem natlit0 (n : Nat) : nat_lit 0 + n = n := Nat.zero_add n
theorem sixteen_L0_tot (m : Nat) (xs : List Int) (hx : xs.length ≤ 1000000) (tb : Int × Int × Int × Int × Int × Int × Int × Int × Int × Int × Int × Int × Int × Int × Int × Int × Unit) : ∀ (f i : Nat) (r : Int), i ≤ xs.length → xs.length - i < f → ∃ r', sixteen_L0 m f r xs (xs.length : Int) (i : Int) tb = some ((r', ()), ()) := by
  intro f
  induction f with
  | zero => intro i r _ h; omega
  | succ f ih =>
    intro i r hi hf
    rw [sixteen_L0]
    by_cases hlt : i < xs.length
    · rw [dT (show (i : Int) < (xs.length : Int) by omega), cond_true, inT (by omega) (by omega), cond_true]
      simp only [natlit0, List.length_cons, List.length_nil, Nat.zero_add, Nat.reduceAdd]
      have k1 : ∀ x : Int, inB (Go.bits .and .u16 x (15 : Int)) 16 = true := fun x => inT (and15_rng x).1 (and15_rng x).2
      have k2 : ∀ x : Int, decide (Int.toNat (Go.bits .and .u16 x (15 : Int)) < 16) = true := fun x => dT (by have := and15_rng x; omega)
      rw [k1, cond_true, k2, cond_true, k1, cond_true, k2, cond_true, wi64 (by omega) (by omega), show ((i : Int) + 1) = ((i + 1 : Nat) : Int) by omega]
      exact ih (i + 1) _ (by omega) (by omega)
    · rw [dF (by omega), cond_false]
      exact ⟨r, rfl⟩
theorem sixteen_tot (m : Nat) (xs : List Int) (hx : xs.length ≤ 1000000) (hm : xs.length < m) : ∃ r, sixteen_D m xs = some (r, ()) := by
  unfold sixteen_D
  have := fun tb => sixteen_L0_tot m xs hx tb m 0 65535 (by omega) (by omega)
  rw [show ((0 : Nat) : Int) = 0 from rfl] at this
  obtain ⟨r, h⟩ := this _
  rw [h, bnd_some]
  exact ⟨_, rfl⟩
theorem add_len (m : Nat) (xs : List Int) (hx : xs.length ≤ 2000) (hm : 2001 ≤ m) : ∃ ys, add_D m xs = some (ys, ()) ∧ ys.length = xs.length + 2 := by
  obtain ⟨r, h⟩ := sixteen_tot m xs (by omega) (by omega)
  unfold add_D
  rw [h, bnd_some, mk0 _ (by rw [wi64 (by omega) (by omega)]; omega) (by rw [wi64 (by omega) (by omega)]; omega), cond_true]
  have e : List.replicate (Int.toNat (0 : Int)) (0 : Int) = [] := rfl
  simp only [e, List.length_nil, List.nil_append, List.length_cons, Nat.zero_add]
  rw [gr1 _ (by omega), cond_true, gr1 _ (by omega), cond_true]
  exact ⟨_, rfl, by simp only [List.length_append, List.length_cons, List.length_nil]⟩
/-! ### Encode -/
theorem encAck (m : Nat) : ∃ ys, encode_D m (2, 0, 0, 0, 0, 0, false, false, 0, [], ()) = some ((ys, 0, ()), ()) ∧ ys.length = 1 := by
  have hc : pkCheck_D m (2, 0, 0, 0, 0, 0, false, false, 0, [], ()) = some (0, ()) := by
    rw [chk_same m 2 0 0 0 0 0 0 false false [] (by omega) (by omega) (by omega) (by omega) (by omega) (by omega) (by omega) (by omega) (by omega) (by omega) (by omega) (by omega)]
    rfl
  unfold encode_D
  rw [hc, bnd_some]
  exact ⟨_, rfl, rfl⟩
theorem encData (m : Nat) (d : List Int) (hd : d.length ≤ 200) (hm : 2001 ≤ m) : ∃ ys, encode_D m (3, 0, 0, 0, 0, 0, false, false, 0, d, ()) = some ((ys, 0, ()), ()) ∧ ys.length = d.length + 3 := by
  have hc : pkCheck_D m (3, 0, 0, 0, 0, 0, false, false, 0, d, ()) = some (0, ()) := by
    rw [chk_same m 3 0 0 0 0 0 0 false false d (by omega) (by omega) (by omega) (by omega) (by omega) (by omega) (by omega) (by omega) (by omega) (by omega) (by omega) (by omega)]
    have k7 : decide ((1024 : Int) < (d.length : Int)) = false := dF (by omega)
    unfold rfCheck_D
    simp [show known_D m 3 = some (true, ()) from rfl, show token3_D m 3 = some (false, ()) from rfl, show hasData_D m 3 = some (true, ()) from rfl, bnd_some, k7]
  obtain ⟨ys, h1, h2⟩ := add_len m d (by omega) hm
  unfold encode_D
  rw [hc, bnd_some]
  simp only [decide_true, Bool.not_true, cond_false, show shapeOf_D m 3 = some (5, ()) from rfl, bnd_some, show decide ((5 : Int) = 1) = false from rfl, cond_true, show first_D m 3 = some (195, ()) from rfl, h1]
  rw [mk0 _ (by rw [wi64 (by omega) (by omega)]; omega) (by rw [wi64 (by omega) (by omega)]; omega), cond_true]
  have e : List.replicate (Int.toNat (0 : Int)) (0 : Int) = [] := rfl
  simp only [e, List.length_nil, List.nil_append, List.length_cons, Nat.zero_add]
  rw [gr1 _ (by omega), cond_true]
  exact ⟨_, rfl, by simp only [List.length_append, List.length_cons, List.length_nil]; omega⟩
theorem enc_L0_len (k m : Nat) (v : Int) (l : List Int) (hl : l.length = 3) : ∃ ys, encode_L0 m (k + 3) v 2 0 l = some ((), (ys, ())) ∧ ys.length = 3 := by
  have i1 : Go.IntKind.wrap .i64 ((0 : Int) + (1 : Int)) = 1 := by decide
  have i2 : Go.IntKind.wrap .i64 ((1 : Int) + (1 : Int)) = 2 := by decide
  have d0 : Go.IntKind.wrap .i64 ((8 : Int) * (0 : Int)) = 0 := by decide
  have d1 : Go.IntKind.wrap .i64 ((8 : Int) * (1 : Int)) = 8 := by decide
  rw [encode_L0, encode_L0, encode_L0]
  simp only [i1, i2, d0, d1, List.length_set, hl]
  exact ⟨_, rfl, by simp only [List.length_set, hl]⟩
theorem encIn (m : Nat) (a e : Int) (ha0 : 0 ≤ a) (ha : a ≤ 127) (he0 : 0 ≤ e) (he : e ≤ 15) (hm : 2001 ≤ m) : ∃ ys, encode_D m (9, a, e, 0, 0, 0, false, false, 0, [], ()) = some ((ys, 0, ()), ()) ∧ ys.length = 3 := by
  have hc : pkCheck_D m (9, a, e, 0, 0, 0, false, false, 0, [], ()) = some (0, ()) := by
    rw [chk_same m 9 a e 0 0 0 0 false false [] (by omega) (by omega) (by omega) (by omega) (by omega) (by omega) (by omega) (by omega) (by omega) (by omega) (by omega) (by omega)]
    have k1 : decide ((127 : Int) < a) = false := dF (by omega)
    have k2 : decide ((15 : Int) < e) = false := dF (by omega)
    unfold rfCheck_D
    simp [show known_D m 9 = some (true, ()) from rfl, show token3_D m 9 = some (true, ()) from rfl, show hasData_D m 9 = some (false, ()) from rfl, bnd_some, k1, k2]
  unfold encode_D
  rw [hc, bnd_some]
  simp only [decide_true, Bool.not_true, cond_false, show shapeOf_D m 9 = some (2, ()) from rfl, bnd_some, show decide ((2 : Int) = 1) = false from rfl, show decide ((2 : Int) = 5) = false from rfl, cond_true, show first_D m 9 = some (105, ()) from rfl]
  unfold encode_J0
  rw [show decide ((2 : Int) = 2) = true from rfl, cond_true]
  have u11 : Go.IntKind.wrap .i64 (Go.IntKind.wrap .i64 ((0 : Int) + (7 : Int)) + (4 : Int)) = 11 := by decide
  simp only [u11]
  generalize Go.bits .or .u32 (Go.bits .or .u32 (0 : Int) (Go.IntKind.wrap .u32 (Go.IntKind.wrap .u32 a * (2 : Int) ^ Min.min (Int.toNat (0 : Int)) (Go.IntKind.bits .u32)))) (Go.IntKind.wrap .u32 (Go.IntKind.wrap .u32 e * (2 : Int) ^ Min.min (Int.toNat (Go.IntKind.wrap .i64 ((0 : Int) + (7 : Int)))) (Go.IntKind.bits .u32))) = V
  obtain ⟨r, q, hj⟩ := join_tot m V (by omega)
  rw [hj, bnd_some]
  have w3 : Go.IntKind.wrap .i64 ((1 : Int) + Go.IntKind.wrap .i64 (Int.tdiv (Go.IntKind.wrap .i64 ((11 : Int) + (5 : Int))) (8 : Int))) = 3 := by decide
  have hmk : makeOb 1 3 3 true = true := rfl
  have hl : List.set (List.replicate (Int.toNat (3 : Int)) (0 : Int)) (Int.toNat (0 : Int)) 105 = [105, 0, 0] := rfl
  have hr : List.replicate (Int.toNat (3 : Int)) (0 : Int) = [0, 0, 0] := rfl
  simp only [w3, hmk, cond_true, hl]
  obtain ⟨k, rfl⟩ : ∃ k, m = k + 3 := ⟨m - 3, by omega⟩
  obtain ⟨ys, h1, h2⟩ := enc_L0_len k (k + 3) r [105, 0, 0] rfl
  refine ⟨ys, ?_, h2⟩
  simp only [hr, List.length_cons, List.length_nil, Nat.zero_add, Nat.reduceAdd, show inB (0 : Int) 3 = true from rfl, show Int.toNat (0 : Int) = 0 from rfl, show Int.toNat (1 : Int) = 1 from rfl, show decide (0 < 3) = true from rfl, show decide ((0 : Int) ≤ 1) = true from rfl, show decide (1 ≤ 3) = true from rfl, Bool.and_self, Bool.and_true, cond_true, List.drop_succ_cons, List.drop_zero]
  rw [show ((2 : Nat) : Int) = 2 from rfl, h1, bnd_some]
/-! ### Send, Cost -/
theorem pkSend_len (m : Nat) (P : Pkt) (n : Nat) (h1 : 1 ≤ n) (h2 : n ≤ 1027) (hm : 60000 ≤ m) (h : ∃ ys, encode_D m P = some ((ys, 0, ()), ()) ∧ ys.length = n) : ∃ zs, pkSend_D m P = some ((zs, 0, ()), ()) ∧ zs.length ≤ wst n := by
  obtain ⟨ys, e1, rfl⟩ := h
  obtain ⟨zs, s1, s2⟩ := lvSend_len m ys h1 h2 hm
  refine ⟨zs, ?_, s2⟩
  unfold pkSend_D
  rw [e1, bnd_some]
  simp only [decide_true, Bool.not_true, cond_false, s1, bnd_some]
  rw [clipT, cond_true, Int.toNat_natCast, List.take_length]
theorem spWorst_eq (m n : Nat) (h : n ≤ 2000) : spWorst_D m (n : Int) = some (((wst n : Nat) : Int), ()) := by
  unfold spWorst_D wst
  rw [wi64 (x := 8 * (n : Int)) (by omega) (by omega), wi64 (x := 8 + 8 * (n : Int)) (by omega) (by omega), wi64 (x := 8 * (n : Int) + 1) (by omega) (by omega), Int.tdiv_eq_ediv_of_nonneg (by omega), wi64 (x := (8 * (n : Int) + 1) / 6) (by omega) (by omega), wi64 (x := 8 + 8 * (n : Int) + (8 * (n : Int) + 1) / 6) (by omega) (by omega), wi64 (by omega) (by omega)]
  have e : ((8 + 8 * n + (8 * n + 1) / 6 + 3 : Nat) : Int) = 8 + 8 * (n : Int) + (8 * (n : Int) + 1) / 6 + 3 := by omega
  rw [e]
theorem wst_le (n : Nat) (h : n ≤ 2000) : wst n ≤ 20000 := by unfold wst; omega
theorem spStep (m f a i : Nat) (s : Int) (xs : List Int) (hi : i < xs.length) (hx : xs.getD i 0 = (a : Int)) (ha : a ≤ 2000) (h0 : 0 ≤ s) (h1 : s ≤ 1000000) (hl : xs.length ≤ 1000) :
    spLast_L0 m (f + 1) s xs (xs.length : Int) (i : Int) = spLast_L0 m f (s + ((wst a + 8 : Nat) : Int)) xs (xs.length : Int) ((i + 1 : Nat) : Int) := by
  have wa := wst_le a ha
  rw [spLast_L0, dT (by omega), cond_true, inT (by omega) (by omega), cond_true, Int.toNat_natCast, hx, spWorst_eq m a ha, bnd_some]
  simp only
  rw [wi64 (x := ((wst a : Nat) : Int) + 8) (by omega) (by omega), wi64 (x := s + (((wst a : Nat) : Int) + 8)) (by omega) (by omega), wi64 (x := (i : Int) + 1) (by omega) (by omega), show ((i : Int) + 1) = ((i + 1 : Nat) : Int) by omega, show (((wst a : Nat) : Int) + 8) = ((wst a + 8 : Nat) : Int) by omega]
theorem spEnd (m f : Nat) (s : Int) (xs : List Int) : spLast_L0 m (f + 1) s xs (xs.length : Int) (xs.length : Int) = some ((s, ()), ()) := by
  rw [spLast_L0, dF (by omega), cond_false]
theorem spLast2 (k m a b : Nat) (ha : a ≤ 2000) (hb : b ≤ 2000) : spLast_L0 m (k + 3) 0 [(a : Int), (b : Int)] 2 0 = some ((((wst a + 8 + (wst b + 8) : Nat) : Int), ()), ()) := by
  have wa := wst_le a ha
  have e1 := spStep m (k + 2) a 0 0 [(a : Int), (b : Int)] (by simp) rfl ha (by omega) (by omega) (by simp)
  have e2 := spStep m (k + 1) b 1 (0 + ((wst a + 8 : Nat) : Int)) [(a : Int), (b : Int)] (by simp) rfl hb (by omega) (by omega) (by simp)
  have e3 := spEnd m k (0 + ((wst a + 8 : Nat) : Int) + ((wst b + 8 : Nat) : Int)) [(a : Int), (b : Int)]
  have h := (e1.trans e2).trans e3
  rw [show (0 + ((wst a + 8 : Nat) : Int) + ((wst b + 8 : Nat) : Int)) = ((wst a + 8 + (wst b + 8) : Nat) : Int) by omega] at h
  exact h
theorem spLast1 (k m a : Nat) (ha : a ≤ 2000) : spLast_L0 m (k + 2) 0 [(a : Int)] 1 0 = some ((((wst a + 8 : Nat) : Int), ()), ()) := by
  have e1 := spStep m (k + 1) a 0 0 [(a : Int)] (by simp) rfl ha (by omega) (by omega) (by simp)
  have e3 := spEnd m k (0 + ((wst a + 8 : Nat) : Int)) [(a : Int)]
  have h := e1.trans e3
  rw [show (0 + ((wst a + 8 : Nat) : Int)) = ((wst a + 8 : Nat) : Int) by omega] at h
  exact h
theorem spCost_eq (m n : Nat) (hn : n ≤ 200) (hm : 60000 ≤ m) (k : Int) (hk : k = 1 ∨ k = 2) : spCost_D m 1 k (n : Int) = some ((((wst 3 + 8 + (wst (n + 3) + 8) + (if k = 1 then 0 else wst 1 + 8) : Nat) : Int), 0, ()), ()) := by
  obtain ⟨q, rfl⟩ : ∃ q, m = q + 3 := ⟨m - 3, by omega⟩
  have l2 := spLast2 q (q + 3) 3 (n + 3) (by omega) (by omega)
  have l1 := spLast1 (q + 1) (q + 3) 1 (by omega)
  have w := wst_le (n + 3) (by omega)
  have w1 := wst_le 1 (by omega)
  have w3 := wst_le 3 (by omega)
  rw [show ((3 : Nat) : Int) = 3 from rfl] at l2
  rw [show ((1 : Nat) : Int) = 1 from rfl] at l1
  unfold spCost_D spCost_J0
  rw [show decide ((2 : Int) < 1) = false from rfl, cond_false]
  have hk3 : decide (k ≤ 3) = true := dT (by omega)
  rw [hk3, cond_true, dT (show (0 : Int) ≤ (n : Int) by omega), cond_true, dT (show (n : Int) ≤ 1024 by omega)]
  simp only [Bool.not_true, cond_false]
  unfold spLast_D
  rw [wi64 (x := (n : Int) + 3) (by omega) (by omega), show ((n : Int) + 3) = ((n + 3 : Nat) : Int) by omega]
  simp only [List.length_cons, List.length_nil, Nat.zero_add, Nat.reduceAdd]
  rw [show ((2 : Nat) : Int) = 2 from rfl, l2, bnd_some, bnd_some]
  rcases hk with rfl | rfl
  · simp only [decide_true, Bool.not_true, cond_false, show decide ((1 : Int) = 0) = false from rfl, if_true, Nat.add_zero]
  · rw [show decide ((2 : Int) = 1) = false from rfl, Bool.not_false, cond_true, show ((1 : Nat) : Int) = 1 from rfl, l1, bnd_some, bnd_some]
    simp only [show decide ((1 : Int) = 0) = false from rfl, cond_false]
    rw [wi64 (by omega) (by omega), if_neg (by omega)]
    rfl
end Go.Proofs.Ytpdbekbobkjfgaa
