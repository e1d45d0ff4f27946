/-
  The statement PacketsBack: the law's plain function is true.
  Conditions: none.
-/
import Derived.Test.YtpdbekbobkjfgaaDoorD3O
namespace Go.Proofs.YtpdbekbobkjfgaaDoor
set_option linter.unusedVariables false
set_option linter.unusedSimpArgs false
set_option maxRecDepth 100000
set_option maxHeartbeats 2000000

theorem back2 (m : Nat) (hm : 10000 ≤ m) (x : Int × Int × Int × Int × Int × List Int × Unit) (p : Nat) (hp : p < 16) (hs : shv p = 2) (w : Nat) (hw : w < 2048)
    (h0 : pkt_D m x = some (((p : Int), ((w % 128 : Nat) : Int), ((w / 128 : Nat) : Int), 0, 0, 0, false, false, 0, [], ()), ())) : backL_D m x = some (true, ()) := by
  have h5 := five_lt w 11
  obtain ⟨f1, f2⟩ := five_sum w 11 hw (w + 2048 * Chk.five w 11) rfl
  have hb2 := rbits2 m p hp (by omega) hs w hw 0 0 0 0 false false []
  have e11 : Chk.bitsN w 11 = Chk.bitsN (w + 2048 * Chk.five w 11) 11 := by rw [← bitsN_mod (w + 2048 * Chk.five w 11) 11, f2]
  rw [e11] at hb2
  have he := encT m p hp hs (w % 128) (w / 128) (by omega) (by omega) (by omega) w (by omega)
  have hv : w + 2048 * Chk.five w 11 = w + 2048 * Chk.five w 11 := rfl
  generalize hvv : w + 2048 * Chk.five w 11 = v at *
  have hall := Chk.two_bytes (v % 256) (v / 256) (by omega)
  rw [show v % 256 + 256 * (v / 256) = v by omega] at hall
  refine back_fin m hm x _ _ _ _ _ _ _ _ _ _ _ (by simp) h0 he (.inr ⟨decO_T m (by omega) p w (v % 256) (v / 256) hp hs hw (by omega) (by omega) (by omega), rfl⟩) ?_
  exact rencode_bits m p hp (by omega) _ _ _ _ _ _ _ _ _ (by omega) v 11 [v % 256, v / 256] (by intro y hy; simp only [List.mem_cons, List.not_mem_nil, or_false] at hy; omega) (by simp) (by simp) (by omega) hb2 f1 hall
theorem back3 (m : Nat) (hm : 10000 ≤ m) (x : Int × Int × Int × Int × Int × List Int × Unit) (p : Nat) (hp : p < 16) (hs : shv p = 3) (w : Nat) (hw : w < 2048)
    (h0 : pkt_D m x = some (((p : Int), 0, 0, (w : Int), 0, 0, false, false, 0, [], ()), ())) : backL_D m x = some (true, ()) := by
  have h5 := five_lt w 11
  obtain ⟨f1, f2⟩ := five_sum w 11 hw (w + 2048 * Chk.five w 11) rfl
  have hb2 := rbits3 m p hp (by omega) hs w hw 0 0 0 0 0 false false []
  have e11 : Chk.bitsN w 11 = Chk.bitsN (w + 2048 * Chk.five w 11) 11 := by rw [← bitsN_mod (w + 2048 * Chk.five w 11) 11, f2]
  rw [e11] at hb2
  have he := encF m p hp hs (by omega) w hw
  generalize hvv : w + 2048 * Chk.five w 11 = v at *
  have hall := Chk.two_bytes (v % 256) (v / 256) (by omega)
  rw [show v % 256 + 256 * (v / 256) = v by omega] at hall
  refine back_fin m hm x _ _ _ _ _ _ _ _ _ _ _ (by simp) h0 he (.inr ⟨decO_F m (by omega) p w (v % 256) (v / 256) hp hs hw (by omega) (by omega) (by omega), rfl⟩) ?_
  exact rencode_bits m p hp (by omega) _ _ _ _ _ _ _ _ _ (by omega) v 11 [v % 256, v / 256] (by intro y hy; simp only [List.mem_cons, List.not_mem_nil, or_false] at hy; omega) (by simp) (by simp) (by omega) hb2 f1 hall
theorem bitI_dec (n : Nat) : bitI (decide (n % 2 = 1)) = ((n % 2 : Nat) : Int) := by
  by_cases h : n % 2 = 1
  · rw [dT h, h]; rfl
  · rw [dF h, show n % 2 = 0 by omega]; rfl
theorem back4 (m : Nat) (hm : 10000 ≤ m) (x : Int × Int × Int × Int × Int × List Int × Unit) (p : Nat) (hp : p < 16) (hs : shv p = 4) (w : Nat) (hw : w < 524288) (hz : w / 65536 % 2 = 0)
    (h0 : pkt_D m x = some (((p : Int), 0, 0, 0, ((w % 128 : Nat) : Int), ((w / 256 % 128 : Nat) : Int), decide (w / 128 % 2 = 1), decide (w / 32768 % 2 = 1), ((w / 131072 : Nat) : Int), [], ()), ())) : backL_D m x = some (true, ()) := by
  have h5 := five_lt w 19
  obtain ⟨f1, f2⟩ := five_sum w 19 hw (w + 524288 * Chk.five w 19) rfl
  have hb4 := rbits4 m p hp (by omega) hs w hw hz 0 0 0 []
  have e19 : Chk.bitsN w 19 = Chk.bitsN (w + 524288 * Chk.five w 19) 19 := by rw [← bitsN_mod (w + 524288 * Chk.five w 19) 19, f2]
  rw [e19] at hb4
  have he := encS m p hp hs (w % 128) (w / 256 % 128) (w / 131072) (decide (w / 128 % 2 = 1)) (decide (w / 32768 % 2 = 1)) (by omega) (by omega) (by omega) (by omega) w (by rw [bitI_dec, bitI_dec]; omega)
  generalize hvv : w + 524288 * Chk.five w 19 = v at *
  have hall := b24 (v % 256) (v / 256 % 256) (v / 65536) (by omega) (by omega)
  rw [show v % 256 + 256 * (v / 256 % 256) + 65536 * (v / 65536) = v by omega] at hall
  refine back_fin m hm x _ _ _ _ _ _ _ _ _ _ _ (by simp) h0 he (.inr ⟨decO_S m (by omega) p w (v % 256) (v / 256 % 256) (v / 65536) hp hs hw hz (by omega) (by omega) (by omega) (by omega), rfl⟩) ?_
  exact rencode_bits m p hp (by omega) _ _ _ _ _ _ _ _ _ (by omega) v 19 [v % 256, v / 256 % 256, v / 65536] (by intro y hy; simp only [List.mem_cons, List.not_mem_nil, or_false] at hy; omega) (by simp) (by simp) (by omega) hb4 f1 hall
theorem u8and : ∀ f : Fin 256, decide (Go.bits .and .u8 ((f.val : Nat) : Int) 1 = 1) = decide (f.val % 2 = 1) ∧ decide (Go.bits .and .u8 ((f.val : Nat) : Int) 2 = 2) = decide (f.val / 2 % 2 = 1) ∧ Int.tmod (Int.fdiv ((f.val : Nat) : Int) ((2 : Int) ^ Min.min (Int.toNat (2 : Int)) (Go.IntKind.bits .u8))) (4 : Int) = ((f.val / 4 % 4 : Nat) : Int) := by decide +kernel
theorem u8and' (f : Nat) (h : f < 256) : decide (Go.bits .and .u8 (f : Int) 1 = 1) = decide (f % 2 = 1) ∧ decide (Go.bits .and .u8 (f : Int) 2 = 2) = decide (f / 2 % 2 = 1) ∧ Int.tmod (Int.fdiv (f : Int) ((2 : Int) ^ Min.min (Int.toNat (2 : Int)) (Go.IntKind.bits .u8))) (4 : Int) = ((f / 4 % 4 : Nat) : Int) := u8and ⟨f, h⟩
theorem tmN (a b : Nat) : Int.tmod (a : Int) (b : Int) = ((a % b : Nat) : Int) := by rw [Int.tmod_eq_emod_of_nonneg (by omega)]; rfl
theorem pkt_0 (m k a b F fl : Nat) (hk : k < 256) (hfl : fl < 256) (l : List Nat) (hn : l.length ≤ 300) (h : k % 11 = 0) : pkt_D m ((k : Int), (a : Int), (b : Int), (F : Int), (fl : Int), nI l, ()) = some ((((1 : Nat) : Int), Int.tmod (a : Int) 128, Int.tmod (b : Int) 16, 0, 0, 0, false, false, 0, [], ()), ()) := by
  have e : Int.tmod (Go.IntKind.wrap .i64 (k : Int)) (↑(List.length [(1 : Int), (2 : Int), (3 : Int), (5 : Int), (6 : Int), (8 : Int), (9 : Int), (10 : Int), (11 : Int), (13 : Int), (14 : Int)]) : Int) = ((k % 11 : Nat) : Int) := tm11 k hk
  unfold pkt_D
  simp only [e, h]
  rfl
theorem pkt_1 (m k a b F fl : Nat) (hk : k < 256) (hfl : fl < 256) (l : List Nat) (hn : l.length ≤ 300) (h : k % 11 = 1) : pkt_D m ((k : Int), (a : Int), (b : Int), (F : Int), (fl : Int), nI l, ()) = some ((((2 : Nat) : Int), 0, 0, 0, 0, 0, false, false, 0, [], ()), ()) := by
  have e : Int.tmod (Go.IntKind.wrap .i64 (k : Int)) (↑(List.length [(1 : Int), (2 : Int), (3 : Int), (5 : Int), (6 : Int), (8 : Int), (9 : Int), (10 : Int), (11 : Int), (13 : Int), (14 : Int)]) : Int) = ((k % 11 : Nat) : Int) := tm11 k hk
  unfold pkt_D
  simp only [e, h]
  rfl
theorem pkt_2 (m k a b F fl : Nat) (hk : k < 256) (hfl : fl < 256) (l : List Nat) (hn : l.length ≤ 300) (h : k % 11 = 2) : pkt_D m ((k : Int), (a : Int), (b : Int), (F : Int), (fl : Int), nI l, ()) = some ((((3 : Nat) : Int), 0, 0, 0, 0, 0, false, false, 0, nI l, ()), ()) := by
  have e : Int.tmod (Go.IntKind.wrap .i64 (k : Int)) (↑(List.length [(1 : Int), (2 : Int), (3 : Int), (5 : Int), (6 : Int), (8 : Int), (9 : Int), (10 : Int), (11 : Int), (13 : Int), (14 : Int)]) : Int) = ((k % 11 : Nat) : Int) := tm11 k hk
  unfold pkt_D
  simp only [e, h]
  have g1 : decide ((1024 : Int) < ((nI l).length : Int)) = false := dF (by rw [nI_len]; omega)
  have g2 : decide ((0 : Int) ≤ ((nI l).length : Int)) = true := dT (by omega)
  have g3 : growOb 1 (0 + (nI l).length) = true := gr1 _ (by rw [nI_len]; omega)
  simp only [g1, g2, Int.toNat_natCast, Nat.le_refl, decide_true, Bool.and_self, List.take_length, cond_true, cond_false, List.nil_append]
  simp only [g3, cond_true]
  rfl
theorem pkt_3 (m k a b F fl : Nat) (hk : k < 256) (hfl : fl < 256) (l : List Nat) (hn : l.length ≤ 300) (h : k % 11 = 3) : pkt_D m ((k : Int), (a : Int), (b : Int), (F : Int), (fl : Int), nI l, ()) = some ((((5 : Nat) : Int), 0, 0, Int.tmod (F : Int) 2048, 0, 0, false, false, 0, [], ()), ()) := by
  have e : Int.tmod (Go.IntKind.wrap .i64 (k : Int)) (↑(List.length [(1 : Int), (2 : Int), (3 : Int), (5 : Int), (6 : Int), (8 : Int), (9 : Int), (10 : Int), (11 : Int), (13 : Int), (14 : Int)]) : Int) = ((k % 11 : Nat) : Int) := tm11 k hk
  unfold pkt_D
  simp only [e, h]
  rfl
theorem pkt_4 (m k a b F fl : Nat) (hk : k < 256) (hfl : fl < 256) (l : List Nat) (hn : l.length ≤ 300) (h : k % 11 = 4) : pkt_D m ((k : Int), (a : Int), (b : Int), (F : Int), (fl : Int), nI l, ()) = some ((((6 : Nat) : Int), 0, 0, 0, 0, 0, false, false, 0, [], ()), ()) := by
  have e : Int.tmod (Go.IntKind.wrap .i64 (k : Int)) (↑(List.length [(1 : Int), (2 : Int), (3 : Int), (5 : Int), (6 : Int), (8 : Int), (9 : Int), (10 : Int), (11 : Int), (13 : Int), (14 : Int)]) : Int) = ((k % 11 : Nat) : Int) := tm11 k hk
  unfold pkt_D
  simp only [e, h]
  rfl
theorem pkt_5 (m k a b F fl : Nat) (hk : k < 256) (hfl : fl < 256) (l : List Nat) (hn : l.length ≤ 300) (h : k % 11 = 5) : pkt_D m ((k : Int), (a : Int), (b : Int), (F : Int), (fl : Int), nI l, ()) = some ((((8 : Nat) : Int), 0, 0, 0, Int.tmod (a : Int) 128, Int.tmod (b : Int) 128, decide (Go.bits .and .u8 (fl : Int) 1 = 1), decide (Go.bits .and .u8 (fl : Int) 2 = 2), Int.tmod (Int.fdiv (fl : Int) ((2 : Int) ^ Min.min (Int.toNat (2 : Int)) (Go.IntKind.bits .u8))) (4 : Int), [], ()), ()) := by
  have e : Int.tmod (Go.IntKind.wrap .i64 (k : Int)) (↑(List.length [(1 : Int), (2 : Int), (3 : Int), (5 : Int), (6 : Int), (8 : Int), (9 : Int), (10 : Int), (11 : Int), (13 : Int), (14 : Int)]) : Int) = ((k % 11 : Nat) : Int) := tm11 k hk
  unfold pkt_D
  simp only [e, h]
  rfl
theorem pkt_6 (m k a b F fl : Nat) (hk : k < 256) (hfl : fl < 256) (l : List Nat) (hn : l.length ≤ 300) (h : k % 11 = 6) : pkt_D m ((k : Int), (a : Int), (b : Int), (F : Int), (fl : Int), nI l, ()) = some ((((9 : Nat) : Int), Int.tmod (a : Int) 128, Int.tmod (b : Int) 16, 0, 0, 0, false, false, 0, [], ()), ()) := by
  have e : Int.tmod (Go.IntKind.wrap .i64 (k : Int)) (↑(List.length [(1 : Int), (2 : Int), (3 : Int), (5 : Int), (6 : Int), (8 : Int), (9 : Int), (10 : Int), (11 : Int), (13 : Int), (14 : Int)]) : Int) = ((k % 11 : Nat) : Int) := tm11 k hk
  unfold pkt_D
  simp only [e, h]
  rfl
theorem pkt_7 (m k a b F fl : Nat) (hk : k < 256) (hfl : fl < 256) (l : List Nat) (hn : l.length ≤ 300) (h : k % 11 = 7) : pkt_D m ((k : Int), (a : Int), (b : Int), (F : Int), (fl : Int), nI l, ()) = some ((((10 : Nat) : Int), 0, 0, 0, 0, 0, false, false, 0, [], ()), ()) := by
  have e : Int.tmod (Go.IntKind.wrap .i64 (k : Int)) (↑(List.length [(1 : Int), (2 : Int), (3 : Int), (5 : Int), (6 : Int), (8 : Int), (9 : Int), (10 : Int), (11 : Int), (13 : Int), (14 : Int)]) : Int) = ((k % 11 : Nat) : Int) := tm11 k hk
  unfold pkt_D
  simp only [e, h]
  rfl
theorem pkt_8 (m k a b F fl : Nat) (hk : k < 256) (hfl : fl < 256) (l : List Nat) (hn : l.length ≤ 300) (h : k % 11 = 8) : pkt_D m ((k : Int), (a : Int), (b : Int), (F : Int), (fl : Int), nI l, ()) = some ((((11 : Nat) : Int), 0, 0, 0, 0, 0, false, false, 0, nI l, ()), ()) := by
  have e : Int.tmod (Go.IntKind.wrap .i64 (k : Int)) (↑(List.length [(1 : Int), (2 : Int), (3 : Int), (5 : Int), (6 : Int), (8 : Int), (9 : Int), (10 : Int), (11 : Int), (13 : Int), (14 : Int)]) : Int) = ((k % 11 : Nat) : Int) := tm11 k hk
  unfold pkt_D
  simp only [e, h]
  have g1 : decide ((1024 : Int) < ((nI l).length : Int)) = false := dF (by rw [nI_len]; omega)
  have g2 : decide ((0 : Int) ≤ ((nI l).length : Int)) = true := dT (by omega)
  have g3 : growOb 1 (0 + (nI l).length) = true := gr1 _ (by rw [nI_len]; omega)
  simp only [g1, g2, Int.toNat_natCast, Nat.le_refl, decide_true, Bool.and_self, List.take_length, cond_true, cond_false, List.nil_append]
  simp only [g3, cond_true]
  rfl
theorem pkt_9 (m k a b F fl : Nat) (hk : k < 256) (hfl : fl < 256) (l : List Nat) (hn : l.length ≤ 300) (h : k % 11 = 9) : pkt_D m ((k : Int), (a : Int), (b : Int), (F : Int), (fl : Int), nI l, ()) = some ((((13 : Nat) : Int), Int.tmod (a : Int) 128, Int.tmod (b : Int) 16, 0, 0, 0, false, false, 0, [], ()), ()) := by
  have e : Int.tmod (Go.IntKind.wrap .i64 (k : Int)) (↑(List.length [(1 : Int), (2 : Int), (3 : Int), (5 : Int), (6 : Int), (8 : Int), (9 : Int), (10 : Int), (11 : Int), (13 : Int), (14 : Int)]) : Int) = ((k % 11 : Nat) : Int) := tm11 k hk
  unfold pkt_D
  simp only [e, h]
  rfl
theorem pkt_10 (m k a b F fl : Nat) (hk : k < 256) (hfl : fl < 256) (l : List Nat) (hn : l.length ≤ 300) (h : k % 11 = 10) : pkt_D m ((k : Int), (a : Int), (b : Int), (F : Int), (fl : Int), nI l, ()) = some ((((14 : Nat) : Int), 0, 0, 0, 0, 0, false, false, 0, [], ()), ()) := by
  have e : Int.tmod (Go.IntKind.wrap .i64 (k : Int)) (↑(List.length [(1 : Int), (2 : Int), (3 : Int), (5 : Int), (6 : Int), (8 : Int), (9 : Int), (10 : Int), (11 : Int), (13 : Int), (14 : Int)]) : Int) = ((k % 11 : Nat) : Int) := tm11 k hk
  unfold pkt_D
  simp only [e, h]
  rfl
theorem z65 (t v : Nat) (ht : t < 65536) : (t + 131072 * v) / 65536 % 2 = 0 := by omega
theorem backL_true (m : Nat) (hm : 10000 ≤ m) (k a b F fl : Nat) (hk : k < 256) (hfl : fl < 256) (l : List Nat) (hl : ∀ x ∈ l, x < 256) : backL_D m ((k : Int), (a : Int), (b : Int), (F : Int), (fl : Int), nI l, ()) = some (true, ()) := by
  by_cases hlen : 300 < l.length
  · unfold backL_D
    rw [nI_len, dT (by omega), cond_true]
  have hn : l.length ≤ 300 := by omega
  obtain ⟨u1, u2, u3⟩ := u8and' fl hfl
  have ha := tmN a 128
  have hb := tmN b 128
  have hb16 := tmN b 16
  have hF := tmN F 2048
  have hj : k % 11 = 0 ∨ k % 11 = 1 ∨ k % 11 = 2 ∨ k % 11 = 3 ∨ k % 11 = 4 ∨ k % 11 = 5 ∨ k % 11 = 6 ∨ k % 11 = 7 ∨ k % 11 = 8 ∨ k % 11 = 9 ∨ k % 11 = 10 := by omega
  rcases hj with h | h | h | h | h | h | h | h | h | h | h
  · have h0 := pkt_0 m k a b F fl hk hfl l hn h
    refine back2 m hm _ 1 (by omega) rfl (a % 128 + 128 * (b % 16)) (by omega) ?_
    rw [show (a % 128 + 128 * (b % 16)) % 128 = a % 128 by omega, show (a % 128 + 128 * (b % 16)) / 128 = b % 16 by omega, ← ha, ← hb16]
    exact h0
  · have h0 := pkt_1 m k a b F fl hk hfl l hn h
    exact back1 m hm _ 2 (by omega) rfl h0
  · have h0 := pkt_2 m k a b F fl hk hfl l hn h
    exact back5 m hm _ 3 (by omega) rfl l hl hn h0
  · have h0 := pkt_3 m k a b F fl hk hfl l hn h
    refine back3 m hm _ 5 (by omega) rfl (F % 2048) (by omega) ?_
    rw [← hF]
    exact h0
  · have h0 := pkt_4 m k a b F fl hk hfl l hn h
    exact back1 m hm _ 6 (by omega) rfl h0
  · have h0 := pkt_5 m k a b F fl hk hfl l hn h
    rw [u1, u2, u3] at h0
    refine back4 m hm _ 8 (by omega) rfl (a % 128 + 128 * (fl % 2) + 256 * (b % 128) + 32768 * (fl / 2 % 2) + 131072 * (fl / 4 % 4)) (by omega) (z65 _ _ (by omega)) ?_
    rw [show (a % 128 + 128 * (fl % 2) + 256 * (b % 128) + 32768 * (fl / 2 % 2) + 131072 * (fl / 4 % 4)) % 128 = a % 128 by omega, show (a % 128 + 128 * (fl % 2) + 256 * (b % 128) + 32768 * (fl / 2 % 2) + 131072 * (fl / 4 % 4)) / 256 % 128 = b % 128 by omega, show (a % 128 + 128 * (fl % 2) + 256 * (b % 128) + 32768 * (fl / 2 % 2) + 131072 * (fl / 4 % 4)) / 128 % 2 = fl % 2 by omega, show (a % 128 + 128 * (fl % 2) + 256 * (b % 128) + 32768 * (fl / 2 % 2) + 131072 * (fl / 4 % 4)) / 32768 % 2 = fl / 2 % 2 by omega, show (a % 128 + 128 * (fl % 2) + 256 * (b % 128) + 32768 * (fl / 2 % 2) + 131072 * (fl / 4 % 4)) / 131072 = fl / 4 % 4 by omega, ← ha, ← hb]
    exact h0
  · have h0 := pkt_6 m k a b F fl hk hfl l hn h
    refine back2 m hm _ 9 (by omega) rfl (a % 128 + 128 * (b % 16)) (by omega) ?_
    rw [show (a % 128 + 128 * (b % 16)) % 128 = a % 128 by omega, show (a % 128 + 128 * (b % 16)) / 128 = b % 16 by omega, ← ha, ← hb16]
    exact h0
  · have h0 := pkt_7 m k a b F fl hk hfl l hn h
    exact back1 m hm _ 10 (by omega) rfl h0
  · have h0 := pkt_8 m k a b F fl hk hfl l hn h
    exact back5 m hm _ 11 (by omega) rfl l hl hn h0
  · have h0 := pkt_9 m k a b F fl hk hfl l hn h
    refine back2 m hm _ 13 (by omega) rfl (a % 128 + 128 * (b % 16)) (by omega) ?_
    rw [show (a % 128 + 128 * (b % 16)) % 128 = a % 128 by omega, show (a % 128 + 128 * (b % 16)) / 128 = b % 16 by omega, ← ha, ← hb16]
    exact h0
  · have h0 := pkt_10 m k a b F fl hk hfl l hn h
    exact back1 m hm _ 14 (by omega) rfl h0
end Go.Proofs.YtpdbekbobkjfgaaDoor

