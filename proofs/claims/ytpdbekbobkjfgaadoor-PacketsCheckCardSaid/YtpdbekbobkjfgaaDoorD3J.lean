/-
  The statement PacketsBack: Encode's number and its check.
  Conditions: none.
-/
import Derived.Test.YtpdbekbobkjfgaaDoorD3E
import Derived.Test.YtpdbekbobkjfgaaDoorD3T
namespace Go.Proofs.YtpdbekbobkjfgaaDoor
set_option linter.unusedVariables false
set_option linter.unusedSimpArgs false
set_option maxRecDepth 100000
set_option maxHeartbeats 2000000

theorem join_nI (m w n : Nat) (hm : 100 ≤ m) (hn : n ≤ 24) (hw : w < 2 ^ n) : join_D m (w : Int) (n : Int) = some ((((w + 2 ^ n * Chk.five w n : Nat) : Int), 0, ()), ()) := by
  have h24 : (2 : Nat) ^ n ≤ 2 ^ 24 := Nat.pow_le_pow_right (by omega) hn
  have h5 := five_lt w n
  have hb : (2 : Nat) ^ 24 = 16777216 := by decide
  have hmul : 2 ^ n * Chk.five w n ≤ 16777216 * 31 := Nat.le_trans (Nat.mul_le_mul_left _ (by omega)) (Nat.mul_le_mul_right _ (by omega))
  have hpw : (2 : Int) ^ Min.min (Int.toNat (n : Int)) (Go.IntKind.bits Go.IntKind.u32) = ((2 ^ n : Nat) : Int) := pw n 32 (by omega)
  have hfd : Int.fdiv (w : Int) ((2 ^ n : Nat) : Int) = 0 := by rw [fd, Nat.div_eq_of_lt hw]; rfl
  unfold join_D fits_D fits_J0
  rw [dT (show (0 : Int) ≤ (n : Int) by omega), cond_true, dT (show (n : Int) ≤ 24 by omega), cond_true, cond_true, hpw, hfd, bnd_some]
  simp only [decide_true, Bool.not_true, cond_false, cond_true]
  rw [five_eq m w n (by omega) (by omega) (by omega), bnd_some]
  simp only
  rw [w32 (x := ((Chk.five w n : Nat) : Int)) (by omega) (by omega)]
  have hc : ((Chk.five w n : Nat) : Int) * ((2 ^ n : Nat) : Int) = ((2 ^ n * Chk.five w n : Nat) : Int) := by rw [Nat.mul_comm]; exact (Int.natCast_mul _ _).symm
  rw [hc, w32 (by omega) (by omega), orp n w (2 ^ n * Chk.five w n) hw (Nat.mul_mod_right _ _) (by omega)]
theorem enc_L0_2 (k m v : Nat) (f : Int) (hv : v < 65536) : encode_L0 m (k + 3) (v : Int) 2 0 [f, 0, 0] = some ((), ([f, ((v % 256 : Nat) : Int), ((v / 256 : Nat) : Int)], ())) := by
  have i1 : Go.IntKind.wrap .i64 ((0 : Int) + (1 : Int)) = 1 := by decide
  have i2 : Go.IntKind.wrap .i64 ((1 : Int) + (1 : Int)) = 2 := by decide
  have d0 : Go.IntKind.wrap .i64 ((8 : Int) * (0 : Int)) = 0 := by decide
  have d1 : Go.IntKind.wrap .i64 ((8 : Int) * (1 : Int)) = 8 := by decide
  have f1 : Int.fdiv (v : Int) 1 = (v : Int) := by rw [show (1 : Int) = ((1 : Nat) : Int) from rfl, fd, Nat.div_one]
  have f2 : Int.fdiv (v : Int) 256 = ((v / 256 : Nat) : Int) := fd v 256
  have g1 : Go.IntKind.wrap .u8 (v : Int) = ((v % 256 : Nat) : Int) := by rw [w8m]; omega
  have g2 : Go.IntKind.wrap .u8 ((v / 256 : Nat) : Int) = ((v / 256 : Nat) : Int) := w8 (by omega) (by omega)
  rw [encode_L0, encode_L0, encode_L0]
  simp only [i1, i2, d0, d1, pp0, pp8, f1, f2, g1, g2]
  rfl
theorem encT (m p : Nat) (hp : p < 16) (hs : shv p = 2) (a e : Nat) (ha : a < 128) (he : e < 16) (hm : 2000 < m) (w : Nat) (hw : w = a + 128 * e) :
    encode_D m ((p : Int), (a : Int), (e : Int), 0, 0, 0, false, false, 0, [], ()) = some ((nI [p + 16 * (15 - p), (w + 2048 * Chk.five w 11) % 256, (w + 2048 * Chk.five w 11) / 256], 0, ()), ()) := by
  unfold encode_D
  rw [pkOk0 m p hp (by omega) (a : Int) (e : Int) 0 0 0 0 false false [] (.inl hs) (by omega) (by omega) (by omega) (by omega) (.inr rfl) (by omega) (by omega) (.inr ⟨rfl, rfl, rfl, rfl, rfl⟩) (by omega) (by omega) (by omega) (by omega) (by omega) (by omega) (.inr rfl) (by simp), bnd_some]
  simp only [decide_true, Bool.not_true, cond_false, shape_eq m p hp, hs, bnd_some, first_eq m p hp, show decide (((2 : Nat) : Int) = 1) = false from rfl, show decide (((2 : Nat) : Int) = 5) = false from rfl]
  unfold encode_J0
  rw [show decide (((2 : Nat) : Int) = 2) = true from rfl, cond_true]
  have u11 : Go.IntKind.wrap .i64 ((7 : Int) + (4 : Int)) = 11 := by decide
  simp only [u11, pp0, s7, pp7]
  rw [tok_num (show (0 : Int) ≤ (a : Int) by omega) (by omega) (by omega) (by omega), show ((a : Int) + (e : Int) * 128) = (w : Int) by omega]
  have h5 := five_lt w 11
  have hj := join_nI m w 11 (by omega) (by omega) (by omega)
  rw [show ((11 : Nat) : Int) = 11 from rfl, show (2 : Nat) ^ 11 = 2048 from rfl] at hj
  rw [hj, bnd_some]
  have w3 : Go.IntKind.wrap .i64 ((1 : Int) + Go.IntKind.wrap .i64 (Int.tdiv (Go.IntKind.wrap .i64 ((11 : Int) + (5 : Int))) (8 : Int))) = 3 := by decide
  have hmk : makeOb 1 3 3 true = true := rfl
  have hr : List.replicate (Int.toNat (3 : Int)) (0 : Int) = [0, 0, 0] := rfl
  have hl : List.set [(0 : Int), 0, 0] (Int.toNat (0 : Int)) ((p + 16 * (15 - p) : Nat) : Int) = [((p + 16 * (15 - p) : Nat) : Int), 0, 0] := rfl
  simp only [w3, hmk, cond_true, hr, hl]
  obtain ⟨k, rfl⟩ : ∃ k, m = k + 3 := ⟨m - 3, by omega⟩
  simp only [List.length_cons, List.length_nil, Nat.zero_add, Nat.reduceAdd, show inB (0 : Int) 3 = true from rfl, show Int.toNat (0 : Int) = 0 from rfl, show Int.toNat (1 : Int) = 1 from rfl, show decide (0 < 3) = true from rfl, show decide ((0 : Int) ≤ 1) = true from rfl, show decide (1 ≤ 3) = true from rfl, Bool.and_self, Bool.and_true, cond_true, List.drop_succ_cons, List.drop_zero]
  rw [show ((2 : Nat) : Int) = 2 from rfl, enc_L0_2 k (k + 3) (w + 2048 * Chk.five w 11) _ (by omega), bnd_some]
  rfl
theorem encF (m p : Nat) (hp : p < 16) (hs : shv p = 3) (hm : 2000 < m) (w : Nat) (hw : w < 2048) :
    encode_D m ((p : Int), 0, 0, (w : Int), 0, 0, false, false, 0, [], ()) = some ((nI [p + 16 * (15 - p), (w + 2048 * Chk.five w 11) % 256, (w + 2048 * Chk.five w 11) / 256], 0, ()), ()) := by
  unfold encode_D
  rw [pkOk0 m p hp (by omega) 0 0 (w : Int) 0 0 0 false false [] (.inr ⟨rfl, rfl⟩) (by omega) (by omega) (by omega) (by omega) (.inl hs) (by omega) (by omega) (.inr ⟨rfl, rfl, rfl, rfl, rfl⟩) (by omega) (by omega) (by omega) (by omega) (by omega) (by omega) (.inr rfl) (by simp), bnd_some]
  simp only [decide_true, Bool.not_true, cond_false, shape_eq m p hp, hs, bnd_some, first_eq m p hp, show decide (((3 : Nat) : Int) = 1) = false from rfl, show decide (((3 : Nat) : Int) = 5) = false from rfl]
  unfold encode_J0
  rw [show decide (((3 : Nat) : Int) = 2) = false from rfl, cond_false, show decide (((3 : Nat) : Int) = 3) = true from rfl, cond_true]
  have u11 : Go.IntKind.wrap .i64 ((0 : Int) + (11 : Int)) = 11 := by decide
  simp only [u11, pp0, s7, pp7]
  rw [w32 (x := (w : Int)) (by omega) (by omega), w32 (x := (w : Int) * 1) (by omega) (by omega), or_parts 0 (y := 0) (x := (w : Int) * 1) (by omega) (by omega) (by omega) (by omega) (by omega) (by omega), show ((0 : Int) + (w : Int) * 1) = (w : Int) by omega]
  have h5 := five_lt w 11
  have hj := join_nI m w 11 (by omega) (by omega) (by omega)
  rw [show ((11 : Nat) : Int) = 11 from rfl, show (2 : Nat) ^ 11 = 2048 from rfl] at hj
  rw [hj, bnd_some]
  have w3 : Go.IntKind.wrap .i64 ((1 : Int) + Go.IntKind.wrap .i64 (Int.tdiv (Go.IntKind.wrap .i64 ((11 : Int) + (5 : Int))) (8 : Int))) = 3 := by decide
  have hmk : makeOb 1 3 3 true = true := rfl
  have hr : List.replicate (Int.toNat (3 : Int)) (0 : Int) = [0, 0, 0] := rfl
  have hl : List.set [(0 : Int), 0, 0] (Int.toNat (0 : Int)) ((p + 16 * (15 - p) : Nat) : Int) = [((p + 16 * (15 - p) : Nat) : Int), 0, 0] := rfl
  simp only [w3, hmk, cond_true, hr, hl]
  obtain ⟨k, rfl⟩ : ∃ k, m = k + 3 := ⟨m - 3, by omega⟩
  simp only [List.length_cons, List.length_nil, Nat.zero_add, Nat.reduceAdd, show inB (0 : Int) 3 = true from rfl, show Int.toNat (0 : Int) = 0 from rfl, show Int.toNat (1 : Int) = 1 from rfl, show decide (0 < 3) = true from rfl, show decide ((0 : Int) ≤ 1) = true from rfl, show decide (1 ≤ 3) = true from rfl, Bool.and_self, Bool.and_true, cond_true, List.drop_succ_cons, List.drop_zero]
  rw [show ((2 : Nat) : Int) = 2 from rfl, enc_L0_2 k (k + 3) (w + 2048 * Chk.five w 11) _ (by omega), bnd_some]
  rfl
end Go.Proofs.YtpdbekbobkjfgaaDoor

