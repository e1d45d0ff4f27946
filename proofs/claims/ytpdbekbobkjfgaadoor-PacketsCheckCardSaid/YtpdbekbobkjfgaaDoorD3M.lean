/-
  The statement PacketsBack: Encode of splits.
  Conditions: none.
-/
import Derived.Test.YtpdbekbobkjfgaaDoorD3J
namespace Go.Proofs.YtpdbekbobkjfgaaDoor
set_option linter.unusedVariables false
set_option linter.unusedSimpArgs false
set_option maxRecDepth 100000
set_option maxHeartbeats 2000000

theorem enc_L0_3 (k m v : Nat) (f : Int) (hv : v < 16777216) : encode_L0 m (k + 4) (v : Int) 3 0 [f, 0, 0, 0] = some ((), ([f, ((v % 256 : Nat) : Int), ((v / 256 % 256 : Nat) : Int), ((v / 65536 : Nat) : Int)], ())) := by
  have i1 : Go.IntKind.wrap .i64 ((0 : Int) + (1 : Int)) = 1 := by decide
  have i2 : Go.IntKind.wrap .i64 ((1 : Int) + (1 : Int)) = 2 := by decide
  have i3 : Go.IntKind.wrap .i64 ((2 : Int) + (1 : Int)) = 3 := by decide
  have d0 : Go.IntKind.wrap .i64 ((8 : Int) * (0 : Int)) = 0 := by decide
  have d1 : Go.IntKind.wrap .i64 ((8 : Int) * (1 : Int)) = 8 := by decide
  have d2 : Go.IntKind.wrap .i64 ((8 : Int) * (2 : Int)) = 16 := by decide
  have f1 : Int.fdiv (v : Int) 1 = (v : Int) := by rw [show (1 : Int) = ((1 : Nat) : Int) from rfl, fd, Nat.div_one]
  have f2 : Int.fdiv (v : Int) 256 = ((v / 256 : Nat) : Int) := fd v 256
  have f3 : Int.fdiv (v : Int) 65536 = ((v / 65536 : Nat) : Int) := fd v 65536
  have g1 : Go.IntKind.wrap .u8 (v : Int) = ((v % 256 : Nat) : Int) := by rw [w8m]; omega
  have g2 : Go.IntKind.wrap .u8 ((v / 256 : Nat) : Int) = ((v / 256 % 256 : Nat) : Int) := by rw [w8m]; omega
  have g3 : Go.IntKind.wrap .u8 ((v / 65536 : Nat) : Int) = ((v / 65536 : Nat) : Int) := w8 (by omega) (by omega)
  rw [encode_L0, encode_L0, encode_L0, encode_L0]
  simp only [i1, i2, i3, d0, d1, d2, pp0, pp8, pp16, f1, f2, f3, g1, g2, g3]
  rfl
theorem encS (m p : Nat) (hp : p < 16) (hs : shv p = 4) (h q k : Nat) (c l : Bool) (hh : h < 128) (hq : q < 128) (hk : k < 4) (hm : 2000 < m) (w : Nat) (hw : (w : Int) = (h : Int) + bitI c * 128 + (q : Int) * 256 + bitI l * 32768 + (k : Int) * 131072) :
    encode_D m ((p : Int), 0, 0, 0, (h : Int), (q : Int), c, l, (k : Int), [], ()) = some ((nI [p + 16 * (15 - p), (w + 524288 * Chk.five w 19) % 256, (w + 524288 * Chk.five w 19) / 256 % 256, (w + 524288 * Chk.five w 19) / 65536], 0, ()), ()) := by
  unfold encode_D
  rw [pkOk0 m p hp (by omega) 0 0 0 (h : Int) (q : Int) (k : Int) c l [] (.inr ⟨rfl, rfl⟩) (by omega) (by omega) (by omega) (by omega) (.inr rfl) (by omega) (by omega) (.inl hs) (by omega) (by omega) (by omega) (by omega) (by omega) (by omega) (.inr rfl) (by simp), bnd_some]
  simp only [decide_true, Bool.not_true, cond_false, shape_eq m p hp, hs, bnd_some, first_eq m p hp, show decide (((4 : Nat) : Int) = 1) = false from rfl, show decide (((4 : Nat) : Int) = 5) = false from rfl]
  unfold encode_J0
  rw [show decide (((4 : Nat) : Int) = 2) = false from rfl, cond_false, show decide (((4 : Nat) : Int) = 3) = false from rfl, cond_false, show decide (((4 : Nat) : Int) = 4) = true from rfl, cond_true]
  have u19 : Go.IntKind.wrap .i64 ((17 : Int) + (2 : Int)) = 19 := by decide
  simp only [one3_eq, bnd_some, pp0, s7, s8, s15, s16, s17, pp7, pp8, pp15, pp16, pp17, u19]
  have c0 := bitI_lo c
  have c1 := bitI_hi c
  have l0 := bitI_lo l
  have l1 := bitI_hi l
  rw [split_num (show (0 : Int) ≤ (h : Int) by omega) (by omega) c0 c1 (show (0 : Int) ≤ (q : Int) by omega) (by omega) l0 l1 (show (0 : Int) ≤ (k : Int) by omega) (by omega), ← hw]
  have h5 := five_lt w 19
  have hj := join_nI m w 19 (by omega) (by omega) (by omega)
  rw [show ((19 : Nat) : Int) = 19 from rfl, show (2 : Nat) ^ 19 = 524288 from rfl] at hj
  rw [hj, bnd_some]
  have w3 : Go.IntKind.wrap .i64 ((1 : Int) + Go.IntKind.wrap .i64 (Int.tdiv (Go.IntKind.wrap .i64 ((19 : Int) + (5 : Int))) (8 : Int))) = 4 := by decide
  have hmk : makeOb 1 4 4 true = true := rfl
  have hr : List.replicate (Int.toNat (4 : Int)) (0 : Int) = [0, 0, 0, 0] := rfl
  have hl : List.set [(0 : Int), 0, 0, 0] (Int.toNat (0 : Int)) ((p + 16 * (15 - p) : Nat) : Int) = [((p + 16 * (15 - p) : Nat) : Int), 0, 0, 0] := rfl
  simp only [w3, hmk, cond_true, hr, hl]
  obtain ⟨j, rfl⟩ : ∃ j, m = j + 4 := ⟨m - 4, by omega⟩
  simp only [List.length_cons, List.length_nil, Nat.zero_add, Nat.reduceAdd, show inB (0 : Int) 4 = true from rfl, show Int.toNat (0 : Int) = 0 from rfl, show Int.toNat (1 : Int) = 1 from rfl, show decide (0 < 4) = true from rfl, show decide ((0 : Int) ≤ 1) = true from rfl, show decide (1 ≤ 4) = true from rfl, Bool.and_self, Bool.and_true, cond_true, List.drop_succ_cons, List.drop_zero]
  rw [show ((3 : Nat) : Int) = 3 from rfl, enc_L0_3 j (j + 4) (w + 524288 * Chk.five w 19) _ (by omega), bnd_some]
  rfl
end Go.Proofs.YtpdbekbobkjfgaaDoor

