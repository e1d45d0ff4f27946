/-
  The statement PacketsBack: the law's plain function is true.
  Conditions: none.
-/
import Derived.Test.YtpdbekbobkjfgaaDoorD3O
namespace Go.Proofs.YtpdbekbobkjfgaaDoor
set_option linter.unusedVariables false
set_option linter.unusedSimpArgs false
set_option maxRecDepth 100000
set_option maxHeartbeats 2000000

theorem u8and : ∀ f : Fin 256, decide (Go.bits .and .u8 ((f.val : Nat) : Int) 1 = 1) = decide (f.val % 2 = 1) ∧ decide (Go.bits .and .u8 ((f.val : Nat) : Int) 2 = 2) = decide (f.val / 2 % 2 = 1) ∧ Int.tmod (Int.fdiv ((f.val : Nat) : Int) ((2 : Int) ^ Min.min (Int.toNat (2 : Int)) (Go.IntKind.bits .u8))) (4 : Int) = ((f.val / 4 % 4 : Nat) : Int) := by decide +kernel
theorem u8and' (f : Nat) (h : f < 256) : decide (Go.bits .and .u8 (f : Int) 1 = 1) = decide (f % 2 = 1) ∧ decide (Go.bits .and .u8 (f : Int) 2 = 2) = decide (f / 2 % 2 = 1) ∧ Int.tmod (Int.fdiv (f : Int) ((2 : Int) ^ Min.min (Int.toNat (2 : Int)) (Go.IntKind.bits .u8))) (4 : Int) = ((f / 4 % 4 : Nat) : Int) := u8and ⟨f, h⟩
theorem tmN (a b : Nat) : Int.tmod (a : Int) (b : Int) = ((a % b : Nat) : Int) := by rw [Int.tmod_eq_emod_of_nonneg (by omega)]; rfl
theorem pkt_0 (m k a b F fl : Nat) (hk : k < 256) (hfl : fl < 256) (l : List Nat) (hn : l.length ≤ 300) (h : k % 11 = 0) : pkt_D m ((k : Int), (a : Int), (b : Int), (F : Int), (fl : Int), nI l, ()) = some ((((1 : Nat) : Int), Int.tmod (a : Int) 128, Int.tmod (b : Int) 16, 0, 0, 0, false, false, 0, [], ()), ()) := by
  have e : Int.tmod (Go.IntKind.wrap .i64 (k : Int)) (↑(List.length [(1 : Int), (2 : Int), (3 : Int), (5 : Int), (6 : Int), (8 : Int), (9 : Int), (10 : Int), (11 : Int), (13 : Int), (14 : Int)]) : Int) = ((k % 11 : Nat) : Int) := tm11 k hk
  unfold pkt_D
  simp only [e, h]
  rfl
theorem pkt_1 (m k a b F fl : Nat) (hk : k < 256) (hfl : fl < 256) (l : List Nat) (hn : l.length ≤ 300) (h : k % 11 = 1) : pkt_D m ((k : Int), (a : Int), (b : Int), (F : Int), (fl : Int), nI l, ()) = some ((((2 : Nat) : Int), 0, 0, 0, 0, 0, false, false, 0, [], ()), ()) := by
  have e : Int.tmod (Go.IntKind.wrap .i64 (k : Int)) (↑(List.length [(1 : Int), (2 : Int), (3 : Int), (5 : Int), (6 : Int), (8 : Int), (9 : Int), (10 : Int), (11 : Int), (13 : Int), (14 : Int)]) : Int) = ((k % 11 : Nat) : Int) := tm11 k hk
  unfold pkt_D
  simp only [e, h]
  rfl
theorem pkt_2 (m k a b F fl : Nat) (hk : k < 256) (hfl : fl < 256) (l : List Nat) (hn : l.length ≤ 300) (h : k % 11 = 2) : pkt_D m ((k : Int), (a : Int), (b : Int), (F : Int), (fl : Int), nI l, ()) = some ((((3 : Nat) : Int), 0, 0, 0, 0, 0, false, false, 0, nI l, ()), ()) := by
  have e : Int.tmod (Go.IntKind.wrap .i64 (k : Int)) (↑(List.length [(1 : Int), (2 : Int), (3 : Int), (5 : Int), (6 : Int), (8 : Int), (9 : Int), (10 : Int), (11 : Int), (13 : Int), (14 : Int)]) : Int) = ((k % 11 : Nat) : Int) := tm11 k hk
  unfold pkt_D
  simp only [e, h]
  have g1 : decide ((1024 : Int) < ((nI l).length : Int)) = false := dF (by rw [nI_len]; omega)
  have g2 : decide ((0 : Int) ≤ ((nI l).length : Int)) = true := dT (by omega)
  have g3 : growOb 1 (0 + (nI l).length) = true := gr1 _ (by rw [nI_len]; omega)
  simp only [g1, g2, Int.toNat_natCast, Nat.le_refl, decide_true, Bool.and_self, List.take_length, cond_true, cond_false, List.nil_append]
  simp only [g3, cond_true]
  rfl
theorem pkt_3 (m k a b F fl : Nat) (hk : k < 256) (hfl : fl < 256) (l : List Nat) (hn : l.length ≤ 300) (h : k % 11 = 3) : pkt_D m ((k : Int), (a : Int), (b : Int), (F : Int), (fl : Int), nI l, ()) = some ((((5 : Nat) : Int), 0, 0, Int.tmod (F : Int) 2048, 0, 0, false, false, 0, [], ()), ()) := by
  have e : Int.tmod (Go.IntKind.wrap .i64 (k : Int)) (↑(List.length [(1 : Int), (2 : Int), (3 : Int), (5 : Int), (6 : Int), (8 : Int), (9 : Int), (10 : Int), (11 : Int), (13 : Int), (14 : Int)]) : Int) = ((k % 11 : Nat) : Int) := tm11 k hk
  unfold pkt_D
  simp only [e, h]
  rfl
theorem pkt_4 (m k a b F fl : Nat) (hk : k < 256) (hfl : fl < 256) (l : List Nat) (hn : l.length ≤ 300) (h : k % 11 = 4) : pkt_D m ((k : Int), (a : Int), (b : Int), (F : Int), (fl : Int), nI l, ()) = some ((((6 : Nat) : Int), 0, 0, 0, 0, 0, false, false, 0, [], ()), ()) := by
  have e : Int.tmod (Go.IntKind.wrap .i64 (k : Int)) (↑(List.length [(1 : Int), (2 : Int), (3 : Int), (5 : Int), (6 : Int), (8 : Int), (9 : Int), (10 : Int), (11 : Int), (13 : Int), (14 : Int)]) : Int) = ((k % 11 : Nat) : Int) := tm11 k hk
  unfold pkt_D
  simp only [e, h]
  rfl
theorem pkt_5 (m k a b F fl : Nat) (hk : k < 256) (hfl : fl < 256) (l : List Nat) (hn : l.length ≤ 300) (h : k % 11 = 5) : pkt_D m ((k : Int), (a : Int), (b : Int), (F : Int), (fl : Int), nI l, ()) = some ((((8 : Nat) : Int), 0, 0, 0, Int.tmod (a : Int) 128, Int.tmod (b : Int) 128, decide (Go.bits .and .u8 (fl : Int) 1 = 1), decide (Go.bits .and .u8 (fl : Int) 2 = 2), Int.tmod (Int.fdiv (fl : Int) ((2 : Int) ^ Min.min (Int.toNat (2 : Int)) (Go.IntKind.bits .u8))) (4 : Int), [], ()), ()) := by
  have e : Int.tmod (Go.IntKind.wrap .i64 (k : Int)) (↑(List.length [(1 : Int), (2 : Int), (3 : Int), (5 : Int), (6 : Int), (8 : Int), (9 : Int), (10 : Int), (11 : Int), (13 : Int), (14 : Int)]) : Int) = ((k % 11 : Nat) : Int) := tm11 k hk
  unfold pkt_D
  simp only [e, h]
  rfl
theorem pkt_6 (m k a b F fl : Nat) (hk : k < 256) (hfl : fl < 256) (l : List Nat) (hn : l.length ≤ 300) (h : k % 11 = 6) : pkt_D m ((k : Int), (a : Int), (b : Int), (F : Int), (fl : Int), nI l, ()) = some ((((9 : Nat) : Int), Int.tmod (a : Int) 128, Int.tmod (b : Int) 16, 0, 0, 0, false, false, 0, [], ()), ()) := by
  have e : Int.tmod (Go.IntKind.wrap .i64 (k : Int)) (↑(List.length [(1 : Int), (2 : Int), (3 : Int), (5 : Int), (6 : Int), (8 : Int), (9 : Int), (10 : Int), (11 : Int), (13 : Int), (14 : Int)]) : Int) = ((k % 11 : Nat) : Int) := tm11 k hk
  unfold pkt_D
  simp only [e, h]
  rfl
theorem pkt_7 (m k a b F fl : Nat) (hk : k < 256) (hfl : fl < 256) (l : List Nat) (hn : l.length ≤ 300) (h : k % 11 = 7) : pkt_D m ((k : Int), (a : Int), (b : Int), (F : Int), (fl : Int), nI l, ()) = some ((((10 : Nat) : Int), 0, 0, 0, 0, 0, false, false, 0, [], ()), ()) := by
  have e : Int.tmod (Go.IntKind.wrap .i64 (k : Int)) (↑(List.length [(1 : Int), (2 : Int), (3 : Int), (5 : Int), (6 : Int), (8 : Int), (9 : Int), (10 : Int), (11 : Int), (13 : Int), (14 : Int)]) : Int) = ((k % 11 : Nat) : Int) := tm11 k hk
  unfold pkt_D
  simp only [e, h]
  rfl
theorem pkt_8 (m k a b F fl : Nat) (hk : k < 256) (hfl : fl < 256) (l : List Nat) (hn : l.length ≤ 300) (h : k % 11 = 8) : pkt_D m ((k : Int), (a : Int), (b : Int), (F : Int), (fl : Int), nI l, ()) = some ((((11 : Nat) : Int), 0, 0, 0, 0, 0, false, false, 0, nI l, ()), ()) := by
  have e : Int.tmod (Go.IntKind.wrap .i64 (k : Int)) (↑(List.length [(1 : Int), (2 : Int), (3 : Int), (5 : Int), (6 : Int), (8 : Int), (9 : Int), (10 : Int), (11 : Int), (13 : Int), (14 : Int)]) : Int) = ((k % 11 : Nat) : Int) := tm11 k hk
  unfold pkt_D
  simp only [e, h]
  have g1 : decide ((1024 : Int) < ((nI l).length : Int)) = false := dF (by rw [nI_len]; omega)
  have g2 : decide ((0 : Int) ≤ ((nI l).length : Int)) = true := dT (by omega)
  have g3 : growOb 1 (0 + (nI l).length) = true := gr1 _ (by rw [nI_len]; omega)
  simp only [g1, g2, Int.toNat_natCast, Nat.le_refl, decide_true, Bool.and_self, List.take_length, cond_true, cond_false, List.nil_append]
  simp only [g3, cond_true]
  rfl
theorem pkt_9 (m k a b F fl : Nat) (hk : k < 256) (hfl : fl < 256) (l : List Nat) (hn : l.length ≤ 300) (h : k % 11 = 9) : pkt_D m ((k : Int), (a : Int), (b : Int), (F : Int), (fl : Int), nI l, ()) = some ((((13 : Nat) : Int), Int.tmod (a : Int) 128, Int.tmod (b : Int) 16, 0, 0, 0, false, false, 0, [], ()), ()) := by
  have e : Int.tmod (Go.IntKind.wrap .i64 (k : Int)) (↑(List.length [(1 : Int), (2 : Int), (3 : Int), (5 : Int), (6 : Int), (8 : Int), (9 : Int), (10 : Int), (11 : Int), (13 : Int), (14 : Int)]) : Int) = ((k % 11 : Nat) : Int) := tm11 k hk
  unfold pkt_D
  simp only [e, h]
  rfl
theorem pkt_10 (m k a b F fl : Nat) (hk : k < 256) (hfl : fl < 256) (l : List Nat) (hn : l.length ≤ 300) (h : k % 11 = 10) : pkt_D m ((k : Int), (a : Int), (b : Int), (F : Int), (fl : Int), nI l, ()) = some ((((14 : Nat) : Int), 0, 0, 0, 0, 0, false, false, 0, [], ()), ()) := by
  have e : Int.tmod (Go.IntKind.wrap .i64 (k : Int)) (↑(List.length [(1 : Int), (2 : Int), (3 : Int), (5 : Int), (6 : Int), (8 : Int), (9 : Int), (10 : Int), (11 : Int), (13 : Int), (14 : Int)]) : Int) = ((k % 11 : Nat) : Int) := tm11 k hk
  unfold pkt_D
  simp only [e, h]
  rfl
end Go.Proofs.YtpdbekbobkjfgaaDoor

