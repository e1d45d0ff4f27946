/-
  Layer 1 (levels): what the callees of the statements tell; states and bits invert each other.
  Conditions: none.
-/
import Derived.Test.YtolmhlikmjkkfaaLvK
import Derived.Test.YtolmhlikmjkkfaaLvT
namespace Go.Proofs.Ytolmhlikmjkkfaa
open Go.RowKit
set_option linter.unusedVariables false
set_option linter.unusedSimpArgs false

set_option maxRecDepth 100000 in
set_option maxHeartbeats 1000000 in
theorem refLevelsNo_a (xs : List Int) (hl : xs.length ≤ 1000000) (hv : validL xs = false) : ARet Try.prog 45 [.ints .u8 xs none] (.tup [.d (.v (.slice none 0 0)), .d (.v (.bool false))]) [] := by
  refine aret_body (n := 38) Try.func45 rfl Try.ntmps45 rfl (by simp) ?_
  (refine x_seq ?_; intro r hr; simp (maxSteps := 2000000) (disch := omega) only [push_cast, Nat.reduceAdd, Nat.reduceSub, Nat.reduceMul, Nat.reduceMod, Nat.reduceDiv, Int.reduceToNat, Int.reduceNeg, reduceCtorEq, ↓reduceIte, ↓Int.cast_ofNat_Int, Int.reduceAdd, Int.reduceSub, Int.reduceMul, Int.reduceDiv, Int.reduceMod, ↓Nat.reduceEqDiff, ↓Nat.reduceLT, ↓Nat.reduceLeDiff, ↓Nat.reduceBEq, ↓Int.reduceLT, ↓Int.reduceLE, ↓Int.reduceEq] at hr; subst hr; refine ⟨_, by with_reducible rfl, ?_⟩)
  (refine x_seq ?_; intro r hr; simp (maxSteps := 2000000) (disch := omega) only [push_cast, Nat.reduceAdd, Nat.reduceSub, Nat.reduceMul, Nat.reduceMod, Nat.reduceDiv, Int.reduceToNat, Int.reduceNeg, reduceCtorEq, ↓reduceIte, ↓Int.cast_ofNat_Int, Int.reduceAdd, Int.reduceSub, Int.reduceMul, Int.reduceDiv, Int.reduceMod, ↓Nat.reduceEqDiff, ↓Nat.reduceLT, ↓Nat.reduceLeDiff, ↓Nat.reduceBEq, ↓Int.reduceLT, ↓Int.reduceLE, ↓Int.reduceEq] at hr; subst hr; refine ⟨_, by with_reducible rfl, ?_⟩)
  (refine x_mat 4 1000 (.ints 5 .u8 [] (some 0)) (by intro r hr; simp (maxSteps := 2000000) (disch := omega) only [push_cast, Nat.reduceAdd, Nat.reduceSub, Nat.reduceMul, Nat.reduceMod, Nat.reduceDiv, Int.reduceToNat, Int.reduceNeg, reduceCtorEq, ↓reduceIte, ↓Int.cast_ofNat_Int, Int.reduceAdd, Int.reduceSub, Int.reduceMul, Int.reduceDiv, Int.reduceMod, ↓Nat.reduceEqDiff, ↓Nat.reduceLT, ↓Nat.reduceLeDiff, ↓Nat.reduceBEq, ↓Int.reduceLT, ↓Int.reduceLE, ↓Int.reduceEq] at hr; subst hr; exact ⟨_, rfl, rfl⟩) (by omega) (by simp) (by first | exact .inl ⟨_, _, rfl⟩ | exact .inr ⟨_, _, rfl⟩) ?_; intro s' hs; simp (maxSteps := 2000000) (disch := omega) only [push_cast, Nat.reduceAdd, Nat.reduceSub, Nat.reduceMul, Nat.reduceMod, Nat.reduceDiv, Int.reduceToNat, Int.reduceNeg, reduceCtorEq, ↓reduceIte, ↓Int.cast_ofNat_Int, Int.reduceAdd, Int.reduceSub, Int.reduceMul, Int.reduceDiv, Int.reduceMod, ↓Nat.reduceEqDiff, ↓Nat.reduceLT, ↓Nat.reduceLeDiff, ↓Nat.reduceBEq, ↓Int.reduceLT, ↓Int.reduceLE, ↓Int.reduceEq, Bool.true_eq_false, St.mat] at hs; subst hs)
  (refine awp_wide 1000 ?_; intro s' hs; simp (maxSteps := 2000000) (disch := omega) only [push_cast, Nat.reduceAdd, Nat.reduceSub, Nat.reduceMul, Nat.reduceMod, Nat.reduceDiv, Int.reduceToNat, Int.reduceNeg, reduceCtorEq, ↓reduceIte, ↓Int.cast_ofNat_Int, Int.reduceAdd, Int.reduceSub, Int.reduceMul, Int.reduceDiv, Int.reduceMod, ↓Nat.reduceEqDiff, ↓Nat.reduceLT, ↓Nat.reduceLeDiff, ↓Nat.reduceBEq, ↓Int.reduceLT, ↓Int.reduceLE, ↓Int.reduceEq, Bool.true_eq_false, St.wide] at hs; subst hs)
  (repeat (first | ((first | refine x_seq ?_ | refine x_reg ?_); intro r hr; simp (maxSteps := 2000000) (disch := omega) only [push_cast, Nat.reduceAdd, Nat.reduceSub, Nat.reduceMul, Nat.reduceMod, Nat.reduceDiv, Int.reduceToNat, Int.reduceNeg, reduceCtorEq, ↓reduceIte, ↓Int.cast_ofNat_Int, Int.reduceAdd, Int.reduceSub, Int.reduceMul, Int.reduceDiv, Int.reduceMod, ↓Nat.reduceEqDiff, ↓Nat.reduceLT, ↓Nat.reduceLeDiff, ↓Nat.reduceBEq, ↓Int.reduceLT, ↓Int.reduceLE, ↓Int.reduceEq] at hr; subst hr; refine ⟨_, by with_reducible rfl, ?_⟩; try simp only [xthen_n, xthen_x, xthen_r, xthen_g, xblock_n, xblock_r, xblock_g, xblock_x, xscope_n, xscope_r, xscope_x, ↓reduceIte, Nat.reduceEqDiff]) | refine awp_seq ?_ | refine awp_block ?_ | refine awp_scope ?_ | ((first | refine awp_skip ?_ | refine awp_exit ?_ | refine awp_ret ?_ | refine awp_label ?_); try simp only [xthen_n, xthen_x, xthen_r, xthen_g, xblock_n, xblock_r, xblock_g, xblock_x, xscope_n, xscope_r, xscope_x, ↓reduceIte, Nat.reduceEqDiff])))
  refine awp_loop (ι := Nat) (fun k => ⟨38, [(0, .d (.ints .u8 xs none)), (4, .own 1000), (5, .d (.v (.int .i64 k)))], [(1000, .ints 5 .u8 (decS (xs.take k)).1 none)]⟩)
    (fun k => k ≤ xs.length ∧ (xs.take k).all (· ≤ 1) = true) (fun k => xs.length - k) 0 ⟨by omega, by simp⟩ ?_ ?_
  · rw [List.take_zero, show decS [] = ([], 0) from rfl]
    exact (by refine sub_lists ?_ ?_ <;> simp (maxSteps := 2000000) (disch := omega) only [push_cast, Nat.reduceAdd, Nat.reduceSub, Nat.reduceMul, Nat.reduceMod, Nat.reduceDiv, Int.reduceToNat, Int.reduceNeg, reduceCtorEq, ↓reduceIte, ↓Int.cast_ofNat_Int, Int.reduceAdd, Int.reduceSub, Int.reduceMul, Int.reduceDiv, Int.reduceMod, ↓Nat.reduceEqDiff, ↓Nat.reduceLT, ↓Nat.reduceLeDiff, ↓Nat.reduceBEq, ↓Int.reduceLT, ↓Int.reduceLE, ↓Int.reduceEq, subT, subH, Int.natCast_zero, Int.cast_ofNat_Int])
  rintro k ⟨hk, hall⟩
  (repeat (first | ((first | refine x_seq ?_ | refine x_reg ?_); intro r hr; simp (maxSteps := 2000000) (disch := omega) only [push_cast, Nat.reduceAdd, Nat.reduceSub, Nat.reduceMul, Nat.reduceMod, Nat.reduceDiv, Int.reduceToNat, Int.reduceNeg, reduceCtorEq, ↓reduceIte, ↓Int.cast_ofNat_Int, Int.reduceAdd, Int.reduceSub, Int.reduceMul, Int.reduceDiv, Int.reduceMod, ↓Nat.reduceEqDiff, ↓Nat.reduceLT, ↓Nat.reduceLeDiff, ↓Nat.reduceBEq, ↓Int.reduceLT, ↓Int.reduceLE, ↓Int.reduceEq] at hr; subst hr; refine ⟨_, by with_reducible rfl, ?_⟩; try simp only [xthen_n, xthen_x, xthen_r, xthen_g, xblock_n, xblock_r, xblock_g, xblock_x, xscope_n, xscope_r, xscope_x, ↓reduceIte, Nat.reduceEqDiff]) | refine awp_seq ?_ | refine awp_block ?_ | refine awp_scope ?_ | ((first | refine awp_skip ?_ | refine awp_exit ?_ | refine awp_ret ?_ | refine awp_label ?_); try simp only [xthen_n, xthen_x, xthen_r, xthen_g, xblock_n, xblock_r, xblock_g, xblock_x, xscope_n, xscope_r, xscope_x, ↓reduceIte, Nat.reduceEqDiff])))
  (refine x_cond ?_; intro r hr; simp (maxSteps := 2000000) (disch := omega) only [push_cast, Nat.reduceAdd, Nat.reduceSub, Nat.reduceMul, Nat.reduceMod, Nat.reduceDiv, Int.reduceToNat, Int.reduceNeg, reduceCtorEq, ↓reduceIte, ↓Int.cast_ofNat_Int, Int.reduceAdd, Int.reduceSub, Int.reduceMul, Int.reduceDiv, Int.reduceMod, ↓Nat.reduceEqDiff, ↓Nat.reduceLT, ↓Nat.reduceLeDiff, ↓Nat.reduceBEq, ↓Int.reduceLT, ↓Int.reduceLE, ↓Int.reduceEq] at hr; subst hr; refine ⟨_, by with_reducible rfl, ?_⟩; refine ⟨fun h => ?_, fun h => ?_⟩ <;> (try simp only [decide_eq_true_eq, decide_eq_false_iff_not, ne_eq, Bool.not_eq_true', Bool.not_eq_false', Bool.and_eq_true, Bool.or_eq_true, Bool.and_eq_false_imp, Bool.or_eq_false_iff, beq_iff_eq, bne_iff_ne, Bool.not_eq_true, Bool.not_eq_false, not_true_eq_false, not_false_eq_true, Int.not_lt, Int.not_le, Bool.decide_eq_true, if_true, if_false] at h))
  · have hlt : k < xs.length := by omega
    have hl1 := decS_len (xs.take k)
    rw [List.length_take, Nat.min_eq_left (by omega)] at hl1
    have es := decS_snoc hlt
    have e2 : (decS (xs.take k)).2 = if h : 0 < k then xs[k - 1] else 0 := by
      cases k with
      | zero => simp [decS]
      | succ k => rw [decS_snoc (by omega)]; simp [deF]
    by_cases hx : xs[k] ≤ 1
    · have hall' : (xs.take (k + 1)).all (· ≤ 1) = true := by rw [take_snocI hlt, List.all_append, hall]; simp; omega
      (repeat (first | ((first | refine x_seq ?_ | refine x_reg ?_); intro r hr; simp (maxSteps := 2000000) (disch := omega) only [push_cast, Nat.reduceAdd, Nat.reduceSub, Nat.reduceMul, Nat.reduceMod, Nat.reduceDiv, Int.reduceToNat, Int.reduceNeg, reduceCtorEq, ↓reduceIte, ↓Int.cast_ofNat_Int, Int.reduceAdd, Int.reduceSub, Int.reduceMul, Int.reduceDiv, Int.reduceMod, ↓Nat.reduceEqDiff, ↓Nat.reduceLT, ↓Nat.reduceLeDiff, ↓Nat.reduceBEq, ↓Int.reduceLT, ↓Int.reduceLE, ↓Int.reduceEq] at hr; subst hr; refine ⟨_, by with_reducible rfl, ?_⟩; try simp only [xthen_n, xthen_x, xthen_r, xthen_g, xblock_n, xblock_r, xblock_g, xblock_x, xscope_n, xscope_r, xscope_x, ↓reduceIte, Nat.reduceEqDiff]) | refine awp_seq ?_ | refine awp_block ?_ | refine awp_scope ?_ | ((first | refine awp_skip ?_ | refine awp_exit ?_ | refine awp_ret ?_ | refine awp_label ?_); try simp only [xthen_n, xthen_x, xthen_r, xthen_g, xblock_n, xblock_r, xblock_g, xblock_x, xscope_n, xscope_r, xscope_x, ↓reduceIte, Nat.reduceEqDiff])))
      (refine x_cond ?_; intro r hr; simp (maxSteps := 2000000) (disch := omega) only [push_cast, Nat.reduceAdd, Nat.reduceSub, Nat.reduceMul, Nat.reduceMod, Nat.reduceDiv, Int.reduceToNat, Int.reduceNeg, reduceCtorEq, ↓reduceIte, ↓Int.cast_ofNat_Int, Int.reduceAdd, Int.reduceSub, Int.reduceMul, Int.reduceDiv, Int.reduceMod, ↓Nat.reduceEqDiff, ↓Nat.reduceLT, ↓Nat.reduceLeDiff, ↓Nat.reduceBEq, ↓Int.reduceLT, ↓Int.reduceLE, ↓Int.reduceEq] at hr; subst hr; refine ⟨_, by with_reducible rfl, ?_⟩; refine ⟨fun h => ?_, fun h => ?_⟩ <;> (try simp only [decide_eq_true_eq, decide_eq_false_iff_not, ne_eq, Bool.not_eq_true', Bool.not_eq_false', Bool.and_eq_true, Bool.or_eq_true, Bool.and_eq_false_imp, Bool.or_eq_false_iff, beq_iff_eq, bne_iff_ne, Bool.not_eq_true, Bool.not_eq_false, not_true_eq_false, not_false_eq_true, Int.not_lt, Int.not_le, Bool.decide_eq_true, if_true, if_false] at h))
      · first | omega | exact absurd h (by simp)
      (repeat (first | ((first | refine x_seq ?_ | refine x_reg ?_); intro r hr; simp (maxSteps := 2000000) (disch := omega) only [push_cast, Nat.reduceAdd, Nat.reduceSub, Nat.reduceMul, Nat.reduceMod, Nat.reduceDiv, Int.reduceToNat, Int.reduceNeg, reduceCtorEq, ↓reduceIte, ↓Int.cast_ofNat_Int, Int.reduceAdd, Int.reduceSub, Int.reduceMul, Int.reduceDiv, Int.reduceMod, ↓Nat.reduceEqDiff, ↓Nat.reduceLT, ↓Nat.reduceLeDiff, ↓Nat.reduceBEq, ↓Int.reduceLT, ↓Int.reduceLE, ↓Int.reduceEq] at hr; subst hr; refine ⟨_, by with_reducible rfl, ?_⟩; try simp only [xthen_n, xthen_x, xthen_r, xthen_g, xblock_n, xblock_r, xblock_g, xblock_x, xscope_n, xscope_r, xscope_x, ↓reduceIte, Nat.reduceEqDiff]) | refine awp_seq ?_ | refine awp_block ?_ | refine awp_scope ?_ | ((first | refine awp_skip ?_ | refine awp_exit ?_ | refine awp_ret ?_ | refine awp_label ?_); try simp only [xthen_n, xthen_x, xthen_r, xthen_g, xblock_n, xblock_r, xblock_g, xblock_x, xscope_n, xscope_r, xscope_x, ↓reduceIte, Nat.reduceEqDiff])))
      (refine x_cond ?_; intro r hr; simp (maxSteps := 2000000) (disch := omega) only [push_cast, Nat.reduceAdd, Nat.reduceSub, Nat.reduceMul, Nat.reduceMod, Nat.reduceDiv, Int.reduceToNat, Int.reduceNeg, reduceCtorEq, ↓reduceIte, ↓Int.cast_ofNat_Int, Int.reduceAdd, Int.reduceSub, Int.reduceMul, Int.reduceDiv, Int.reduceMod, ↓Nat.reduceEqDiff, ↓Nat.reduceLT, ↓Nat.reduceLeDiff, ↓Nat.reduceBEq, ↓Int.reduceLT, ↓Int.reduceLE, ↓Int.reduceEq] at hr; subst hr; refine ⟨_, by with_reducible rfl, ?_⟩; refine ⟨fun h => ?_, fun h => ?_⟩ <;> (try simp only [decide_eq_true_eq, decide_eq_false_iff_not, ne_eq, Bool.not_eq_true', Bool.not_eq_false', Bool.and_eq_true, Bool.or_eq_true, Bool.and_eq_false_imp, Bool.or_eq_false_iff, beq_iff_eq, bne_iff_ne, Bool.not_eq_true, Bool.not_eq_false, not_true_eq_false, not_false_eq_true, Int.not_lt, Int.not_le, Bool.decide_eq_true, if_true, if_false] at h))
      · have hk1 : ((k : Int) - 1).toNat = k - 1 := by omega
        have hlt1 : k - 1 < xs.length := by omega
        rw [dif_pos (by omega)] at e2
        (repeat (first | ((first | refine x_seq ?_ | refine x_reg ?_); intro r hr; simp (maxSteps := 2000000) (disch := omega) only [push_cast, Nat.reduceAdd, Nat.reduceSub, Nat.reduceMul, Nat.reduceMod, Nat.reduceDiv, Int.reduceToNat, Int.reduceNeg, reduceCtorEq, ↓reduceIte, ↓Int.cast_ofNat_Int, Int.reduceAdd, Int.reduceSub, Int.reduceMul, Int.reduceDiv, Int.reduceMod, ↓Nat.reduceEqDiff, ↓Nat.reduceLT, ↓Nat.reduceLeDiff, ↓Nat.reduceBEq, ↓Int.reduceLT, ↓Int.reduceLE, ↓Int.reduceEq, hk1] at hr; subst hr; refine ⟨_, by with_reducible rfl, ?_⟩; try simp only [xthen_n, xthen_x, xthen_r, xthen_g, xblock_n, xblock_r, xblock_g, xblock_x, xscope_n, xscope_r, xscope_x, ↓reduceIte, Nat.reduceEqDiff]) | refine awp_seq ?_ | refine awp_block ?_ | refine awp_scope ?_ | ((first | refine awp_skip ?_ | refine awp_exit ?_ | refine awp_ret ?_ | refine awp_label ?_); try simp only [xthen_n, xthen_x, xthen_r, xthen_g, xblock_n, xblock_r, xblock_g, xblock_x, xscope_n, xscope_r, xscope_x, ↓reduceIte, Nat.reduceEqDiff])))
        (refine x_cond ?_; intro r hr; simp (maxSteps := 2000000) (disch := omega) only [push_cast, Nat.reduceAdd, Nat.reduceSub, Nat.reduceMul, Nat.reduceMod, Nat.reduceDiv, Int.reduceToNat, Int.reduceNeg, reduceCtorEq, ↓reduceIte, ↓Int.cast_ofNat_Int, Int.reduceAdd, Int.reduceSub, Int.reduceMul, Int.reduceDiv, Int.reduceMod, ↓Nat.reduceEqDiff, ↓Nat.reduceLT, ↓Nat.reduceLeDiff, ↓Nat.reduceBEq, ↓Int.reduceLT, ↓Int.reduceLE, ↓Int.reduceEq] at hr; subst hr; refine ⟨_, by with_reducible rfl, ?_⟩; refine ⟨fun h => ?_, fun h => ?_⟩ <;> (try simp only [decide_eq_true_eq, decide_eq_false_iff_not, ne_eq, Bool.not_eq_true', Bool.not_eq_false', Bool.and_eq_true, Bool.or_eq_true, Bool.and_eq_false_imp, Bool.or_eq_false_iff, beq_iff_eq, bne_iff_ne, Bool.not_eq_true, Bool.not_eq_false, not_true_eq_false, not_false_eq_true, Int.not_lt, Int.not_le, Bool.decide_eq_true, if_true, if_false] at h))
        · (repeat (first | ((first | refine x_seq ?_ | refine x_reg ?_); intro r hr; simp (maxSteps := 2000000) (disch := omega) only [push_cast, Nat.reduceAdd, Nat.reduceSub, Nat.reduceMul, Nat.reduceMod, Nat.reduceDiv, Int.reduceToNat, Int.reduceNeg, reduceCtorEq, ↓reduceIte, ↓Int.cast_ofNat_Int, Int.reduceAdd, Int.reduceSub, Int.reduceMul, Int.reduceDiv, Int.reduceMod, ↓Nat.reduceEqDiff, ↓Nat.reduceLT, ↓Nat.reduceLeDiff, ↓Nat.reduceBEq, ↓Int.reduceLT, ↓Int.reduceLE, ↓Int.reduceEq, hl1] at hr; subst hr; refine ⟨_, by with_reducible rfl, ?_⟩; try simp only [xthen_n, xthen_x, xthen_r, xthen_g, xblock_n, xblock_r, xblock_g, xblock_x, xscope_n, xscope_r, xscope_x, ↓reduceIte, Nat.reduceEqDiff]) | refine awp_seq ?_ | refine awp_block ?_ | refine awp_scope ?_ | ((first | refine awp_skip ?_ | refine awp_exit ?_ | refine awp_ret ?_ | refine awp_label ?_); try simp only [xthen_n, xthen_x, xthen_r, xthen_g, xblock_n, xblock_r, xblock_g, xblock_x, xscope_n, xscope_r, xscope_x, ↓reduceIte, Nat.reduceEqDiff])))
          refine ⟨k + 1, ⟨by omega, hall'⟩, ?_, by omega⟩
          rw [es, deF, if_pos (by omega)]
          exact (by refine sub_lists ?_ ?_ <;> simp (maxSteps := 2000000) (disch := omega) only [push_cast, Nat.reduceAdd, Nat.reduceSub, Nat.reduceMul, Nat.reduceMod, Nat.reduceDiv, Int.reduceToNat, Int.reduceNeg, reduceCtorEq, ↓reduceIte, ↓Int.cast_ofNat_Int, Int.reduceAdd, Int.reduceSub, Int.reduceMul, Int.reduceDiv, Int.reduceMod, ↓Nat.reduceEqDiff, ↓Nat.reduceLT, ↓Nat.reduceLeDiff, ↓Nat.reduceBEq, ↓Int.reduceLT, ↓Int.reduceLE, ↓Int.reduceEq, subT, subH, Int.natCast_add, Int.natCast_zero, Int.cast_ofNat_Int])
        · (repeat (first | ((first | refine x_seq ?_ | refine x_reg ?_); intro r hr; simp (maxSteps := 2000000) (disch := omega) only [push_cast, Nat.reduceAdd, Nat.reduceSub, Nat.reduceMul, Nat.reduceMod, Nat.reduceDiv, Int.reduceToNat, Int.reduceNeg, reduceCtorEq, ↓reduceIte, ↓Int.cast_ofNat_Int, Int.reduceAdd, Int.reduceSub, Int.reduceMul, Int.reduceDiv, Int.reduceMod, ↓Nat.reduceEqDiff, ↓Nat.reduceLT, ↓Nat.reduceLeDiff, ↓Nat.reduceBEq, ↓Int.reduceLT, ↓Int.reduceLE, ↓Int.reduceEq, hl1] at hr; subst hr; refine ⟨_, by with_reducible rfl, ?_⟩; try simp only [xthen_n, xthen_x, xthen_r, xthen_g, xblock_n, xblock_r, xblock_g, xblock_x, xscope_n, xscope_r, xscope_x, ↓reduceIte, Nat.reduceEqDiff]) | refine awp_seq ?_ | refine awp_block ?_ | refine awp_scope ?_ | ((first | refine awp_skip ?_ | refine awp_exit ?_ | refine awp_ret ?_ | refine awp_label ?_); try simp only [xthen_n, xthen_x, xthen_r, xthen_g, xblock_n, xblock_r, xblock_g, xblock_x, xscope_n, xscope_r, xscope_x, ↓reduceIte, Nat.reduceEqDiff])))
          refine ⟨k + 1, ⟨by omega, hall'⟩, ?_, by omega⟩
          rw [es, deF, if_neg (by omega)]
          exact (by refine sub_lists ?_ ?_ <;> simp (maxSteps := 2000000) (disch := omega) only [push_cast, Nat.reduceAdd, Nat.reduceSub, Nat.reduceMul, Nat.reduceMod, Nat.reduceDiv, Int.reduceToNat, Int.reduceNeg, reduceCtorEq, ↓reduceIte, ↓Int.cast_ofNat_Int, Int.reduceAdd, Int.reduceSub, Int.reduceMul, Int.reduceDiv, Int.reduceMod, ↓Nat.reduceEqDiff, ↓Nat.reduceLT, ↓Nat.reduceLeDiff, ↓Nat.reduceBEq, ↓Int.reduceLT, ↓Int.reduceLE, ↓Int.reduceEq, subT, subH, Int.natCast_add, Int.natCast_zero, Int.cast_ofNat_Int])
      · rw [dif_neg (by omega)] at e2
        (repeat (first | ((first | refine x_seq ?_ | refine x_reg ?_); intro r hr; simp (maxSteps := 2000000) (disch := omega) only [push_cast, Nat.reduceAdd, Nat.reduceSub, Nat.reduceMul, Nat.reduceMod, Nat.reduceDiv, Int.reduceToNat, Int.reduceNeg, reduceCtorEq, ↓reduceIte, ↓Int.cast_ofNat_Int, Int.reduceAdd, Int.reduceSub, Int.reduceMul, Int.reduceDiv, Int.reduceMod, ↓Nat.reduceEqDiff, ↓Nat.reduceLT, ↓Nat.reduceLeDiff, ↓Nat.reduceBEq, ↓Int.reduceLT, ↓Int.reduceLE, ↓Int.reduceEq] at hr; subst hr; refine ⟨_, by with_reducible rfl, ?_⟩; try simp only [xthen_n, xthen_x, xthen_r, xthen_g, xblock_n, xblock_r, xblock_g, xblock_x, xscope_n, xscope_r, xscope_x, ↓reduceIte, Nat.reduceEqDiff]) | refine awp_seq ?_ | refine awp_block ?_ | refine awp_scope ?_ | ((first | refine awp_skip ?_ | refine awp_exit ?_ | refine awp_ret ?_ | refine awp_label ?_); try simp only [xthen_n, xthen_x, xthen_r, xthen_g, xblock_n, xblock_r, xblock_g, xblock_x, xscope_n, xscope_r, xscope_x, ↓reduceIte, Nat.reduceEqDiff])))
        (refine x_cond ?_; intro r hr; simp (maxSteps := 2000000) (disch := omega) only [push_cast, Nat.reduceAdd, Nat.reduceSub, Nat.reduceMul, Nat.reduceMod, Nat.reduceDiv, Int.reduceToNat, Int.reduceNeg, reduceCtorEq, ↓reduceIte, ↓Int.cast_ofNat_Int, Int.reduceAdd, Int.reduceSub, Int.reduceMul, Int.reduceDiv, Int.reduceMod, ↓Nat.reduceEqDiff, ↓Nat.reduceLT, ↓Nat.reduceLeDiff, ↓Nat.reduceBEq, ↓Int.reduceLT, ↓Int.reduceLE, ↓Int.reduceEq] at hr; subst hr; refine ⟨_, by with_reducible rfl, ?_⟩; refine ⟨fun h => ?_, fun h => ?_⟩ <;> (try simp only [decide_eq_true_eq, decide_eq_false_iff_not, ne_eq, Bool.not_eq_true', Bool.not_eq_false', Bool.and_eq_true, Bool.or_eq_true, Bool.and_eq_false_imp, Bool.or_eq_false_iff, beq_iff_eq, bne_iff_ne, Bool.not_eq_true, Bool.not_eq_false, not_true_eq_false, not_false_eq_true, Int.not_lt, Int.not_le, Bool.decide_eq_true, if_true, if_false] at h))
        · (repeat (first | ((first | refine x_seq ?_ | refine x_reg ?_); intro r hr; simp (maxSteps := 2000000) (disch := omega) only [push_cast, Nat.reduceAdd, Nat.reduceSub, Nat.reduceMul, Nat.reduceMod, Nat.reduceDiv, Int.reduceToNat, Int.reduceNeg, reduceCtorEq, ↓reduceIte, ↓Int.cast_ofNat_Int, Int.reduceAdd, Int.reduceSub, Int.reduceMul, Int.reduceDiv, Int.reduceMod, ↓Nat.reduceEqDiff, ↓Nat.reduceLT, ↓Nat.reduceLeDiff, ↓Nat.reduceBEq, ↓Int.reduceLT, ↓Int.reduceLE, ↓Int.reduceEq, hl1] at hr; subst hr; refine ⟨_, by with_reducible rfl, ?_⟩; try simp only [xthen_n, xthen_x, xthen_r, xthen_g, xblock_n, xblock_r, xblock_g, xblock_x, xscope_n, xscope_r, xscope_x, ↓reduceIte, Nat.reduceEqDiff]) | refine awp_seq ?_ | refine awp_block ?_ | refine awp_scope ?_ | ((first | refine awp_skip ?_ | refine awp_exit ?_ | refine awp_ret ?_ | refine awp_label ?_); try simp only [xthen_n, xthen_x, xthen_r, xthen_g, xblock_n, xblock_r, xblock_g, xblock_x, xscope_n, xscope_r, xscope_x, ↓reduceIte, Nat.reduceEqDiff])))
          refine ⟨k + 1, ⟨by omega, hall'⟩, ?_, by omega⟩
          rw [es, deF, if_pos (by omega)]
          exact (by refine sub_lists ?_ ?_ <;> simp (maxSteps := 2000000) (disch := omega) only [push_cast, Nat.reduceAdd, Nat.reduceSub, Nat.reduceMul, Nat.reduceMod, Nat.reduceDiv, Int.reduceToNat, Int.reduceNeg, reduceCtorEq, ↓reduceIte, ↓Int.cast_ofNat_Int, Int.reduceAdd, Int.reduceSub, Int.reduceMul, Int.reduceDiv, Int.reduceMod, ↓Nat.reduceEqDiff, ↓Nat.reduceLT, ↓Nat.reduceLeDiff, ↓Nat.reduceBEq, ↓Int.reduceLT, ↓Int.reduceLE, ↓Int.reduceEq, subT, subH, Int.natCast_add, Int.natCast_zero, Int.cast_ofNat_Int])
        · (repeat (first | ((first | refine x_seq ?_ | refine x_reg ?_); intro r hr; simp (maxSteps := 2000000) (disch := omega) only [push_cast, Nat.reduceAdd, Nat.reduceSub, Nat.reduceMul, Nat.reduceMod, Nat.reduceDiv, Int.reduceToNat, Int.reduceNeg, reduceCtorEq, ↓reduceIte, ↓Int.cast_ofNat_Int, Int.reduceAdd, Int.reduceSub, Int.reduceMul, Int.reduceDiv, Int.reduceMod, ↓Nat.reduceEqDiff, ↓Nat.reduceLT, ↓Nat.reduceLeDiff, ↓Nat.reduceBEq, ↓Int.reduceLT, ↓Int.reduceLE, ↓Int.reduceEq, hl1] at hr; subst hr; refine ⟨_, by with_reducible rfl, ?_⟩; try simp only [xthen_n, xthen_x, xthen_r, xthen_g, xblock_n, xblock_r, xblock_g, xblock_x, xscope_n, xscope_r, xscope_x, ↓reduceIte, Nat.reduceEqDiff]) | refine awp_seq ?_ | refine awp_block ?_ | refine awp_scope ?_ | ((first | refine awp_skip ?_ | refine awp_exit ?_ | refine awp_ret ?_ | refine awp_label ?_); try simp only [xthen_n, xthen_x, xthen_r, xthen_g, xblock_n, xblock_r, xblock_g, xblock_x, xscope_n, xscope_r, xscope_x, ↓reduceIte, Nat.reduceEqDiff])))
          refine ⟨k + 1, ⟨by omega, hall'⟩, ?_, by omega⟩
          rw [es, deF, if_neg (by omega)]
          exact (by refine sub_lists ?_ ?_ <;> simp (maxSteps := 2000000) (disch := omega) only [push_cast, Nat.reduceAdd, Nat.reduceSub, Nat.reduceMul, Nat.reduceMod, Nat.reduceDiv, Int.reduceToNat, Int.reduceNeg, reduceCtorEq, ↓reduceIte, ↓Int.cast_ofNat_Int, Int.reduceAdd, Int.reduceSub, Int.reduceMul, Int.reduceDiv, Int.reduceMod, ↓Nat.reduceEqDiff, ↓Nat.reduceLT, ↓Nat.reduceLeDiff, ↓Nat.reduceBEq, ↓Int.reduceLT, ↓Int.reduceLE, ↓Int.reduceEq, subT, subH, Int.natCast_add, Int.natCast_zero, Int.cast_ofNat_Int])
    · (repeat (first | ((first | refine x_seq ?_ | refine x_reg ?_); intro r hr; simp (maxSteps := 2000000) (disch := omega) only [push_cast, Nat.reduceAdd, Nat.reduceSub, Nat.reduceMul, Nat.reduceMod, Nat.reduceDiv, Int.reduceToNat, Int.reduceNeg, reduceCtorEq, ↓reduceIte, ↓Int.cast_ofNat_Int, Int.reduceAdd, Int.reduceSub, Int.reduceMul, Int.reduceDiv, Int.reduceMod, ↓Nat.reduceEqDiff, ↓Nat.reduceLT, ↓Nat.reduceLeDiff, ↓Nat.reduceBEq, ↓Int.reduceLT, ↓Int.reduceLE, ↓Int.reduceEq] at hr; subst hr; refine ⟨_, by with_reducible rfl, ?_⟩; try simp only [xthen_n, xthen_x, xthen_r, xthen_g, xblock_n, xblock_r, xblock_g, xblock_x, xscope_n, xscope_r, xscope_x, ↓reduceIte, Nat.reduceEqDiff]) | refine awp_seq ?_ | refine awp_block ?_ | refine awp_scope ?_ | ((first | refine awp_skip ?_ | refine awp_exit ?_ | refine awp_ret ?_ | refine awp_label ?_); try simp only [xthen_n, xthen_x, xthen_r, xthen_g, xblock_n, xblock_r, xblock_g, xblock_x, xscope_n, xscope_r, xscope_x, ↓reduceIte, Nat.reduceEqDiff])))
      (refine x_cond ?_; intro r hr; simp (maxSteps := 2000000) (disch := omega) only [push_cast, Nat.reduceAdd, Nat.reduceSub, Nat.reduceMul, Nat.reduceMod, Nat.reduceDiv, Int.reduceToNat, Int.reduceNeg, reduceCtorEq, ↓reduceIte, ↓Int.cast_ofNat_Int, Int.reduceAdd, Int.reduceSub, Int.reduceMul, Int.reduceDiv, Int.reduceMod, ↓Nat.reduceEqDiff, ↓Nat.reduceLT, ↓Nat.reduceLeDiff, ↓Nat.reduceBEq, ↓Int.reduceLT, ↓Int.reduceLE, ↓Int.reduceEq] at hr; subst hr; refine ⟨_, by with_reducible rfl, ?_⟩; refine ⟨fun h => ?_, fun h => ?_⟩ <;> (try simp only [decide_eq_true_eq, decide_eq_false_iff_not, ne_eq, Bool.not_eq_true', Bool.not_eq_false', Bool.and_eq_true, Bool.or_eq_true, Bool.and_eq_false_imp, Bool.or_eq_false_iff, beq_iff_eq, bne_iff_ne, Bool.not_eq_true, Bool.not_eq_false, not_true_eq_false, not_false_eq_true, Int.not_lt, Int.not_le, Bool.decide_eq_true, if_true, if_false] at h))
      · (repeat (first | ((first | refine x_seq ?_ | refine x_reg ?_); intro r hr; simp (maxSteps := 2000000) (disch := omega) only [push_cast, Nat.reduceAdd, Nat.reduceSub, Nat.reduceMul, Nat.reduceMod, Nat.reduceDiv, Int.reduceToNat, Int.reduceNeg, reduceCtorEq, ↓reduceIte, ↓Int.cast_ofNat_Int, Int.reduceAdd, Int.reduceSub, Int.reduceMul, Int.reduceDiv, Int.reduceMod, ↓Nat.reduceEqDiff, ↓Nat.reduceLT, ↓Nat.reduceLeDiff, ↓Nat.reduceBEq, ↓Int.reduceLT, ↓Int.reduceLE, ↓Int.reduceEq] at hr; subst hr; refine ⟨_, by with_reducible rfl, ?_⟩; try simp only [xthen_n, xthen_x, xthen_r, xthen_g, xblock_n, xblock_r, xblock_g, xblock_x, xscope_n, xscope_r, xscope_x, ↓reduceIte, Nat.reduceEqDiff]) | refine awp_seq ?_ | refine awp_block ?_ | refine awp_scope ?_ | ((first | refine awp_skip ?_ | refine awp_exit ?_ | refine awp_ret ?_ | refine awp_label ?_); try simp only [xthen_n, xthen_x, xthen_r, xthen_g, xblock_n, xblock_r, xblock_g, xblock_x, xscope_n, xscope_r, xscope_x, ↓reduceIte, Nat.reduceEqDiff])))
        (refine x_ret0 (by first | exact .inl rfl | exact .inr rfl) ?_; intro r hr; simp (maxSteps := 2000000) (disch := omega) only [push_cast, Nat.reduceAdd, Nat.reduceSub, Nat.reduceMul, Nat.reduceMod, Nat.reduceDiv, Int.reduceToNat, Int.reduceNeg, reduceCtorEq, ↓reduceIte, ↓Int.cast_ofNat_Int, Int.reduceAdd, Int.reduceSub, Int.reduceMul, Int.reduceDiv, Int.reduceMod, ↓Nat.reduceEqDiff, ↓Nat.reduceLT, ↓Nat.reduceLeDiff, ↓Nat.reduceBEq, ↓Int.reduceLT, ↓Int.reduceLE, ↓Int.reduceEq, Try.results45] at hr; subst hr; refine ⟨_, by with_reducible rfl, ?_⟩; simp only [renV, renVs])
        (first | exact ⟨trivial, trivial⟩ | exact ⟨trivial, rfl⟩ | exact ⟨rfl, trivial⟩ | exact ⟨rfl, rfl⟩)
      · first | omega | exact absurd h (by simp)
  · rw [List.take_of_length_le (by omega)] at hall
    have : validL xs = true := hall
    rw [hv] at this; cases this

instance (xs : List Int) : Decidable (u8s xs) := by unfold u8s; exact inferInstance
instance (xs : List Int) : Decidable (b01 xs) := by unfold b01; exact inferInstance

def valid_F (us : List AV) : Option (AV × List Blk) := match us with
  | [.d (.ints .u8 xs c)] => if xs.length ≤ 100000 ∧ c = none then some (.d (.v (.bool (validL xs))), []) else none
  | _ => none
theorem valid_t : TellOk Try.prog 57 valid_F := by
  intro us R BS h
  unfold valid_F at h
  split at h
  · rename_i xs c
    split at h
    · rename_i hc
      simp only [Option.some.injEq, Prod.mk.injEq] at h
      obtain ⟨rfl, rfl⟩ := h
      exact (by obtain ⟨h1, rfl⟩ := hc; exact valid_a xs (by omega))
    · cases h
  · cases h
attribute [push_cast] valid_F

def refValid_F (us : List AV) : Option (AV × List Blk) := match us with
  | [.d (.ints .u8 xs c)] => if xs.length ≤ 100000 ∧ c = none ∧ u8s xs then some (.d (.v (.bool (validL xs))), []) else none
  | _ => none
theorem refValid_t : TellOk Try.prog 27 refValid_F := by
  intro us R BS h
  unfold refValid_F at h
  split at h
  · rename_i xs c
    split at h
    · rename_i hc
      simp only [Option.some.injEq, Prod.mk.injEq] at h
      obtain ⟨rfl, rfl⟩ := h
      exact (by obtain ⟨h1, rfl, h2⟩ := hc; exact refValid_a xs (by omega) h2)
    · cases h
  · cases h
attribute [push_cast] refValid_F

def encode_F (us : List AV) : Option (AV × List Blk) := match us with
  | [.d (.ints .u8 xs c)] => if xs.length ≤ 100000 ∧ c = none then (if validL xs = true then some (.tup [.own 0, .d (.v (.int .i64 0))], [.ints 63 .u8 (encL xs) (some (xs.length + 0))]) else some (.tup [.d (.v (.slice none 0 0)), .d (.v (.int .i64 1))], [])) else none
  | _ => none
theorem encode_t : TellOk Try.prog 42 encode_F := by
  intro us R BS h
  unfold encode_F at h
  split at h
  · rename_i xs c
    split at h
    · rename_i hc
      split at h
      · rename_i hv
        simp only [Option.some.injEq, Prod.mk.injEq] at h
        obtain ⟨rfl, rfl⟩ := h
        exact (by obtain ⟨h1, rfl⟩ := hc; exact encodeOk_a xs h1 hv)
      · rename_i hv
        simp only [Option.some.injEq, Prod.mk.injEq] at h
        obtain ⟨rfl, rfl⟩ := h
        exact (by obtain ⟨h1, rfl⟩ := hc; exact encodeArg_a xs h1 (by simpa using hv))
    · cases h
  · cases h
attribute [push_cast] encode_F

def decode_F (us : List AV) : Option (AV × List Blk) := match us with
  | [.d (.ints .u8 xs c)] => if xs.length ≤ 100000 ∧ c = none then (if validL xs = true then some (.tup [.own 0, .d (.v (.int .i64 0))], [.ints 5 .u8 (decL xs) (some xs.length)]) else some (.tup [.d (.v (.slice none 0 0)), .d (.v (.int .i64 4))], [])) else none
  | _ => none
theorem decode_t : TellOk Try.prog 43 decode_F := by
  intro us R BS h
  unfold decode_F at h
  split at h
  · rename_i xs c
    split at h
    · rename_i hc
      split at h
      · rename_i hv
        simp only [Option.some.injEq, Prod.mk.injEq] at h
        obtain ⟨rfl, rfl⟩ := h
        exact (by obtain ⟨h1, rfl⟩ := hc; exact decode_a xs (by omega) hv)
      · rename_i hv
        simp only [Option.some.injEq, Prod.mk.injEq] at h
        obtain ⟨rfl, rfl⟩ := h
        exact (by obtain ⟨h1, rfl⟩ := hc; exact decodeNo_a xs (by omega) (by simpa using hv))
    · cases h
  · cases h
attribute [push_cast] decode_F

def refLevels_F (us : List AV) : Option (AV × List Blk) := match us with
  | [.d (.ints .u8 xs c)] => if xs.length ≤ 100000 ∧ c = none then (if validL xs = true then some (.tup [.own 0, .d (.v (.bool true))], [.ints 5 .u8 (decL xs) none]) else some (.tup [.d (.v (.slice none 0 0)), .d (.v (.bool false))], [])) else none
  | _ => none
theorem refLevels_t : TellOk Try.prog 45 refLevels_F := by
  intro us R BS h
  unfold refLevels_F at h
  split at h
  · rename_i xs c
    split at h
    · rename_i hc
      split at h
      · rename_i hv
        simp only [Option.some.injEq, Prod.mk.injEq] at h
        obtain ⟨rfl, rfl⟩ := h
        exact (by obtain ⟨h1, rfl⟩ := hc; exact refLevels_a xs (by omega) hv)
      · rename_i hv
        simp only [Option.some.injEq, Prod.mk.injEq] at h
        obtain ⟨rfl, rfl⟩ := h
        exact (by obtain ⟨h1, rfl⟩ := hc; exact refLevelsNo_a xs (by omega) (by simpa using hv))
    · cases h
  · cases h
attribute [push_cast] refLevels_F

def refStates_F (us : List AV) : Option (AV × List Blk) := match us with
  | [.d (.ints .u8 xs c)] => if xs.length ≤ 100000 ∧ c = none then some (.own 0, [.ints 5 .u8 (encL xs) none]) else none
  | _ => none
theorem refStates_t : TellOk Try.prog 44 refStates_F := by
  intro us R BS h
  unfold refStates_F at h
  split at h
  · rename_i xs c
    split at h
    · rename_i hc
      simp only [Option.some.injEq, Prod.mk.injEq] at h
      obtain ⟨rfl, rfl⟩ := h
      exact (by obtain ⟨h1, rfl⟩ := hc; exact refStates_a xs (by omega))
    · cases h
  · cases h
attribute [push_cast] refStates_F

def lineLaw_F (us : List AV) : Option (AV × List Blk) := match us with
  | [.d (.ints .u8 xs c)] => if xs.length ≤ 100000 ∧ c = none then some (.own 0, [.ints 63 .u8 xs none]) else none
  | _ => none
theorem lineLaw_t : TellOk Try.prog 38 lineLaw_F := by
  intro us R BS h
  unfold lineLaw_F at h
  split at h
  · rename_i xs c
    split at h
    · rename_i hc
      simp only [Option.some.injEq, Prod.mk.injEq] at h
      obtain ⟨rfl, rfl⟩ := h
      exact (by obtain ⟨h1, rfl⟩ := hc; exact lineLaw_a xs (by omega))
    · cases h
  · cases h
attribute [push_cast] lineLaw_F

def statesLaw_F (us : List AV) : Option (AV × List Blk) := match us with
  | [.d (.ints .u8 xs c)] => if xs.length ≤ 100000 ∧ c = none then some (.own 0, [.ints 5 .u8 xs none]) else none
  | _ => none
theorem statesLaw_t : TellOk Try.prog 36 statesLaw_F := by
  intro us R BS h
  unfold statesLaw_F at h
  split at h
  · rename_i xs c
    split at h
    · rename_i hc
      simp only [Option.some.injEq, Prod.mk.injEq] at h
      obtain ⟨rfl, rfl⟩ := h
      exact (by obtain ⟨h1, rfl⟩ := hc; exact statesLaw_a xs (by omega))
    · cases h
  · cases h
attribute [push_cast] statesLaw_F

/-! States and bits -/
def encR (s : Int) : List Int → List Int
  | [] => []
  | x :: xs => (if x = 0 then 1 - s else s) :: encR (if x = 0 then 1 - s else s) xs
def decR (s : Int) : List Int → List Int
  | [] => []
  | x :: xs => (if x = s then 1 else 0) :: decR x xs
theorem encR_fold : ∀ (xs : List Int) (o : List Int) (s : Int), (xs.foldl enF (o, s)).1 = o ++ encR s xs
  | [], o, s => by simp [encR]
  | x :: xs, o, s => by rw [List.foldl_cons, enF, encR_fold xs]; simp [encR]
theorem decR_fold : ∀ (xs : List Int) (o : List Int) (s : Int), (xs.foldl deF (o, s)).1 = o ++ decR s xs
  | [], o, s => by simp [decR]
  | x :: xs, o, s => by rw [List.foldl_cons, deF, decR_fold xs]; simp [decR]
theorem encL_R (xs : List Int) : encL xs = encR 0 xs := by have := encR_fold xs [] 0; simpa [encL, encS] using this
theorem decL_R (xs : List Int) : decL xs = decR 0 xs := by have := decR_fold xs [] 0; simpa [decL, decS] using this
theorem dec_encR : ∀ (xs : List Int) (s : Int), (s = 0 ∨ s = 1) → b01 xs → decR s (encR s xs) = xs
  | [], s, _, _ => rfl
  | x :: xs, s, hs, h => by
    have hx := h x (by simp)
    simp only [encR, decR]
    rw [dec_encR xs _ (by split <;> omega) (fun y hy => h y (by simp [hy]))]
    congr 1
    rcases hx with rfl | rfl <;> rcases hs with rfl | rfl <;> simp
theorem enc_decR : ∀ (xs : List Int) (s : Int), (s = 0 ∨ s = 1) → b01 xs → encR s (decR s xs) = xs
  | [], s, _, _ => rfl
  | x :: xs, s, hs, h => by
    have hx := h x (by simp)
    have e : (if (if x = s then (1 : Int) else 0) = 0 then 1 - s else s) = x := by
      rcases hx with rfl | rfl <;> rcases hs with rfl | rfl <;> simp
    simp only [encR, decR, e]
    rw [enc_decR xs x hx (fun y hy => h y (by simp [hy]))]
theorem encR_01 : ∀ (xs : List Int) (s : Int), (s = 0 ∨ s = 1) → b01 (encR s xs)
  | [], s, _ => by intro x hx; simp [encR] at hx
  | x :: xs, s, hs => by
    intro y hy
    simp only [encR] at hy
    have h1 : (if x = 0 then 1 - s else s) = 0 ∨ (if x = 0 then 1 - s else s) = 1 := by split <;> omega
    rcases List.mem_cons.1 hy with h | h
    · rw [h]; exact h1
    · exact encR_01 xs _ h1 y h
theorem decR_01 : ∀ (xs : List Int) (s : Int), b01 (decR s xs)
  | [], s => by intro x hx; simp [decR] at hx
  | x :: xs, s => by
    intro y hy
    simp only [decR] at hy
    rcases List.mem_cons.1 hy with h | h
    · rw [h]; split <;> simp
    · exact decR_01 xs _ y h
theorem valid_of01 {xs : List Int} (h : b01 xs) : validL xs = true := by
  unfold validL; rw [List.all_eq_true]; intro x hx; have := h x hx; simp; omega
theorem dec_enc {xs : List Int} (h : b01 xs) : decL (encL xs) = xs := by rw [encL_R, decL_R]; exact dec_encR xs 0 (.inl rfl) h
theorem enc_dec {xs : List Int} (h : b01 xs) : encL (decL xs) = xs := by rw [encL_R, decL_R]; exact enc_decR xs 0 (.inl rfl) h
theorem enc_valid (xs : List Int) : validL (encL xs) = true := by rw [encL_R]; exact valid_of01 (encR_01 xs 0 (.inl rfl))
theorem dec_valid (xs : List Int) : validL (decL xs) = true := by rw [decL_R]; exact valid_of01 (decR_01 xs 0)
theorem encL_len (xs : List Int) : (encL xs).length = xs.length := encS_len xs
theorem decL_len (xs : List Int) : (decL xs).length = xs.length := decS_len xs
end Go.Proofs.Ytolmhlikmjkkfaa
