/-
  Layer 4 (speeds): costs.
  Conditions: none.
-/
import Derived.Test.YtapbnkbknflggaaSpC
namespace Go.Proofs.Ytapbnkbknflggaa
open Go.RowKit
set_option linter.unusedVariables false
set_option linter.unusedSimpArgs false

set_option maxRecDepth 100000 in
set_option maxHeartbeats 4000000 in
theorem fits_a (k n : Int) : AFun Try.prog 43 [.v (.int .u8 k), .v (.int .i64 n)] (.v (.bool (decide (k ≤ 3 ∧ 0 ≤ n ∧ n ≤ 1024)))) := by
  have hov := tab_nil (P := Try.prog)
  by_cases h1 : k ≤ 3
  · by_cases h2 : 0 ≤ n
    · ((first | refine afun_x ty_mixed hov 60 ?_ | refine aret_x ty_mixed hov 60 ?_); intro r hr; simp (maxSteps := 2000000) (disch := omega) only [push_cast, List.contains_cons, Bool.or_false, Bool.false_or, Bool.true_or, Bool.or_true, rangeN1, rangeN2, rangeN3, List.getElem?_nil, Nat.reduceEqDiff, Nat.reduceLT, Nat.reduceAdd, Nat.reduceSub, Nat.reduceMul, Nat.reduceMod, Nat.reduceDiv, Nat.reduceBEq, Nat.reduceLeDiff, Int.reduceLT, Int.reduceLE, Int.reduceToNat, Int.reduceNeg, Int.reduceEq, reduceCtorEq, decide_true, decide_false, ↓reduceIte, Bool.false_eq_true, Bool.true_eq_false, Option.bind_some, Option.map_some, Option.bind_none, Option.map_none, Option.getD_some, Option.getD_none, Option.isSome_some, Option.isSome_none, List.getElem?_toArray, List.getElem?_cons_zero, List.getElem?_cons_succ, List.map_cons, List.map_nil, List.take_zero, List.take_succ_cons, List.drop_zero, List.drop_succ_cons, List.length_cons, List.length_nil, List.cons_append, List.nil_append, and_self, and_true, true_and, false_and, and_false, true_or, or_true, false_or, or_false, if_true, if_false, not_true_eq_false, not_false_eq_true, ne_eq, Nat.add_zero, Nat.zero_add, Bool.not_true, Bool.not_false, List.isEmpty_nil, List.isEmpty_cons, List.contains_nil, List.filter_nil, List.range_zero, List.all_cons, List.all_nil, Bool.and_true, Bool.and_self, decide_eq_true_eq, w_i64, w_i32, w_u8, w_u16, w_u32, w_u64, eq_self, tdivP, tmodP, List.getElem?_eq_getElem, ↓Int.cast_ofNat_Int, Int.toNat_natCast, Int.reduceAdd, Int.reduceSub, Int.reduceMul, Int.reduceDiv, Int.reduceMod, ileT, ileF, iltT, iltF, ieqT, ieqF, nleT, nleF, nltT, nltF, neqT, neqF, ↓Nat.reduceEqDiff, ↓Nat.reduceLT, ↓Nat.reduceLeDiff, ↓Nat.reduceBEq, ↓Int.reduceLT, ↓Int.reduceLE, ↓Int.reduceEq, h1, h2, Try.ntmps43, Try.results43, (show Try.f43.body = some _ from rfl)] at hr; subst hr)
      simp [h1, h2]
    · ((first | refine afun_x ty_mixed hov 60 ?_ | refine aret_x ty_mixed hov 60 ?_); intro r hr; simp (maxSteps := 2000000) (disch := omega) only [push_cast, List.contains_cons, Bool.or_false, Bool.false_or, Bool.true_or, Bool.or_true, rangeN1, rangeN2, rangeN3, List.getElem?_nil, Nat.reduceEqDiff, Nat.reduceLT, Nat.reduceAdd, Nat.reduceSub, Nat.reduceMul, Nat.reduceMod, Nat.reduceDiv, Nat.reduceBEq, Nat.reduceLeDiff, Int.reduceLT, Int.reduceLE, Int.reduceToNat, Int.reduceNeg, Int.reduceEq, reduceCtorEq, decide_true, decide_false, ↓reduceIte, Bool.false_eq_true, Bool.true_eq_false, Option.bind_some, Option.map_some, Option.bind_none, Option.map_none, Option.getD_some, Option.getD_none, Option.isSome_some, Option.isSome_none, List.getElem?_toArray, List.getElem?_cons_zero, List.getElem?_cons_succ, List.map_cons, List.map_nil, List.take_zero, List.take_succ_cons, List.drop_zero, List.drop_succ_cons, List.length_cons, List.length_nil, List.cons_append, List.nil_append, and_self, and_true, true_and, false_and, and_false, true_or, or_true, false_or, or_false, if_true, if_false, not_true_eq_false, not_false_eq_true, ne_eq, Nat.add_zero, Nat.zero_add, Bool.not_true, Bool.not_false, List.isEmpty_nil, List.isEmpty_cons, List.contains_nil, List.filter_nil, List.range_zero, List.all_cons, List.all_nil, Bool.and_true, Bool.and_self, decide_eq_true_eq, w_i64, w_i32, w_u8, w_u16, w_u32, w_u64, eq_self, tdivP, tmodP, List.getElem?_eq_getElem, ↓Int.cast_ofNat_Int, Int.toNat_natCast, Int.reduceAdd, Int.reduceSub, Int.reduceMul, Int.reduceDiv, Int.reduceMod, ileT, ileF, iltT, iltF, ieqT, ieqF, nleT, nleF, nltT, nltF, neqT, neqF, ↓Nat.reduceEqDiff, ↓Nat.reduceLT, ↓Nat.reduceLeDiff, ↓Nat.reduceBEq, ↓Int.reduceLT, ↓Int.reduceLE, ↓Int.reduceEq, h1, h2, Try.ntmps43, Try.results43, (show Try.f43.body = some _ from rfl)] at hr; subst hr)
      simp [h1, h2]
  · ((first | refine afun_x ty_mixed hov 60 ?_ | refine aret_x ty_mixed hov 60 ?_); intro r hr; simp (maxSteps := 2000000) (disch := omega) only [push_cast, List.contains_cons, Bool.or_false, Bool.false_or, Bool.true_or, Bool.or_true, rangeN1, rangeN2, rangeN3, List.getElem?_nil, Nat.reduceEqDiff, Nat.reduceLT, Nat.reduceAdd, Nat.reduceSub, Nat.reduceMul, Nat.reduceMod, Nat.reduceDiv, Nat.reduceBEq, Nat.reduceLeDiff, Int.reduceLT, Int.reduceLE, Int.reduceToNat, Int.reduceNeg, Int.reduceEq, reduceCtorEq, decide_true, decide_false, ↓reduceIte, Bool.false_eq_true, Bool.true_eq_false, Option.bind_some, Option.map_some, Option.bind_none, Option.map_none, Option.getD_some, Option.getD_none, Option.isSome_some, Option.isSome_none, List.getElem?_toArray, List.getElem?_cons_zero, List.getElem?_cons_succ, List.map_cons, List.map_nil, List.take_zero, List.take_succ_cons, List.drop_zero, List.drop_succ_cons, List.length_cons, List.length_nil, List.cons_append, List.nil_append, and_self, and_true, true_and, false_and, and_false, true_or, or_true, false_or, or_false, if_true, if_false, not_true_eq_false, not_false_eq_true, ne_eq, Nat.add_zero, Nat.zero_add, Bool.not_true, Bool.not_false, List.isEmpty_nil, List.isEmpty_cons, List.contains_nil, List.filter_nil, List.range_zero, List.all_cons, List.all_nil, Bool.and_true, Bool.and_self, decide_eq_true_eq, w_i64, w_i32, w_u8, w_u16, w_u32, w_u64, eq_self, tdivP, tmodP, List.getElem?_eq_getElem, ↓Int.cast_ofNat_Int, Int.toNat_natCast, Int.reduceAdd, Int.reduceSub, Int.reduceMul, Int.reduceDiv, Int.reduceMod, ileT, ileF, iltT, iltF, ieqT, ieqF, nleT, nleF, nltT, nltF, neqT, neqF, ↓Nat.reduceEqDiff, ↓Nat.reduceLT, ↓Nat.reduceLeDiff, ↓Nat.reduceBEq, ↓Int.reduceLT, ↓Int.reduceLE, ↓Int.reduceEq, h1, Try.ntmps43, Try.results43, (show Try.f43.body = some _ from rfl)] at hr; subst hr)
    simp [h1]

def fits_F (us : List AV) : Option (AV × List Blk) := match us with
  | [.d (.v (.int .u8 k)), .d (.v (.int .i64 n))] => if 0 ≤ k then some (.d (.v (.bool (decide (k ≤ 3 ∧ 0 ≤ n ∧ n ≤ 1024)))), []) else none
  | _ => none
theorem fits_t : TellOk Try.prog 43 fits_F := by
  intro us R BS h
  unfold fits_F at h
  split at h
  · rename_i k n
    split at h
    · rename_i hc
      simp only [Option.some.injEq, Prod.mk.injEq] at h
      obtain ⟨rfl, rfl⟩ := h
      exact fits_a k n
    · cases h
  · cases h
attribute [push_cast] fits_F

def costR (k n : Int) : Int := if k = 1 then sumW [3, n + 3] else sumW [3, n + 3] + sumW [1]
def costS (s k n : Int) : Int := if s = 0 then costR k n * 8 else costR k n
def okC (s k n : Int) : Prop := s ≤ 2 ∧ k ≤ 3 ∧ 0 ≤ n ∧ n ≤ 1024
instance (s k n : Int) : Decidable (okC s k n) := by unfold okC; exact inferInstance
theorem sum3 {n : Int} (h : 0 ≤ n ∧ n ≤ 1024) : sumW [3, n + 3] = worstN 3 + worstN (n + 3) + 16 ∧ small [3, n + 3] := by
  refine ⟨by simp [sumW]; omega, small_cons (by omega) (small_cons (by omega) small_nil)⟩
theorem worstN_nums : worstN 1 = 20 ∧ worstN 3 = 39 ∧ worstN 4 = 48 := by decide
theorem sum1 : sumW [1] = 28 ∧ small [1] := ⟨by decide, small_cons (by omega) small_nil⟩

def costV (s k n : Int) : Int := if okC s k n then costS s k n else 0
def errC (s k n : Int) : Int := if okC s k n then 0 else 1
set_option maxRecDepth 100000 in
set_option maxHeartbeats 4000000 in
theorem cost_a (s k n : Int) (hs : 0 ≤ s ∧ 0 ≤ k) : ARet Try.prog 13 [.v (.int .u8 s), .v (.int .u8 k), .v (.int .i64 n)] (.tup [.d (.v (.int .i64 (costV s k n))), .d (.v (.int .i64 (errC s k n)))]) [] := by
  have hov := tab_cons fits_t (tab_cons last_t (tab_nil (P := Try.prog)))
  obtain ⟨hs, hk⟩ := hs
  by_cases h : okC s k n
  · rw [show costV s k n = costS s k n by simp [costV, h], show errC s k n = 0 by simp [errC, h]]
    have h' := h
    obtain ⟨h1, h2, h3, h4⟩ := h'
    have h1' : ¬ 2 < s := by omega
    obtain ⟨e1, e2⟩ := sum3 ⟨h3, h4⟩
    obtain ⟨e3, e4⟩ := sum1
    have hw := worstN_le (n := n + 3) (by omega)
    have hw3 := worstN_nums
    by_cases hk1 : k = 1
    · subst hk1
      by_cases h0 : s = 0
      · subst h0
        ((first | refine afun_x ty_mixed hov 60 ?_ | refine aret_x ty_mixed hov 60 ?_); intro r hr; simp (maxSteps := 2000000) (disch := omega) only [push_cast, List.contains_cons, Bool.or_false, Bool.false_or, Bool.true_or, Bool.or_true, rangeN1, rangeN2, rangeN3, List.getElem?_nil, Nat.reduceEqDiff, Nat.reduceLT, Nat.reduceAdd, Nat.reduceSub, Nat.reduceMul, Nat.reduceMod, Nat.reduceDiv, Nat.reduceBEq, Nat.reduceLeDiff, Int.reduceLT, Int.reduceLE, Int.reduceToNat, Int.reduceNeg, Int.reduceEq, reduceCtorEq, decide_true, decide_false, ↓reduceIte, Bool.false_eq_true, Bool.true_eq_false, Option.bind_some, Option.map_some, Option.bind_none, Option.map_none, Option.getD_some, Option.getD_none, Option.isSome_some, Option.isSome_none, List.getElem?_toArray, List.getElem?_cons_zero, List.getElem?_cons_succ, List.map_cons, List.map_nil, List.take_zero, List.take_succ_cons, List.drop_zero, List.drop_succ_cons, List.length_cons, List.length_nil, List.cons_append, List.nil_append, and_self, and_true, true_and, false_and, and_false, true_or, or_true, false_or, or_false, if_true, if_false, not_true_eq_false, not_false_eq_true, ne_eq, Nat.add_zero, Nat.zero_add, Bool.not_true, Bool.not_false, List.isEmpty_nil, List.isEmpty_cons, List.contains_nil, List.filter_nil, List.range_zero, List.all_cons, List.all_nil, Bool.and_true, Bool.and_self, decide_eq_true_eq, w_i64, w_i32, w_u8, w_u16, w_u32, w_u64, eq_self, tdivP, tmodP, List.getElem?_eq_getElem, ↓Int.cast_ofNat_Int, Int.toNat_natCast, Int.reduceAdd, Int.reduceSub, Int.reduceMul, Int.reduceDiv, Int.reduceMod, ileT, ileF, iltT, iltF, ieqT, ieqF, nleT, nleF, nltT, nltF, neqT, neqF, ↓Nat.reduceEqDiff, ↓Nat.reduceLT, ↓Nat.reduceLeDiff, ↓Nat.reduceBEq, ↓Int.reduceLT, ↓Int.reduceLE, ↓Int.reduceEq, h1, h2, h3, h4, e2, e4, Try.ntmps13, Try.results13, (show Try.f13.body = some _ from rfl)] at hr; subst hr)
        rfl
      · ((first | refine afun_x ty_mixed hov 60 ?_ | refine aret_x ty_mixed hov 60 ?_); intro r hr; simp (maxSteps := 2000000) (disch := omega) only [push_cast, List.contains_cons, Bool.or_false, Bool.false_or, Bool.true_or, Bool.or_true, rangeN1, rangeN2, rangeN3, List.getElem?_nil, Nat.reduceEqDiff, Nat.reduceLT, Nat.reduceAdd, Nat.reduceSub, Nat.reduceMul, Nat.reduceMod, Nat.reduceDiv, Nat.reduceBEq, Nat.reduceLeDiff, Int.reduceLT, Int.reduceLE, Int.reduceToNat, Int.reduceNeg, Int.reduceEq, reduceCtorEq, decide_true, decide_false, ↓reduceIte, Bool.false_eq_true, Bool.true_eq_false, Option.bind_some, Option.map_some, Option.bind_none, Option.map_none, Option.getD_some, Option.getD_none, Option.isSome_some, Option.isSome_none, List.getElem?_toArray, List.getElem?_cons_zero, List.getElem?_cons_succ, List.map_cons, List.map_nil, List.take_zero, List.take_succ_cons, List.drop_zero, List.drop_succ_cons, List.length_cons, List.length_nil, List.cons_append, List.nil_append, and_self, and_true, true_and, false_and, and_false, true_or, or_true, false_or, or_false, if_true, if_false, not_true_eq_false, not_false_eq_true, ne_eq, Nat.add_zero, Nat.zero_add, Bool.not_true, Bool.not_false, List.isEmpty_nil, List.isEmpty_cons, List.contains_nil, List.filter_nil, List.range_zero, List.all_cons, List.all_nil, Bool.and_true, Bool.and_self, decide_eq_true_eq, w_i64, w_i32, w_u8, w_u16, w_u32, w_u64, eq_self, tdivP, tmodP, List.getElem?_eq_getElem, ↓Int.cast_ofNat_Int, Int.toNat_natCast, Int.reduceAdd, Int.reduceSub, Int.reduceMul, Int.reduceDiv, Int.reduceMod, ileT, ileF, iltT, iltF, ieqT, ieqF, nleT, nleF, nltT, nltF, neqT, neqF, ↓Nat.reduceEqDiff, ↓Nat.reduceLT, ↓Nat.reduceLeDiff, ↓Nat.reduceBEq, ↓Int.reduceLT, ↓Int.reduceLE, ↓Int.reduceEq, h0, h1', h1, h2, h3, h4, e2, e4, Try.ntmps13, Try.results13, (show Try.f13.body = some _ from rfl)] at hr; subst hr)
        simp [costS, costR, h0]
    · by_cases h0 : s = 0
      · subst h0
        ((first | refine afun_x ty_mixed hov 60 ?_ | refine aret_x ty_mixed hov 60 ?_); intro r hr; simp (maxSteps := 2000000) (disch := omega) only [push_cast, List.contains_cons, Bool.or_false, Bool.false_or, Bool.true_or, Bool.or_true, rangeN1, rangeN2, rangeN3, List.getElem?_nil, Nat.reduceEqDiff, Nat.reduceLT, Nat.reduceAdd, Nat.reduceSub, Nat.reduceMul, Nat.reduceMod, Nat.reduceDiv, Nat.reduceBEq, Nat.reduceLeDiff, Int.reduceLT, Int.reduceLE, Int.reduceToNat, Int.reduceNeg, Int.reduceEq, reduceCtorEq, decide_true, decide_false, ↓reduceIte, Bool.false_eq_true, Bool.true_eq_false, Option.bind_some, Option.map_some, Option.bind_none, Option.map_none, Option.getD_some, Option.getD_none, Option.isSome_some, Option.isSome_none, List.getElem?_toArray, List.getElem?_cons_zero, List.getElem?_cons_succ, List.map_cons, List.map_nil, List.take_zero, List.take_succ_cons, List.drop_zero, List.drop_succ_cons, List.length_cons, List.length_nil, List.cons_append, List.nil_append, and_self, and_true, true_and, false_and, and_false, true_or, or_true, false_or, or_false, if_true, if_false, not_true_eq_false, not_false_eq_true, ne_eq, Nat.add_zero, Nat.zero_add, Bool.not_true, Bool.not_false, List.isEmpty_nil, List.isEmpty_cons, List.contains_nil, List.filter_nil, List.range_zero, List.all_cons, List.all_nil, Bool.and_true, Bool.and_self, decide_eq_true_eq, w_i64, w_i32, w_u8, w_u16, w_u32, w_u64, eq_self, tdivP, tmodP, List.getElem?_eq_getElem, ↓Int.cast_ofNat_Int, Int.toNat_natCast, Int.reduceAdd, Int.reduceSub, Int.reduceMul, Int.reduceDiv, Int.reduceMod, ileT, ileF, iltT, iltF, ieqT, ieqF, nleT, nleF, nltT, nltF, neqT, neqF, ↓Nat.reduceEqDiff, ↓Nat.reduceLT, ↓Nat.reduceLeDiff, ↓Nat.reduceBEq, ↓Int.reduceLT, ↓Int.reduceLE, ↓Int.reduceEq, hk1, h1, h2, h3, h4, e2, e4, Try.ntmps13, Try.results13, (show Try.f13.body = some _ from rfl)] at hr; subst hr)
        simp [costS, costR, hk1]
      · ((first | refine afun_x ty_mixed hov 60 ?_ | refine aret_x ty_mixed hov 60 ?_); intro r hr; simp (maxSteps := 2000000) (disch := omega) only [push_cast, List.contains_cons, Bool.or_false, Bool.false_or, Bool.true_or, Bool.or_true, rangeN1, rangeN2, rangeN3, List.getElem?_nil, Nat.reduceEqDiff, Nat.reduceLT, Nat.reduceAdd, Nat.reduceSub, Nat.reduceMul, Nat.reduceMod, Nat.reduceDiv, Nat.reduceBEq, Nat.reduceLeDiff, Int.reduceLT, Int.reduceLE, Int.reduceToNat, Int.reduceNeg, Int.reduceEq, reduceCtorEq, decide_true, decide_false, ↓reduceIte, Bool.false_eq_true, Bool.true_eq_false, Option.bind_some, Option.map_some, Option.bind_none, Option.map_none, Option.getD_some, Option.getD_none, Option.isSome_some, Option.isSome_none, List.getElem?_toArray, List.getElem?_cons_zero, List.getElem?_cons_succ, List.map_cons, List.map_nil, List.take_zero, List.take_succ_cons, List.drop_zero, List.drop_succ_cons, List.length_cons, List.length_nil, List.cons_append, List.nil_append, and_self, and_true, true_and, false_and, and_false, true_or, or_true, false_or, or_false, if_true, if_false, not_true_eq_false, not_false_eq_true, ne_eq, Nat.add_zero, Nat.zero_add, Bool.not_true, Bool.not_false, List.isEmpty_nil, List.isEmpty_cons, List.contains_nil, List.filter_nil, List.range_zero, List.all_cons, List.all_nil, Bool.and_true, Bool.and_self, decide_eq_true_eq, w_i64, w_i32, w_u8, w_u16, w_u32, w_u64, eq_self, tdivP, tmodP, List.getElem?_eq_getElem, ↓Int.cast_ofNat_Int, Int.toNat_natCast, Int.reduceAdd, Int.reduceSub, Int.reduceMul, Int.reduceDiv, Int.reduceMod, ileT, ileF, iltT, iltF, ieqT, ieqF, nleT, nleF, nltT, nltF, neqT, neqF, ↓Nat.reduceEqDiff, ↓Nat.reduceLT, ↓Nat.reduceLeDiff, ↓Nat.reduceBEq, ↓Int.reduceLT, ↓Int.reduceLE, ↓Int.reduceEq, h0, h1', hk1, h1, h2, h3, h4, e2, e4, Try.ntmps13, Try.results13, (show Try.f13.body = some _ from rfl)] at hr; subst hr)
        simp [costS, costR, hk1, h0]
  · rw [show costV s k n = 0 by simp [costV, h], show errC s k n = 1 by simp [errC, h]]
    unfold okC at h
    by_cases h1 : 2 < s
    · ((first | refine afun_x ty_mixed hov 60 ?_ | refine aret_x ty_mixed hov 60 ?_); intro r hr; simp (maxSteps := 2000000) (disch := omega) only [push_cast, List.contains_cons, Bool.or_false, Bool.false_or, Bool.true_or, Bool.or_true, rangeN1, rangeN2, rangeN3, List.getElem?_nil, Nat.reduceEqDiff, Nat.reduceLT, Nat.reduceAdd, Nat.reduceSub, Nat.reduceMul, Nat.reduceMod, Nat.reduceDiv, Nat.reduceBEq, Nat.reduceLeDiff, Int.reduceLT, Int.reduceLE, Int.reduceToNat, Int.reduceNeg, Int.reduceEq, reduceCtorEq, decide_true, decide_false, ↓reduceIte, Bool.false_eq_true, Bool.true_eq_false, Option.bind_some, Option.map_some, Option.bind_none, Option.map_none, Option.getD_some, Option.getD_none, Option.isSome_some, Option.isSome_none, List.getElem?_toArray, List.getElem?_cons_zero, List.getElem?_cons_succ, List.map_cons, List.map_nil, List.take_zero, List.take_succ_cons, List.drop_zero, List.drop_succ_cons, List.length_cons, List.length_nil, List.cons_append, List.nil_append, and_self, and_true, true_and, false_and, and_false, true_or, or_true, false_or, or_false, if_true, if_false, not_true_eq_false, not_false_eq_true, ne_eq, Nat.add_zero, Nat.zero_add, Bool.not_true, Bool.not_false, List.isEmpty_nil, List.isEmpty_cons, List.contains_nil, List.filter_nil, List.range_zero, List.all_cons, List.all_nil, Bool.and_true, Bool.and_self, decide_eq_true_eq, w_i64, w_i32, w_u8, w_u16, w_u32, w_u64, eq_self, tdivP, tmodP, List.getElem?_eq_getElem, ↓Int.cast_ofNat_Int, Int.toNat_natCast, Int.reduceAdd, Int.reduceSub, Int.reduceMul, Int.reduceDiv, Int.reduceMod, ileT, ileF, iltT, iltF, ieqT, ieqF, nleT, nleF, nltT, nltF, neqT, neqF, ↓Nat.reduceEqDiff, ↓Nat.reduceLT, ↓Nat.reduceLeDiff, ↓Nat.reduceBEq, ↓Int.reduceLT, ↓Int.reduceLE, ↓Int.reduceEq, h1, Try.ntmps13, Try.results13, (show Try.f13.body = some _ from rfl)] at hr; subst hr)
      rfl
    · have h2 : (k ≤ 3 ∧ 0 ≤ n ∧ n ≤ 1024) = False := by simp; omega
      ((first | refine afun_x ty_mixed hov 60 ?_ | refine aret_x ty_mixed hov 60 ?_); intro r hr; simp (maxSteps := 2000000) (disch := omega) only [push_cast, List.contains_cons, Bool.or_false, Bool.false_or, Bool.true_or, Bool.or_true, rangeN1, rangeN2, rangeN3, List.getElem?_nil, Nat.reduceEqDiff, Nat.reduceLT, Nat.reduceAdd, Nat.reduceSub, Nat.reduceMul, Nat.reduceMod, Nat.reduceDiv, Nat.reduceBEq, Nat.reduceLeDiff, Int.reduceLT, Int.reduceLE, Int.reduceToNat, Int.reduceNeg, Int.reduceEq, reduceCtorEq, decide_true, decide_false, ↓reduceIte, Bool.false_eq_true, Bool.true_eq_false, Option.bind_some, Option.map_some, Option.bind_none, Option.map_none, Option.getD_some, Option.getD_none, Option.isSome_some, Option.isSome_none, List.getElem?_toArray, List.getElem?_cons_zero, List.getElem?_cons_succ, List.map_cons, List.map_nil, List.take_zero, List.take_succ_cons, List.drop_zero, List.drop_succ_cons, List.length_cons, List.length_nil, List.cons_append, List.nil_append, and_self, and_true, true_and, false_and, and_false, true_or, or_true, false_or, or_false, if_true, if_false, not_true_eq_false, not_false_eq_true, ne_eq, Nat.add_zero, Nat.zero_add, Bool.not_true, Bool.not_false, List.isEmpty_nil, List.isEmpty_cons, List.contains_nil, List.filter_nil, List.range_zero, List.all_cons, List.all_nil, Bool.and_true, Bool.and_self, decide_eq_true_eq, w_i64, w_i32, w_u8, w_u16, w_u32, w_u64, eq_self, tdivP, tmodP, List.getElem?_eq_getElem, ↓Int.cast_ofNat_Int, Int.toNat_natCast, Int.reduceAdd, Int.reduceSub, Int.reduceMul, Int.reduceDiv, Int.reduceMod, ileT, ileF, iltT, iltF, ieqT, ieqF, nleT, nleF, nltT, nltF, neqT, neqF, ↓Nat.reduceEqDiff, ↓Nat.reduceLT, ↓Nat.reduceLeDiff, ↓Nat.reduceBEq, ↓Int.reduceLT, ↓Int.reduceLE, ↓Int.reduceEq, h1, h2, Try.ntmps13, Try.results13, (show Try.f13.body = some _ from rfl)] at hr; subst hr)
      rfl

def cost_F (us : List AV) : Option (AV × List Blk) := match us with
  | [.d (.v (.int .u8 s)), .d (.v (.int .u8 k)), .d (.v (.int .i64 n))] => if 0 ≤ s ∧ 0 ≤ k then some (.tup [.d (.v (.int .i64 (costV s k n))), .d (.v (.int .i64 (errC s k n)))], []) else none
  | _ => none
theorem cost_t : TellOk Try.prog 13 cost_F := by
  intro us R BS h
  unfold cost_F at h
  split at h
  · rename_i s k n
    split at h
    · rename_i hc
      simp only [Option.some.injEq, Prod.mk.injEq] at h
      obtain ⟨rfl, rfl⟩ := h
      exact cost_a s k n hc
    · cases h
  · cases h
attribute [push_cast] cost_F

theorem sum31 {n : Int} (h : 0 ≤ n ∧ n ≤ 1024) : sumW [3, n + 3, 1] = sumW [3, n + 3] + sumW [1] ∧ small [3, n + 3, 1] := by
  refine ⟨by simp [sumW], small_cons (by omega) (small_cons (by omega) (small_cons (by omega) small_nil))⟩

set_option maxRecDepth 100000 in
set_option maxHeartbeats 4000000 in
theorem refCost_a (s k n : Int) (h : okC s k n) : AFun Try.prog 14 [.v (.int .i64 s), .v (.int .i64 k), .v (.int .i64 n)] (.v (.int .i64 (costS s k n))) := by
  have hov := tab_cons refSum_t (tab_nil (P := Try.prog))
  obtain ⟨h1, h2, h3, h4⟩ := h
  obtain ⟨e1, e2⟩ := sum3 ⟨h3, h4⟩
  obtain ⟨e3, e4⟩ := sum31 ⟨h3, h4⟩
  have e5 := sum1.1
  have hw := worstN_le (n := n + 3) (by omega)
  have hw3 := worstN_nums
  by_cases hk1 : k = 1
  · subst hk1
    by_cases h0 : s = 0
    · subst h0
      ((first | refine afun_x ty_mixed hov 60 ?_ | refine aret_x ty_mixed hov 60 ?_); intro r hr; simp (maxSteps := 2000000) (disch := omega) only [push_cast, List.contains_cons, Bool.or_false, Bool.false_or, Bool.true_or, Bool.or_true, rangeN1, rangeN2, rangeN3, List.getElem?_nil, Nat.reduceEqDiff, Nat.reduceLT, Nat.reduceAdd, Nat.reduceSub, Nat.reduceMul, Nat.reduceMod, Nat.reduceDiv, Nat.reduceBEq, Nat.reduceLeDiff, Int.reduceLT, Int.reduceLE, Int.reduceToNat, Int.reduceNeg, Int.reduceEq, reduceCtorEq, decide_true, decide_false, ↓reduceIte, Bool.false_eq_true, Bool.true_eq_false, Option.bind_some, Option.map_some, Option.bind_none, Option.map_none, Option.getD_some, Option.getD_none, Option.isSome_some, Option.isSome_none, List.getElem?_toArray, List.getElem?_cons_zero, List.getElem?_cons_succ, List.map_cons, List.map_nil, List.take_zero, List.take_succ_cons, List.drop_zero, List.drop_succ_cons, List.length_cons, List.length_nil, List.cons_append, List.nil_append, and_self, and_true, true_and, false_and, and_false, true_or, or_true, false_or, or_false, if_true, if_false, not_true_eq_false, not_false_eq_true, ne_eq, Nat.add_zero, Nat.zero_add, Bool.not_true, Bool.not_false, List.isEmpty_nil, List.isEmpty_cons, List.contains_nil, List.filter_nil, List.range_zero, List.all_cons, List.all_nil, Bool.and_true, Bool.and_self, decide_eq_true_eq, w_i64, w_i32, w_u8, w_u16, w_u32, w_u64, eq_self, tdivP, tmodP, List.getElem?_eq_getElem, ↓Int.cast_ofNat_Int, Int.toNat_natCast, Int.reduceAdd, Int.reduceSub, Int.reduceMul, Int.reduceDiv, Int.reduceMod, ileT, ileF, iltT, iltF, ieqT, ieqF, nleT, nleF, nltT, nltF, neqT, neqF, ↓Nat.reduceEqDiff, ↓Nat.reduceLT, ↓Nat.reduceLeDiff, ↓Nat.reduceBEq, ↓Int.reduceLT, ↓Int.reduceLE, ↓Int.reduceEq, h1, h2, h3, h4, e2, e4, Try.ntmps14, Try.results14, (show Try.f14.body = some _ from rfl)] at hr; subst hr)
      simp [costS, costR]
      try omega
    · ((first | refine afun_x ty_mixed hov 60 ?_ | refine aret_x ty_mixed hov 60 ?_); intro r hr; simp (maxSteps := 2000000) (disch := omega) only [push_cast, List.contains_cons, Bool.or_false, Bool.false_or, Bool.true_or, Bool.or_true, rangeN1, rangeN2, rangeN3, List.getElem?_nil, Nat.reduceEqDiff, Nat.reduceLT, Nat.reduceAdd, Nat.reduceSub, Nat.reduceMul, Nat.reduceMod, Nat.reduceDiv, Nat.reduceBEq, Nat.reduceLeDiff, Int.reduceLT, Int.reduceLE, Int.reduceToNat, Int.reduceNeg, Int.reduceEq, reduceCtorEq, decide_true, decide_false, ↓reduceIte, Bool.false_eq_true, Bool.true_eq_false, Option.bind_some, Option.map_some, Option.bind_none, Option.map_none, Option.getD_some, Option.getD_none, Option.isSome_some, Option.isSome_none, List.getElem?_toArray, List.getElem?_cons_zero, List.getElem?_cons_succ, List.map_cons, List.map_nil, List.take_zero, List.take_succ_cons, List.drop_zero, List.drop_succ_cons, List.length_cons, List.length_nil, List.cons_append, List.nil_append, and_self, and_true, true_and, false_and, and_false, true_or, or_true, false_or, or_false, if_true, if_false, not_true_eq_false, not_false_eq_true, ne_eq, Nat.add_zero, Nat.zero_add, Bool.not_true, Bool.not_false, List.isEmpty_nil, List.isEmpty_cons, List.contains_nil, List.filter_nil, List.range_zero, List.all_cons, List.all_nil, Bool.and_true, Bool.and_self, decide_eq_true_eq, w_i64, w_i32, w_u8, w_u16, w_u32, w_u64, eq_self, tdivP, tmodP, List.getElem?_eq_getElem, ↓Int.cast_ofNat_Int, Int.toNat_natCast, Int.reduceAdd, Int.reduceSub, Int.reduceMul, Int.reduceDiv, Int.reduceMod, ileT, ileF, iltT, iltF, ieqT, ieqF, nleT, nleF, nltT, nltF, neqT, neqF, ↓Nat.reduceEqDiff, ↓Nat.reduceLT, ↓Nat.reduceLeDiff, ↓Nat.reduceBEq, ↓Int.reduceLT, ↓Int.reduceLE, ↓Int.reduceEq, h0, h1, h2, h3, h4, e2, e4, Try.ntmps14, Try.results14, (show Try.f14.body = some _ from rfl)] at hr; subst hr)
      simp [costS, costR, h0]
  · by_cases h0 : s = 0
    · subst h0
      ((first | refine afun_x ty_mixed hov 60 ?_ | refine aret_x ty_mixed hov 60 ?_); intro r hr; simp (maxSteps := 2000000) (disch := omega) only [push_cast, List.contains_cons, Bool.or_false, Bool.false_or, Bool.true_or, Bool.or_true, rangeN1, rangeN2, rangeN3, List.getElem?_nil, Nat.reduceEqDiff, Nat.reduceLT, Nat.reduceAdd, Nat.reduceSub, Nat.reduceMul, Nat.reduceMod, Nat.reduceDiv, Nat.reduceBEq, Nat.reduceLeDiff, Int.reduceLT, Int.reduceLE, Int.reduceToNat, Int.reduceNeg, Int.reduceEq, reduceCtorEq, decide_true, decide_false, ↓reduceIte, Bool.false_eq_true, Bool.true_eq_false, Option.bind_some, Option.map_some, Option.bind_none, Option.map_none, Option.getD_some, Option.getD_none, Option.isSome_some, Option.isSome_none, List.getElem?_toArray, List.getElem?_cons_zero, List.getElem?_cons_succ, List.map_cons, List.map_nil, List.take_zero, List.take_succ_cons, List.drop_zero, List.drop_succ_cons, List.length_cons, List.length_nil, List.cons_append, List.nil_append, and_self, and_true, true_and, false_and, and_false, true_or, or_true, false_or, or_false, if_true, if_false, not_true_eq_false, not_false_eq_true, ne_eq, Nat.add_zero, Nat.zero_add, Bool.not_true, Bool.not_false, List.isEmpty_nil, List.isEmpty_cons, List.contains_nil, List.filter_nil, List.range_zero, List.all_cons, List.all_nil, Bool.and_true, Bool.and_self, decide_eq_true_eq, w_i64, w_i32, w_u8, w_u16, w_u32, w_u64, eq_self, tdivP, tmodP, List.getElem?_eq_getElem, ↓Int.cast_ofNat_Int, Int.toNat_natCast, Int.reduceAdd, Int.reduceSub, Int.reduceMul, Int.reduceDiv, Int.reduceMod, ileT, ileF, iltT, iltF, ieqT, ieqF, nleT, nleF, nltT, nltF, neqT, neqF, ↓Nat.reduceEqDiff, ↓Nat.reduceLT, ↓Nat.reduceLeDiff, ↓Nat.reduceBEq, ↓Int.reduceLT, ↓Int.reduceLE, ↓Int.reduceEq, hk1, h1, h2, h3, h4, e2, e4, Try.ntmps14, Try.results14, (show Try.f14.body = some _ from rfl)] at hr; subst hr)
      simp [costS, costR, hk1]
      try omega
    · ((first | refine afun_x ty_mixed hov 60 ?_ | refine aret_x ty_mixed hov 60 ?_); intro r hr; simp (maxSteps := 2000000) (disch := omega) only [push_cast, List.contains_cons, Bool.or_false, Bool.false_or, Bool.true_or, Bool.or_true, rangeN1, rangeN2, rangeN3, List.getElem?_nil, Nat.reduceEqDiff, Nat.reduceLT, Nat.reduceAdd, Nat.reduceSub, Nat.reduceMul, Nat.reduceMod, Nat.reduceDiv, Nat.reduceBEq, Nat.reduceLeDiff, Int.reduceLT, Int.reduceLE, Int.reduceToNat, Int.reduceNeg, Int.reduceEq, reduceCtorEq, decide_true, decide_false, ↓reduceIte, Bool.false_eq_true, Bool.true_eq_false, Option.bind_some, Option.map_some, Option.bind_none, Option.map_none, Option.getD_some, Option.getD_none, Option.isSome_some, Option.isSome_none, List.getElem?_toArray, List.getElem?_cons_zero, List.getElem?_cons_succ, List.map_cons, List.map_nil, List.take_zero, List.take_succ_cons, List.drop_zero, List.drop_succ_cons, List.length_cons, List.length_nil, List.cons_append, List.nil_append, and_self, and_true, true_and, false_and, and_false, true_or, or_true, false_or, or_false, if_true, if_false, not_true_eq_false, not_false_eq_true, ne_eq, Nat.add_zero, Nat.zero_add, Bool.not_true, Bool.not_false, List.isEmpty_nil, List.isEmpty_cons, List.contains_nil, List.filter_nil, List.range_zero, List.all_cons, List.all_nil, Bool.and_true, Bool.and_self, decide_eq_true_eq, w_i64, w_i32, w_u8, w_u16, w_u32, w_u64, eq_self, tdivP, tmodP, List.getElem?_eq_getElem, ↓Int.cast_ofNat_Int, Int.toNat_natCast, Int.reduceAdd, Int.reduceSub, Int.reduceMul, Int.reduceDiv, Int.reduceMod, ileT, ileF, iltT, iltF, ieqT, ieqF, nleT, nleF, nltT, nltF, neqT, neqF, ↓Nat.reduceEqDiff, ↓Nat.reduceLT, ↓Nat.reduceLeDiff, ↓Nat.reduceBEq, ↓Int.reduceLT, ↓Int.reduceLE, ↓Int.reduceEq, h0, hk1, h1, h2, h3, h4, e2, e4, Try.ntmps14, Try.results14, (show Try.f14.body = some _ from rfl)] at hr; subst hr)
      simp [costS, costR, hk1, h0]
      try omega

def refCost_F (us : List AV) : Option (AV × List Blk) := match us with
  | [.d (.v (.int .i64 s)), .d (.v (.int .i64 k)), .d (.v (.int .i64 n))] => if okC s k n then some (.d (.v (.int .i64 (costS s k n))), []) else none
  | _ => none
theorem refCost_t : TellOk Try.prog 14 refCost_F := by
  intro us R BS h
  unfold refCost_F at h
  split at h
  · rename_i s k n
    split at h
    · rename_i hc
      simp only [Option.some.injEq, Prod.mk.injEq] at h
      obtain ⟨rfl, rfl⟩ := h
      exact refCost_a s k n hc
    · cases h
  · cases h
attribute [push_cast] refCost_F
end Go.Proofs.Ytapbnkbknflggaa
