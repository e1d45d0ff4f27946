/-
  Layer 4 (speeds): the statements SpeedsSplits, SpeedsCost and SpeedsMost.
  Conditions: none.
-/
import Derived.Test.YtapbnkbknflggaaSpD
namespace Go.Proofs.Ytapbnkbknflggaa
open Go.RowKit
set_option linter.unusedVariables false
set_option linter.unusedSimpArgs false

theorem small_iff (x : Int) (l : List Int) : small (x :: l) = ((0 ≤ x ∧ x ≤ 2000) ∧ small l) := by
  apply propext
  constructor
  · intro h; exact ⟨h x (by simp), fun y hy => h y (by simp [hy])⟩
  · rintro ⟨h1, h2⟩; exact small_cons h1 h2
theorem small_nilT : small [] = True := eq_true small_nil

def startL (k n : Int) (b : Bool) : List Int := [4, 3] ++ (if b then [] else [n + 3]) ++ (if k = 0 ∨ k = 2 then [1] else [])
def compL (k n : Int) (b : Bool) : List Int := [4, 3] ++ (if b then [n + 3] else []) ++ (if k = 1 then [] else [1])
def ok3 (k n : Int) : Prop := k ≤ 3 ∧ 0 ≤ n ∧ n ≤ 1024
instance (k n : Int) : Decidable (ok3 k n) := by unfold ok3; exact inferInstance
theorem k4 {k : Int} (h0 : 0 ≤ k) (h : k ≤ 3) : k = 0 ∨ k = 1 ∨ k = 2 ∨ k = 3 := by omega
def startV (k n : Int) (b : Bool) : Int := if ok3 k n then sumW (startL k n b) else 0
def startE (k n : Int) : Int := if ok3 k n then 0 else 1
def compOk (k n : Int) (b : Bool) : Prop := ok3 k n ∧ (k = 1 → b = true)
instance (k n : Int) (b : Bool) : Decidable (compOk k n b) := by unfold compOk; exact inferInstance
def compV (k n : Int) (b : Bool) : Int := if compOk k n b then sumW (compL k n b) else 0
def compE (k n : Int) (b : Bool) : Int := if compOk k n b then 0 else 1

set_option maxRecDepth 100000 in
set_option maxHeartbeats 8000000 in
theorem start_a (k n : Int) (b : Bool) (hk : 0 ≤ k) : ARet Try.prog 16 [.v (.int .u8 k), .v (.bool b), .v (.int .i64 n)] (.tup [.d (.v (.int .i64 (startV k n b))), .d (.v (.int .i64 (startE k n)))]) [] := by
  have hov := tab_cons fits_t (tab_cons last_t (tab_nil (P := Try.prog)))
  by_cases h : ok3 k n
  · rw [startV, if_pos h, startE, if_pos h]
    obtain ⟨h2, h3, h4⟩ := h
    obtain rfl | rfl | rfl | rfl := k4 hk h2
    all_goals
      cases b
      all_goals
        ((first | refine afun_x ty_mixed hov 60 ?_ | refine aret_x ty_mixed hov 60 ?_); intro r hr; simp (maxSteps := 2000000) (disch := omega) only [push_cast, List.contains_cons, Bool.or_false, Bool.false_or, Bool.true_or, Bool.or_true, rangeN1, rangeN2, rangeN3, List.getElem?_nil, Nat.reduceEqDiff, Nat.reduceLT, Nat.reduceAdd, Nat.reduceSub, Nat.reduceMul, Nat.reduceMod, Nat.reduceDiv, Nat.reduceBEq, Nat.reduceLeDiff, Int.reduceLT, Int.reduceLE, Int.reduceToNat, Int.reduceNeg, Int.reduceEq, reduceCtorEq, decide_true, decide_false, ↓reduceIte, Bool.false_eq_true, Bool.true_eq_false, Option.bind_some, Option.map_some, Option.bind_none, Option.map_none, Option.getD_some, Option.getD_none, Option.isSome_some, Option.isSome_none, List.getElem?_toArray, List.getElem?_cons_zero, List.getElem?_cons_succ, List.map_cons, List.map_nil, List.take_zero, List.take_succ_cons, List.drop_zero, List.drop_succ_cons, List.length_cons, List.length_nil, List.cons_append, List.nil_append, and_self, and_true, true_and, false_and, and_false, true_or, or_true, false_or, or_false, if_true, if_false, not_true_eq_false, not_false_eq_true, ne_eq, Nat.add_zero, Nat.zero_add, Bool.not_true, Bool.not_false, List.isEmpty_nil, List.isEmpty_cons, List.contains_nil, List.filter_nil, List.range_zero, List.all_cons, List.all_nil, Bool.and_true, Bool.and_self, decide_eq_true_eq, w_i64, w_i32, w_u8, w_u16, w_u32, w_u64, eq_self, tdivP, tmodP, List.getElem?_eq_getElem, ↓Int.cast_ofNat_Int, Int.toNat_natCast, Int.reduceAdd, Int.reduceSub, Int.reduceMul, Int.reduceDiv, Int.reduceMod, ileT, ileF, iltT, iltF, ieqT, ieqF, nleT, nleF, nltT, nltF, neqT, neqF, ↓Nat.reduceEqDiff, ↓Nat.reduceLT, ↓Nat.reduceLeDiff, ↓Nat.reduceBEq, ↓Int.reduceLT, ↓Int.reduceLE, ↓Int.reduceEq, small_iff, small_nilT, Try.ntmps16, Try.results16, (show Try.f16.body = some _ from rfl), Try.ntmps46, Try.results46, (show Try.f46.body = some _ from rfl), Try.ntmps47, Try.results47, (show Try.f47.body = some _ from rfl), Try.ntmps64, Try.results64, (show Try.f64.body = some _ from rfl)] at hr; subst hr)
        simp [startL]
  · rw [startV, if_neg h, startE, if_neg h]
    have h2 : (k ≤ 3 ∧ 0 ≤ n ∧ n ≤ 1024) = False := eq_false h
    ((first | refine afun_x ty_mixed hov 60 ?_ | refine aret_x ty_mixed hov 60 ?_); intro r hr; simp (maxSteps := 2000000) (disch := omega) only [push_cast, List.contains_cons, Bool.or_false, Bool.false_or, Bool.true_or, Bool.or_true, rangeN1, rangeN2, rangeN3, List.getElem?_nil, Nat.reduceEqDiff, Nat.reduceLT, Nat.reduceAdd, Nat.reduceSub, Nat.reduceMul, Nat.reduceMod, Nat.reduceDiv, Nat.reduceBEq, Nat.reduceLeDiff, Int.reduceLT, Int.reduceLE, Int.reduceToNat, Int.reduceNeg, Int.reduceEq, reduceCtorEq, decide_true, decide_false, ↓reduceIte, Bool.false_eq_true, Bool.true_eq_false, Option.bind_some, Option.map_some, Option.bind_none, Option.map_none, Option.getD_some, Option.getD_none, Option.isSome_some, Option.isSome_none, List.getElem?_toArray, List.getElem?_cons_zero, List.getElem?_cons_succ, List.map_cons, List.map_nil, List.take_zero, List.take_succ_cons, List.drop_zero, List.drop_succ_cons, List.length_cons, List.length_nil, List.cons_append, List.nil_append, and_self, and_true, true_and, false_and, and_false, true_or, or_true, false_or, or_false, if_true, if_false, not_true_eq_false, not_false_eq_true, ne_eq, Nat.add_zero, Nat.zero_add, Bool.not_true, Bool.not_false, List.isEmpty_nil, List.isEmpty_cons, List.contains_nil, List.filter_nil, List.range_zero, List.all_cons, List.all_nil, Bool.and_true, Bool.and_self, decide_eq_true_eq, w_i64, w_i32, w_u8, w_u16, w_u32, w_u64, eq_self, tdivP, tmodP, List.getElem?_eq_getElem, ↓Int.cast_ofNat_Int, Int.toNat_natCast, Int.reduceAdd, Int.reduceSub, Int.reduceMul, Int.reduceDiv, Int.reduceMod, ileT, ileF, iltT, iltF, ieqT, ieqF, nleT, nleF, nltT, nltF, neqT, neqF, ↓Nat.reduceEqDiff, ↓Nat.reduceLT, ↓Nat.reduceLeDiff, ↓Nat.reduceBEq, ↓Int.reduceLT, ↓Int.reduceLE, ↓Int.reduceEq, h2, Try.ntmps16, Try.results16, (show Try.f16.body = some _ from rfl)] at hr; subst hr)
    rfl

def start_F (us : List AV) : Option (AV × List Blk) := match us with
  | [.d (.v (.int .u8 k)), .d (.v (.bool b)), .d (.v (.int .i64 n))] => if 0 ≤ k then some (.tup [.d (.v (.int .i64 (startV k n b))), .d (.v (.int .i64 (startE k n)))], []) else none
  | _ => none
theorem start_t : TellOk Try.prog 16 start_F := by
  intro us R BS h
  unfold start_F at h
  split at h
  · rename_i k b n
    split at h
    · rename_i hc
      simp only [Option.some.injEq, Prod.mk.injEq] at h
      obtain ⟨rfl, rfl⟩ := h
      exact start_a k n b hc
    · cases h
  · cases h
attribute [push_cast] start_F

set_option maxRecDepth 100000 in
set_option maxHeartbeats 8000000 in
theorem comp_a (k n : Int) (b : Bool) (hk : 0 ≤ k) : ARet Try.prog 17 [.v (.int .u8 k), .v (.bool b), .v (.int .i64 n)] (.tup [.d (.v (.int .i64 (compV k n b))), .d (.v (.int .i64 (compE k n b)))]) [] := by
  have hov := tab_cons fits_t (tab_cons last_t (tab_nil (P := Try.prog)))
  by_cases h : ok3 k n
  · by_cases h1 : compOk k n b
    · rw [compV, if_pos h1, compE, if_pos h1]
      obtain ⟨h2, h3, h4⟩ := h
      obtain rfl | rfl | rfl | rfl := k4 hk h2
      all_goals
        cases b
        all_goals first
          | exact absurd (h1.2 rfl) Bool.false_ne_true
          | (((first | refine afun_x ty_mixed hov 60 ?_ | refine aret_x ty_mixed hov 60 ?_); intro r hr; simp (maxSteps := 2000000) (disch := omega) only [push_cast, List.contains_cons, Bool.or_false, Bool.false_or, Bool.true_or, Bool.or_true, rangeN1, rangeN2, rangeN3, List.getElem?_nil, Nat.reduceEqDiff, Nat.reduceLT, Nat.reduceAdd, Nat.reduceSub, Nat.reduceMul, Nat.reduceMod, Nat.reduceDiv, Nat.reduceBEq, Nat.reduceLeDiff, Int.reduceLT, Int.reduceLE, Int.reduceToNat, Int.reduceNeg, Int.reduceEq, reduceCtorEq, decide_true, decide_false, ↓reduceIte, Bool.false_eq_true, Bool.true_eq_false, Option.bind_some, Option.map_some, Option.bind_none, Option.map_none, Option.getD_some, Option.getD_none, Option.isSome_some, Option.isSome_none, List.getElem?_toArray, List.getElem?_cons_zero, List.getElem?_cons_succ, List.map_cons, List.map_nil, List.take_zero, List.take_succ_cons, List.drop_zero, List.drop_succ_cons, List.length_cons, List.length_nil, List.cons_append, List.nil_append, and_self, and_true, true_and, false_and, and_false, true_or, or_true, false_or, or_false, if_true, if_false, not_true_eq_false, not_false_eq_true, ne_eq, Nat.add_zero, Nat.zero_add, Bool.not_true, Bool.not_false, List.isEmpty_nil, List.isEmpty_cons, List.contains_nil, List.filter_nil, List.range_zero, List.all_cons, List.all_nil, Bool.and_true, Bool.and_self, decide_eq_true_eq, w_i64, w_i32, w_u8, w_u16, w_u32, w_u64, eq_self, tdivP, tmodP, List.getElem?_eq_getElem, ↓Int.cast_ofNat_Int, Int.toNat_natCast, Int.reduceAdd, Int.reduceSub, Int.reduceMul, Int.reduceDiv, Int.reduceMod, ileT, ileF, iltT, iltF, ieqT, ieqF, nleT, nleF, nltT, nltF, neqT, neqF, ↓Nat.reduceEqDiff, ↓Nat.reduceLT, ↓Nat.reduceLeDiff, ↓Nat.reduceBEq, ↓Int.reduceLT, ↓Int.reduceLE, ↓Int.reduceEq, small_iff, small_nilT, Try.ntmps17, Try.results17, (show Try.f17.body = some _ from rfl), Try.ntmps46, Try.results46, (show Try.f46.body = some _ from rfl), Try.ntmps48, Try.results48, (show Try.f48.body = some _ from rfl), Try.ntmps64, Try.results64, (show Try.f64.body = some _ from rfl)] at hr; subst hr)
             simp [compL])
    · rw [compV, if_neg h1, compE, if_neg h1]
      have h5 : k = 1 ∧ b = false := by
        unfold compOk at h1
        cases b with
        | true => exact absurd ⟨h, fun _ => rfl⟩ h1
        | false => exact ⟨Classical.byContradiction fun hk1 => h1 ⟨h, fun e => absurd e hk1⟩, rfl⟩
      obtain ⟨rfl, rfl⟩ := h5
      obtain ⟨h2, h3, h4⟩ := h
      ((first | refine afun_x ty_mixed hov 60 ?_ | refine aret_x ty_mixed hov 60 ?_); intro r hr; simp (maxSteps := 2000000) (disch := omega) only [push_cast, List.contains_cons, Bool.or_false, Bool.false_or, Bool.true_or, Bool.or_true, rangeN1, rangeN2, rangeN3, List.getElem?_nil, Nat.reduceEqDiff, Nat.reduceLT, Nat.reduceAdd, Nat.reduceSub, Nat.reduceMul, Nat.reduceMod, Nat.reduceDiv, Nat.reduceBEq, Nat.reduceLeDiff, Int.reduceLT, Int.reduceLE, Int.reduceToNat, Int.reduceNeg, Int.reduceEq, reduceCtorEq, decide_true, decide_false, ↓reduceIte, Bool.false_eq_true, Bool.true_eq_false, Option.bind_some, Option.map_some, Option.bind_none, Option.map_none, Option.getD_some, Option.getD_none, Option.isSome_some, Option.isSome_none, List.getElem?_toArray, List.getElem?_cons_zero, List.getElem?_cons_succ, List.map_cons, List.map_nil, List.take_zero, List.take_succ_cons, List.drop_zero, List.drop_succ_cons, List.length_cons, List.length_nil, List.cons_append, List.nil_append, and_self, and_true, true_and, false_and, and_false, true_or, or_true, false_or, or_false, if_true, if_false, not_true_eq_false, not_false_eq_true, ne_eq, Nat.add_zero, Nat.zero_add, Bool.not_true, Bool.not_false, List.isEmpty_nil, List.isEmpty_cons, List.contains_nil, List.filter_nil, List.range_zero, List.all_cons, List.all_nil, Bool.and_true, Bool.and_self, decide_eq_true_eq, w_i64, w_i32, w_u8, w_u16, w_u32, w_u64, eq_self, tdivP, tmodP, List.getElem?_eq_getElem, ↓Int.cast_ofNat_Int, Int.toNat_natCast, Int.reduceAdd, Int.reduceSub, Int.reduceMul, Int.reduceDiv, Int.reduceMod, ileT, ileF, iltT, iltF, ieqT, ieqF, nleT, nleF, nltT, nltF, neqT, neqF, ↓Nat.reduceEqDiff, ↓Nat.reduceLT, ↓Nat.reduceLeDiff, ↓Nat.reduceBEq, ↓Int.reduceLT, ↓Int.reduceLE, ↓Int.reduceEq, Try.ntmps17, Try.results17, (show Try.f17.body = some _ from rfl)] at hr; subst hr)
      rfl
  · have h1 : ¬ compOk k n b := fun h1 => h h1.1
    rw [compV, if_neg h1, compE, if_neg h1]
    have h2 : (k ≤ 3 ∧ 0 ≤ n ∧ n ≤ 1024) = False := eq_false h
    ((first | refine afun_x ty_mixed hov 60 ?_ | refine aret_x ty_mixed hov 60 ?_); intro r hr; simp (maxSteps := 2000000) (disch := omega) only [push_cast, List.contains_cons, Bool.or_false, Bool.false_or, Bool.true_or, Bool.or_true, rangeN1, rangeN2, rangeN3, List.getElem?_nil, Nat.reduceEqDiff, Nat.reduceLT, Nat.reduceAdd, Nat.reduceSub, Nat.reduceMul, Nat.reduceMod, Nat.reduceDiv, Nat.reduceBEq, Nat.reduceLeDiff, Int.reduceLT, Int.reduceLE, Int.reduceToNat, Int.reduceNeg, Int.reduceEq, reduceCtorEq, decide_true, decide_false, ↓reduceIte, Bool.false_eq_true, Bool.true_eq_false, Option.bind_some, Option.map_some, Option.bind_none, Option.map_none, Option.getD_some, Option.getD_none, Option.isSome_some, Option.isSome_none, List.getElem?_toArray, List.getElem?_cons_zero, List.getElem?_cons_succ, List.map_cons, List.map_nil, List.take_zero, List.take_succ_cons, List.drop_zero, List.drop_succ_cons, List.length_cons, List.length_nil, List.cons_append, List.nil_append, and_self, and_true, true_and, false_and, and_false, true_or, or_true, false_or, or_false, if_true, if_false, not_true_eq_false, not_false_eq_true, ne_eq, Nat.add_zero, Nat.zero_add, Bool.not_true, Bool.not_false, List.isEmpty_nil, List.isEmpty_cons, List.contains_nil, List.filter_nil, List.range_zero, List.all_cons, List.all_nil, Bool.and_true, Bool.and_self, decide_eq_true_eq, w_i64, w_i32, w_u8, w_u16, w_u32, w_u64, eq_self, tdivP, tmodP, List.getElem?_eq_getElem, ↓Int.cast_ofNat_Int, Int.toNat_natCast, Int.reduceAdd, Int.reduceSub, Int.reduceMul, Int.reduceDiv, Int.reduceMod, ileT, ileF, iltT, iltF, ieqT, ieqF, nleT, nleF, nltT, nltF, neqT, neqF, ↓Nat.reduceEqDiff, ↓Nat.reduceLT, ↓Nat.reduceLeDiff, ↓Nat.reduceBEq, ↓Int.reduceLT, ↓Int.reduceLE, ↓Int.reduceEq, h2, Try.ntmps17, Try.results17, (show Try.f17.body = some _ from rfl)] at hr; subst hr)
    rfl

def comp_F (us : List AV) : Option (AV × List Blk) := match us with
  | [.d (.v (.int .u8 k)), .d (.v (.bool b)), .d (.v (.int .i64 n))] => if 0 ≤ k then some (.tup [.d (.v (.int .i64 (compV k n b))), .d (.v (.int .i64 (compE k n b)))], []) else none
  | _ => none
theorem comp_t : TellOk Try.prog 17 comp_F := by
  intro us R BS h
  unfold comp_F at h
  split at h
  · rename_i k b n
    split at h
    · rename_i hc
      simp only [Option.some.injEq, Prod.mk.injEq] at h
      obtain ⟨rfl, rfl⟩ := h
      exact comp_a k n b hc
    · cases h
  · cases h
attribute [push_cast] comp_F

set_option maxRecDepth 100000 in
set_option maxHeartbeats 8000000 in
theorem refStart_a (k n : Int) (b : Bool) (hk : 0 ≤ k) (h : ok3 k n) : AFun Try.prog 18 [.v (.int .i64 k), .v (.bool b), .v (.int .i64 n)] (.v (.int .i64 (sumW (startL k n b)))) := by
  have hov := tab_cons refSum_t (tab_nil (P := Try.prog))
  obtain ⟨h2, h3, h4⟩ := h
  obtain rfl | rfl | rfl | rfl := k4 hk h2
  all_goals
    cases b
    all_goals
      ((first | refine afun_x ty_mixed hov 60 ?_ | refine aret_x ty_mixed hov 60 ?_); intro r hr; simp (maxSteps := 2000000) (disch := omega) only [push_cast, List.contains_cons, Bool.or_false, Bool.false_or, Bool.true_or, Bool.or_true, rangeN1, rangeN2, rangeN3, List.getElem?_nil, Nat.reduceEqDiff, Nat.reduceLT, Nat.reduceAdd, Nat.reduceSub, Nat.reduceMul, Nat.reduceMod, Nat.reduceDiv, Nat.reduceBEq, Nat.reduceLeDiff, Int.reduceLT, Int.reduceLE, Int.reduceToNat, Int.reduceNeg, Int.reduceEq, reduceCtorEq, decide_true, decide_false, ↓reduceIte, Bool.false_eq_true, Bool.true_eq_false, Option.bind_some, Option.map_some, Option.bind_none, Option.map_none, Option.getD_some, Option.getD_none, Option.isSome_some, Option.isSome_none, List.getElem?_toArray, List.getElem?_cons_zero, List.getElem?_cons_succ, List.map_cons, List.map_nil, List.take_zero, List.take_succ_cons, List.drop_zero, List.drop_succ_cons, List.length_cons, List.length_nil, List.cons_append, List.nil_append, and_self, and_true, true_and, false_and, and_false, true_or, or_true, false_or, or_false, if_true, if_false, not_true_eq_false, not_false_eq_true, ne_eq, Nat.add_zero, Nat.zero_add, Bool.not_true, Bool.not_false, List.isEmpty_nil, List.isEmpty_cons, List.contains_nil, List.filter_nil, List.range_zero, List.all_cons, List.all_nil, Bool.and_true, Bool.and_self, decide_eq_true_eq, w_i64, w_i32, w_u8, w_u16, w_u32, w_u64, eq_self, tdivP, tmodP, List.getElem?_eq_getElem, ↓Int.cast_ofNat_Int, Int.toNat_natCast, Int.reduceAdd, Int.reduceSub, Int.reduceMul, Int.reduceDiv, Int.reduceMod, ileT, ileF, iltT, iltF, ieqT, ieqF, nleT, nleF, nltT, nltF, neqT, neqF, ↓Nat.reduceEqDiff, ↓Nat.reduceLT, ↓Nat.reduceLeDiff, ↓Nat.reduceBEq, ↓Int.reduceLT, ↓Int.reduceLE, ↓Int.reduceEq, small_iff, small_nilT, Try.ntmps18, Try.results18, (show Try.f18.body = some _ from rfl)] at hr; subst hr)
      simp [startL]

def refStart_F (us : List AV) : Option (AV × List Blk) := match us with
  | [.d (.v (.int .i64 k)), .d (.v (.bool b)), .d (.v (.int .i64 n))] => if 0 ≤ k ∧ ok3 k n then some (.d (.v (.int .i64 (sumW (startL k n b)))), []) else none
  | _ => none
theorem refStart_t : TellOk Try.prog 18 refStart_F := by
  intro us R BS h
  unfold refStart_F at h
  split at h
  · rename_i k b n
    split at h
    · rename_i hc
      simp only [Option.some.injEq, Prod.mk.injEq] at h
      obtain ⟨rfl, rfl⟩ := h
      exact refStart_a k n b hc.1 hc.2
    · cases h
  · cases h
attribute [push_cast] refStart_F

set_option maxRecDepth 100000 in
set_option maxHeartbeats 8000000 in
theorem refComp_a (k n : Int) (b : Bool) (hk : 0 ≤ k) (h : ok3 k n) : AFun Try.prog 19 [.v (.int .i64 k), .v (.bool b), .v (.int .i64 n)] (.v (.int .i64 (sumW (compL k n b)))) := by
  have hov := tab_cons refSum_t (tab_nil (P := Try.prog))
  obtain ⟨h2, h3, h4⟩ := h
  obtain rfl | rfl | rfl | rfl := k4 hk h2
  all_goals
    cases b
    all_goals
      ((first | refine afun_x ty_mixed hov 60 ?_ | refine aret_x ty_mixed hov 60 ?_); intro r hr; simp (maxSteps := 2000000) (disch := omega) only [push_cast, List.contains_cons, Bool.or_false, Bool.false_or, Bool.true_or, Bool.or_true, rangeN1, rangeN2, rangeN3, List.getElem?_nil, Nat.reduceEqDiff, Nat.reduceLT, Nat.reduceAdd, Nat.reduceSub, Nat.reduceMul, Nat.reduceMod, Nat.reduceDiv, Nat.reduceBEq, Nat.reduceLeDiff, Int.reduceLT, Int.reduceLE, Int.reduceToNat, Int.reduceNeg, Int.reduceEq, reduceCtorEq, decide_true, decide_false, ↓reduceIte, Bool.false_eq_true, Bool.true_eq_false, Option.bind_some, Option.map_some, Option.bind_none, Option.map_none, Option.getD_some, Option.getD_none, Option.isSome_some, Option.isSome_none, List.getElem?_toArray, List.getElem?_cons_zero, List.getElem?_cons_succ, List.map_cons, List.map_nil, List.take_zero, List.take_succ_cons, List.drop_zero, List.drop_succ_cons, List.length_cons, List.length_nil, List.cons_append, List.nil_append, and_self, and_true, true_and, false_and, and_false, true_or, or_true, false_or, or_false, if_true, if_false, not_true_eq_false, not_false_eq_true, ne_eq, Nat.add_zero, Nat.zero_add, Bool.not_true, Bool.not_false, List.isEmpty_nil, List.isEmpty_cons, List.contains_nil, List.filter_nil, List.range_zero, List.all_cons, List.all_nil, Bool.and_true, Bool.and_self, decide_eq_true_eq, w_i64, w_i32, w_u8, w_u16, w_u32, w_u64, eq_self, tdivP, tmodP, List.getElem?_eq_getElem, ↓Int.cast_ofNat_Int, Int.toNat_natCast, Int.reduceAdd, Int.reduceSub, Int.reduceMul, Int.reduceDiv, Int.reduceMod, ileT, ileF, iltT, iltF, ieqT, ieqF, nleT, nleF, nltT, nltF, neqT, neqF, ↓Nat.reduceEqDiff, ↓Nat.reduceLT, ↓Nat.reduceLeDiff, ↓Nat.reduceBEq, ↓Int.reduceLT, ↓Int.reduceLE, ↓Int.reduceEq, small_iff, small_nilT, Try.ntmps19, Try.results19, (show Try.f19.body = some _ from rfl)] at hr; subst hr)
      simp [compL]

def refComp_F (us : List AV) : Option (AV × List Blk) := match us with
  | [.d (.v (.int .i64 k)), .d (.v (.bool b)), .d (.v (.int .i64 n))] => if 0 ≤ k ∧ ok3 k n then some (.d (.v (.int .i64 (sumW (compL k n b)))), []) else none
  | _ => none
theorem refComp_t : TellOk Try.prog 19 refComp_F := by
  intro us R BS h
  unfold refComp_F at h
  split at h
  · rename_i k b n
    split at h
    · rename_i hc
      simp only [Option.some.injEq, Prod.mk.injEq] at h
      obtain ⟨rfl, rfl⟩ := h
      exact refComp_a k n b hc.1 hc.2
    · cases h
  · cases h
attribute [push_cast] refComp_F

set_option maxRecDepth 100000 in
set_option maxHeartbeats 8000000 in
theorem splitsLaw_a (k n : Int) (b : Bool) (hk : 0 ≤ k) (hk2 : k ≤ 255) : AFun Try.prog 4 [.v (.int .u8 k), .v (.bool b), .v (.int .i64 n)] (.v (.bool true)) := by
  have hov := tab_cons start_t (tab_cons comp_t (tab_cons refStart_t (tab_cons refComp_t (tab_cons lives_t (tab_nil (P := Try.prog))))))
  by_cases h : ok3 k n
  · have e1 : startV k n b = sumW (startL k n b) := if_pos h
    have e2 : startE k n = 0 := if_pos h
    have h' := h
    obtain ⟨h2, h3, h4⟩ := h'
    by_cases h1 : k = 1 ∧ b = false
    · obtain ⟨rfl, rfl⟩ := h1
      have h1 : ¬ compOk 1 n false := fun h => absurd (h.2 rfl) (by simp)
      have e3 : compV 1 n false = 0 := if_neg h1
      have e4 : compE 1 n false = 1 := if_neg h1
      ((first | refine afun_x ty_mixed hov 60 ?_ | refine aret_x ty_mixed hov 60 ?_); intro r hr; simp (maxSteps := 2000000) (disch := omega) only [push_cast, List.contains_cons, Bool.or_false, Bool.false_or, Bool.true_or, Bool.or_true, rangeN1, rangeN2, rangeN3, List.getElem?_nil, Nat.reduceEqDiff, Nat.reduceLT, Nat.reduceAdd, Nat.reduceSub, Nat.reduceMul, Nat.reduceMod, Nat.reduceDiv, Nat.reduceBEq, Nat.reduceLeDiff, Int.reduceLT, Int.reduceLE, Int.reduceToNat, Int.reduceNeg, Int.reduceEq, reduceCtorEq, decide_true, decide_false, ↓reduceIte, Bool.false_eq_true, Bool.true_eq_false, Option.bind_some, Option.map_some, Option.bind_none, Option.map_none, Option.getD_some, Option.getD_none, Option.isSome_some, Option.isSome_none, List.getElem?_toArray, List.getElem?_cons_zero, List.getElem?_cons_succ, List.map_cons, List.map_nil, List.take_zero, List.take_succ_cons, List.drop_zero, List.drop_succ_cons, List.length_cons, List.length_nil, List.cons_append, List.nil_append, and_self, and_true, true_and, false_and, and_false, true_or, or_true, false_or, or_false, if_true, if_false, not_true_eq_false, not_false_eq_true, ne_eq, Nat.add_zero, Nat.zero_add, Bool.not_true, Bool.not_false, List.isEmpty_nil, List.isEmpty_cons, List.contains_nil, List.filter_nil, List.range_zero, List.all_cons, List.all_nil, Bool.and_true, Bool.and_self, decide_eq_true_eq, w_i64, w_i32, w_u8, w_u16, w_u32, w_u64, eq_self, tdivP, tmodP, List.getElem?_eq_getElem, ↓Int.cast_ofNat_Int, Int.toNat_natCast, Int.reduceAdd, Int.reduceSub, Int.reduceMul, Int.reduceDiv, Int.reduceMod, ileT, ileF, iltT, iltF, ieqT, ieqF, nleT, nleF, nltT, nltF, neqT, neqF, ↓Nat.reduceEqDiff, ↓Nat.reduceLT, ↓Nat.reduceLeDiff, ↓Nat.reduceBEq, ↓Int.reduceLT, ↓Int.reduceLE, ↓Int.reduceEq, h, e1, e2, e3, e4, Try.ntmps4, Try.results4, (show Try.f4.body = some _ from rfl)] at hr; subst hr)
      with_reducible rfl
    · have h5 : compOk k n b := ⟨h, fun e => by cases b with | true => rfl | false => exact absurd ⟨e, rfl⟩ h1⟩
      have e3 : compV k n b = sumW (compL k n b) := if_pos h5
      have e4 : compE k n b = 0 := if_pos h5
      by_cases hk1 : k = 1
      · subst hk1
        cases b with
        | false => exact absurd ⟨rfl, rfl⟩ h1
        | true =>
          ((first | refine afun_x ty_mixed hov 60 ?_ | refine aret_x ty_mixed hov 60 ?_); intro r hr; simp (maxSteps := 2000000) (disch := omega) only [push_cast, List.contains_cons, Bool.or_false, Bool.false_or, Bool.true_or, Bool.or_true, rangeN1, rangeN2, rangeN3, List.getElem?_nil, Nat.reduceEqDiff, Nat.reduceLT, Nat.reduceAdd, Nat.reduceSub, Nat.reduceMul, Nat.reduceMod, Nat.reduceDiv, Nat.reduceBEq, Nat.reduceLeDiff, Int.reduceLT, Int.reduceLE, Int.reduceToNat, Int.reduceNeg, Int.reduceEq, reduceCtorEq, decide_true, decide_false, ↓reduceIte, Bool.false_eq_true, Bool.true_eq_false, Option.bind_some, Option.map_some, Option.bind_none, Option.map_none, Option.getD_some, Option.getD_none, Option.isSome_some, Option.isSome_none, List.getElem?_toArray, List.getElem?_cons_zero, List.getElem?_cons_succ, List.map_cons, List.map_nil, List.take_zero, List.take_succ_cons, List.drop_zero, List.drop_succ_cons, List.length_cons, List.length_nil, List.cons_append, List.nil_append, and_self, and_true, true_and, false_and, and_false, true_or, or_true, false_or, or_false, if_true, if_false, not_true_eq_false, not_false_eq_true, ne_eq, Nat.add_zero, Nat.zero_add, Bool.not_true, Bool.not_false, List.isEmpty_nil, List.isEmpty_cons, List.contains_nil, List.filter_nil, List.range_zero, List.all_cons, List.all_nil, Bool.and_true, Bool.and_self, decide_eq_true_eq, w_i64, w_i32, w_u8, w_u16, w_u32, w_u64, eq_self, tdivP, tmodP, List.getElem?_eq_getElem, ↓Int.cast_ofNat_Int, Int.toNat_natCast, Int.reduceAdd, Int.reduceSub, Int.reduceMul, Int.reduceDiv, Int.reduceMod, ileT, ileF, iltT, iltF, ieqT, ieqF, nleT, nleF, nltT, nltF, neqT, neqF, ↓Nat.reduceEqDiff, ↓Nat.reduceLT, ↓Nat.reduceLeDiff, ↓Nat.reduceBEq, ↓Int.reduceLT, ↓Int.reduceLE, ↓Int.reduceEq, h, e1, e2, e3, e4, Try.ntmps4, Try.results4, (show Try.f4.body = some _ from rfl)] at hr; subst hr)
          with_reducible rfl
      · ((first | refine afun_x ty_mixed hov 60 ?_ | refine aret_x ty_mixed hov 60 ?_); intro r hr; simp (maxSteps := 2000000) (disch := omega) only [push_cast, List.contains_cons, Bool.or_false, Bool.false_or, Bool.true_or, Bool.or_true, rangeN1, rangeN2, rangeN3, List.getElem?_nil, Nat.reduceEqDiff, Nat.reduceLT, Nat.reduceAdd, Nat.reduceSub, Nat.reduceMul, Nat.reduceMod, Nat.reduceDiv, Nat.reduceBEq, Nat.reduceLeDiff, Int.reduceLT, Int.reduceLE, Int.reduceToNat, Int.reduceNeg, Int.reduceEq, reduceCtorEq, decide_true, decide_false, ↓reduceIte, Bool.false_eq_true, Bool.true_eq_false, Option.bind_some, Option.map_some, Option.bind_none, Option.map_none, Option.getD_some, Option.getD_none, Option.isSome_some, Option.isSome_none, List.getElem?_toArray, List.getElem?_cons_zero, List.getElem?_cons_succ, List.map_cons, List.map_nil, List.take_zero, List.take_succ_cons, List.drop_zero, List.drop_succ_cons, List.length_cons, List.length_nil, List.cons_append, List.nil_append, and_self, and_true, true_and, false_and, and_false, true_or, or_true, false_or, or_false, if_true, if_false, not_true_eq_false, not_false_eq_true, ne_eq, Nat.add_zero, Nat.zero_add, Bool.not_true, Bool.not_false, List.isEmpty_nil, List.isEmpty_cons, List.contains_nil, List.filter_nil, List.range_zero, List.all_cons, List.all_nil, Bool.and_true, Bool.and_self, decide_eq_true_eq, w_i64, w_i32, w_u8, w_u16, w_u32, w_u64, eq_self, tdivP, tmodP, List.getElem?_eq_getElem, ↓Int.cast_ofNat_Int, Int.toNat_natCast, Int.reduceAdd, Int.reduceSub, Int.reduceMul, Int.reduceDiv, Int.reduceMod, ileT, ileF, iltT, iltF, ieqT, ieqF, nleT, nleF, nltT, nltF, neqT, neqF, ↓Nat.reduceEqDiff, ↓Nat.reduceLT, ↓Nat.reduceLeDiff, ↓Nat.reduceBEq, ↓Int.reduceLT, ↓Int.reduceLE, ↓Int.reduceEq, h, e1, e2, e3, e4, hk1, Try.ntmps4, Try.results4, (show Try.f4.body = some _ from rfl)] at hr; subst hr)
        with_reducible rfl
  · have h1 : ¬ compOk k n b := fun h1 => h h1.1
    have e1 : startV k n b = 0 := if_neg h
    have e2 : startE k n = 1 := if_neg h
    have e3 : compV k n b = 0 := if_neg h1
    have e4 : compE k n b = 1 := if_neg h1
    unfold ok3 at h
    by_cases c1 : k ≤ 3
    · by_cases c2 : 0 ≤ n
      · ((first | refine afun_x ty_mixed hov 60 ?_ | refine aret_x ty_mixed hov 60 ?_); intro r hr; simp (maxSteps := 2000000) (disch := omega) only [push_cast, List.contains_cons, Bool.or_false, Bool.false_or, Bool.true_or, Bool.or_true, rangeN1, rangeN2, rangeN3, List.getElem?_nil, Nat.reduceEqDiff, Nat.reduceLT, Nat.reduceAdd, Nat.reduceSub, Nat.reduceMul, Nat.reduceMod, Nat.reduceDiv, Nat.reduceBEq, Nat.reduceLeDiff, Int.reduceLT, Int.reduceLE, Int.reduceToNat, Int.reduceNeg, Int.reduceEq, reduceCtorEq, decide_true, decide_false, ↓reduceIte, Bool.false_eq_true, Bool.true_eq_false, Option.bind_some, Option.map_some, Option.bind_none, Option.map_none, Option.getD_some, Option.getD_none, Option.isSome_some, Option.isSome_none, List.getElem?_toArray, List.getElem?_cons_zero, List.getElem?_cons_succ, List.map_cons, List.map_nil, List.take_zero, List.take_succ_cons, List.drop_zero, List.drop_succ_cons, List.length_cons, List.length_nil, List.cons_append, List.nil_append, and_self, and_true, true_and, false_and, and_false, true_or, or_true, false_or, or_false, if_true, if_false, not_true_eq_false, not_false_eq_true, ne_eq, Nat.add_zero, Nat.zero_add, Bool.not_true, Bool.not_false, List.isEmpty_nil, List.isEmpty_cons, List.contains_nil, List.filter_nil, List.range_zero, List.all_cons, List.all_nil, Bool.and_true, Bool.and_self, decide_eq_true_eq, w_i64, w_i32, w_u8, w_u16, w_u32, w_u64, eq_self, tdivP, tmodP, List.getElem?_eq_getElem, ↓Int.cast_ofNat_Int, Int.toNat_natCast, Int.reduceAdd, Int.reduceSub, Int.reduceMul, Int.reduceDiv, Int.reduceMod, ileT, ileF, iltT, iltF, ieqT, ieqF, nleT, nleF, nltT, nltF, neqT, neqF, ↓Nat.reduceEqDiff, ↓Nat.reduceLT, ↓Nat.reduceLeDiff, ↓Nat.reduceBEq, ↓Int.reduceLT, ↓Int.reduceLE, ↓Int.reduceEq, e1, e2, e3, e4, Try.ntmps4, Try.results4, (show Try.f4.body = some _ from rfl)] at hr; subst hr)
        with_reducible rfl
      · ((first | refine afun_x ty_mixed hov 60 ?_ | refine aret_x ty_mixed hov 60 ?_); intro r hr; simp (maxSteps := 2000000) (disch := omega) only [push_cast, List.contains_cons, Bool.or_false, Bool.false_or, Bool.true_or, Bool.or_true, rangeN1, rangeN2, rangeN3, List.getElem?_nil, Nat.reduceEqDiff, Nat.reduceLT, Nat.reduceAdd, Nat.reduceSub, Nat.reduceMul, Nat.reduceMod, Nat.reduceDiv, Nat.reduceBEq, Nat.reduceLeDiff, Int.reduceLT, Int.reduceLE, Int.reduceToNat, Int.reduceNeg, Int.reduceEq, reduceCtorEq, decide_true, decide_false, ↓reduceIte, Bool.false_eq_true, Bool.true_eq_false, Option.bind_some, Option.map_some, Option.bind_none, Option.map_none, Option.getD_some, Option.getD_none, Option.isSome_some, Option.isSome_none, List.getElem?_toArray, List.getElem?_cons_zero, List.getElem?_cons_succ, List.map_cons, List.map_nil, List.take_zero, List.take_succ_cons, List.drop_zero, List.drop_succ_cons, List.length_cons, List.length_nil, List.cons_append, List.nil_append, and_self, and_true, true_and, false_and, and_false, true_or, or_true, false_or, or_false, if_true, if_false, not_true_eq_false, not_false_eq_true, ne_eq, Nat.add_zero, Nat.zero_add, Bool.not_true, Bool.not_false, List.isEmpty_nil, List.isEmpty_cons, List.contains_nil, List.filter_nil, List.range_zero, List.all_cons, List.all_nil, Bool.and_true, Bool.and_self, decide_eq_true_eq, w_i64, w_i32, w_u8, w_u16, w_u32, w_u64, eq_self, tdivP, tmodP, List.getElem?_eq_getElem, ↓Int.cast_ofNat_Int, Int.toNat_natCast, Int.reduceAdd, Int.reduceSub, Int.reduceMul, Int.reduceDiv, Int.reduceMod, ileT, ileF, iltT, iltF, ieqT, ieqF, nleT, nleF, nltT, nltF, neqT, neqF, ↓Nat.reduceEqDiff, ↓Nat.reduceLT, ↓Nat.reduceLeDiff, ↓Nat.reduceBEq, ↓Int.reduceLT, ↓Int.reduceLE, ↓Int.reduceEq, e1, e2, e3, e4, Try.ntmps4, Try.results4, (show Try.f4.body = some _ from rfl)] at hr; subst hr)
        with_reducible rfl
    · ((first | refine afun_x ty_mixed hov 60 ?_ | refine aret_x ty_mixed hov 60 ?_); intro r hr; simp (maxSteps := 2000000) (disch := omega) only [push_cast, List.contains_cons, Bool.or_false, Bool.false_or, Bool.true_or, Bool.or_true, rangeN1, rangeN2, rangeN3, List.getElem?_nil, Nat.reduceEqDiff, Nat.reduceLT, Nat.reduceAdd, Nat.reduceSub, Nat.reduceMul, Nat.reduceMod, Nat.reduceDiv, Nat.reduceBEq, Nat.reduceLeDiff, Int.reduceLT, Int.reduceLE, Int.reduceToNat, Int.reduceNeg, Int.reduceEq, reduceCtorEq, decide_true, decide_false, ↓reduceIte, Bool.false_eq_true, Bool.true_eq_false, Option.bind_some, Option.map_some, Option.bind_none, Option.map_none, Option.getD_some, Option.getD_none, Option.isSome_some, Option.isSome_none, List.getElem?_toArray, List.getElem?_cons_zero, List.getElem?_cons_succ, List.map_cons, List.map_nil, List.take_zero, List.take_succ_cons, List.drop_zero, List.drop_succ_cons, List.length_cons, List.length_nil, List.cons_append, List.nil_append, and_self, and_true, true_and, false_and, and_false, true_or, or_true, false_or, or_false, if_true, if_false, not_true_eq_false, not_false_eq_true, ne_eq, Nat.add_zero, Nat.zero_add, Bool.not_true, Bool.not_false, List.isEmpty_nil, List.isEmpty_cons, List.contains_nil, List.filter_nil, List.range_zero, List.all_cons, List.all_nil, Bool.and_true, Bool.and_self, decide_eq_true_eq, w_i64, w_i32, w_u8, w_u16, w_u32, w_u64, eq_self, tdivP, tmodP, List.getElem?_eq_getElem, ↓Int.cast_ofNat_Int, Int.toNat_natCast, Int.reduceAdd, Int.reduceSub, Int.reduceMul, Int.reduceDiv, Int.reduceMod, ileT, ileF, iltT, iltF, ieqT, ieqF, nleT, nleF, nltT, nltF, neqT, neqF, ↓Nat.reduceEqDiff, ↓Nat.reduceLT, ↓Nat.reduceLeDiff, ↓Nat.reduceBEq, ↓Int.reduceLT, ↓Int.reduceLE, ↓Int.reduceEq, e1, e2, e3, e4, Try.ntmps4, Try.results4, (show Try.f4.body = some _ from rfl)] at hr; subst hr)
      with_reducible rfl
end Go.Proofs.Ytapbnkbknflggaa
