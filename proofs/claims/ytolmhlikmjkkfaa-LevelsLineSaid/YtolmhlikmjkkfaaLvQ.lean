/-
  Layer 1 (levels): the reference's unstuffing.
  Conditions: none.
-/
import Derived.Test.YtolmhlikmjkkfaaLvP
import Derived.Test.YtolmhlikmjkkfaaLvM
namespace Go.Proofs.Ytolmhlikmjkkfaa
open Go.RowKit
set_option linter.unusedVariables false
set_option linter.unusedSimpArgs false

theorem onesE_len (xs : List Int) : onesE xs ≤ xs.length := by
  have key : ∀ (xs : List Int) (c : Nat), xs.foldl (fun c x => if x = 1 then c + 1 else 0) c ≤ c + xs.length := by
    intro xs
    induction xs with
    | nil => intro c; simp
    | cons x xs ih =>
      intro c
      rw [List.foldl_cons]
      refine Nat.le_trans (ih _) ?_
      rw [List.length_cons]; split <;> omega
  have := key xs 0
  unfold onesE; omega

set_option maxRecDepth 100000 in
set_option maxHeartbeats 4000000 in
theorem refOnes_a (xs : List Int) (hl : xs.length ≤ 1000000) : AFun Try.prog 31 [.ints .u8 xs none] (.v (.int .i64 (onesE xs : Nat))) := by
  refine afun_body (n := 22) Try.func31 rfl Try.ntmps31 rfl (by simp) ?_
  have hov := tab_nil (P := Try.prog)
  (repeat (first | ((first | refine x_seqX hov ?_ | refine x_regX hov ?_ | refine x_condB ?_); intro r hr; simp (maxSteps := 2000000) (disch := omega) only [push_cast, Nat.reduceAdd, Nat.reduceSub, Nat.reduceMul, Nat.reduceMod, Nat.reduceDiv, Int.reduceToNat, Int.reduceNeg, reduceCtorEq, ↓reduceIte, ↓Int.cast_ofNat_Int, Int.reduceAdd, Int.reduceSub, Int.reduceMul, Int.reduceDiv, Int.reduceMod, ↓Nat.reduceEqDiff, ↓Nat.reduceLT, ↓Nat.reduceLeDiff, ↓Nat.reduceBEq, ↓Int.reduceLT, ↓Int.reduceLE, ↓Int.reduceEq] at hr; subst hr; (first | refine ⟨_, by with_reducible rfl, ?_⟩ | refine .inl ⟨by with_reducible rfl, ?_⟩ | refine .inr ⟨by with_reducible rfl, ?_⟩); try simp only [xthen_n, xthen_x, xthen_r, xthen_g, xblock_n, xblock_r, xblock_g, xblock_x, xscope_n, xscope_r, xscope_x, ↓reduceIte, Nat.reduceEqDiff]) | refine awp_seq ?_ | refine awp_block ?_ | refine awp_scope ?_ | ((first | refine awp_skip ?_ | refine awp_exit ?_ | refine awp_ret ?_ | refine awp_label ?_); try simp only [xthen_n, xthen_x, xthen_r, xthen_g, xblock_n, xblock_r, xblock_g, xblock_x, xscope_n, xscope_r, xscope_x, ↓reduceIte, Nat.reduceEqDiff])))
  refine awp_loop (ι := Nat) (fun n => ⟨22, [(0, .d (.ints .u8 xs none)), (3, .d (.v (.int .i64 n)))], []⟩)
    (fun n => n ≤ xs.length ∧ onesE xs = n + onesE (xs.take (xs.length - n))) (fun n => xs.length - n) 0 ⟨by omega, by simp⟩ (by refine sub_lists ?_ ?_ <;> simp (maxSteps := 2000000) (disch := omega) only [push_cast, Nat.reduceAdd, Nat.reduceSub, Nat.reduceMul, Nat.reduceMod, Nat.reduceDiv, Int.reduceToNat, Int.reduceNeg, reduceCtorEq, ↓reduceIte, ↓Int.cast_ofNat_Int, Int.reduceAdd, Int.reduceSub, Int.reduceMul, Int.reduceDiv, Int.reduceMod, ↓Nat.reduceEqDiff, ↓Nat.reduceLT, ↓Nat.reduceLeDiff, ↓Nat.reduceBEq, ↓Int.reduceLT, ↓Int.reduceLE, ↓Int.reduceEq, subT, subH, Int.natCast_zero, Int.cast_ofNat_Int]) ?_
  rintro n ⟨hn, he⟩
  by_cases hlt : n < xs.length
  · have hi : ((xs.length : Int) - 1 - n).toNat = xs.length - (n + 1) := by omega
    have hil : xs.length - (n + 1) < xs.length := by omega
    have hs := onesE_snoc hil
    rw [show xs.length - (n + 1) + 1 = xs.length - n by omega] at hs
    by_cases h1 : xs[xs.length - (n + 1)] = 1
    · rw [if_pos h1] at hs
      (repeat (first | ((first | refine x_seqX hov ?_ | refine x_regX hov ?_ | refine x_condB ?_); intro r hr; simp (maxSteps := 2000000) (disch := omega) only [push_cast, Nat.reduceAdd, Nat.reduceSub, Nat.reduceMul, Nat.reduceMod, Nat.reduceDiv, Int.reduceToNat, Int.reduceNeg, reduceCtorEq, ↓reduceIte, ↓Int.cast_ofNat_Int, Int.reduceAdd, Int.reduceSub, Int.reduceMul, Int.reduceDiv, Int.reduceMod, ↓Nat.reduceEqDiff, ↓Nat.reduceLT, ↓Nat.reduceLeDiff, ↓Nat.reduceBEq, ↓Int.reduceLT, ↓Int.reduceLE, ↓Int.reduceEq, hi, h1] at hr; subst hr; (first | refine ⟨_, by with_reducible rfl, ?_⟩ | refine .inl ⟨by with_reducible rfl, ?_⟩ | refine .inr ⟨by with_reducible rfl, ?_⟩); try simp only [xthen_n, xthen_x, xthen_r, xthen_g, xblock_n, xblock_r, xblock_g, xblock_x, xscope_n, xscope_r, xscope_x, ↓reduceIte, Nat.reduceEqDiff]) | refine awp_seq ?_ | refine awp_block ?_ | refine awp_scope ?_ | ((first | refine awp_skip ?_ | refine awp_exit ?_ | refine awp_ret ?_ | refine awp_label ?_); try simp only [xthen_n, xthen_x, xthen_r, xthen_g, xblock_n, xblock_r, xblock_g, xblock_x, xscope_n, xscope_r, xscope_x, ↓reduceIte, Nat.reduceEqDiff])))
      refine ⟨n + 1, ⟨by omega, by omega⟩, (by refine sub_lists ?_ ?_ <;> simp (maxSteps := 2000000) (disch := omega) only [push_cast, Nat.reduceAdd, Nat.reduceSub, Nat.reduceMul, Nat.reduceMod, Nat.reduceDiv, Int.reduceToNat, Int.reduceNeg, reduceCtorEq, ↓reduceIte, ↓Int.cast_ofNat_Int, Int.reduceAdd, Int.reduceSub, Int.reduceMul, Int.reduceDiv, Int.reduceMod, ↓Nat.reduceEqDiff, ↓Nat.reduceLT, ↓Nat.reduceLeDiff, ↓Nat.reduceBEq, ↓Int.reduceLT, ↓Int.reduceLE, ↓Int.reduceEq, subT, subH, Int.natCast_add]), by omega⟩
    · rw [if_neg h1] at hs
      (repeat (first | ((first | refine x_seqX hov ?_ | refine x_regX hov ?_ | refine x_condB ?_); intro r hr; simp (maxSteps := 2000000) (disch := omega) only [push_cast, Nat.reduceAdd, Nat.reduceSub, Nat.reduceMul, Nat.reduceMod, Nat.reduceDiv, Int.reduceToNat, Int.reduceNeg, reduceCtorEq, ↓reduceIte, ↓Int.cast_ofNat_Int, Int.reduceAdd, Int.reduceSub, Int.reduceMul, Int.reduceDiv, Int.reduceMod, ↓Nat.reduceEqDiff, ↓Nat.reduceLT, ↓Nat.reduceLeDiff, ↓Nat.reduceBEq, ↓Int.reduceLT, ↓Int.reduceLE, ↓Int.reduceEq, hi, h1] at hr; subst hr; (first | refine ⟨_, by with_reducible rfl, ?_⟩ | refine .inl ⟨by with_reducible rfl, ?_⟩ | refine .inr ⟨by with_reducible rfl, ?_⟩); try simp only [xthen_n, xthen_x, xthen_r, xthen_g, xblock_n, xblock_r, xblock_g, xblock_x, xscope_n, xscope_r, xscope_x, ↓reduceIte, Nat.reduceEqDiff]) | refine awp_seq ?_ | refine awp_block ?_ | refine awp_scope ?_ | ((first | refine awp_skip ?_ | refine awp_exit ?_ | refine awp_ret ?_ | refine awp_label ?_); try simp only [xthen_n, xthen_x, xthen_r, xthen_g, xblock_n, xblock_r, xblock_g, xblock_x, xscope_n, xscope_r, xscope_x, ↓reduceIte, Nat.reduceEqDiff])))
      (refine x_ret0 (by first | exact .inl rfl | exact .inr rfl) ?_; intro r hr; simp (maxSteps := 2000000) (disch := omega) only [push_cast, Nat.reduceAdd, Nat.reduceSub, Nat.reduceMul, Nat.reduceMod, Nat.reduceDiv, Int.reduceToNat, Int.reduceNeg, reduceCtorEq, ↓reduceIte, ↓Int.cast_ofNat_Int, Int.reduceAdd, Int.reduceSub, Int.reduceMul, Int.reduceDiv, Int.reduceMod, ↓Nat.reduceEqDiff, ↓Nat.reduceLT, ↓Nat.reduceLeDiff, ↓Nat.reduceBEq, ↓Int.reduceLT, ↓Int.reduceLE, ↓Int.reduceEq, Try.results31] at hr; subst hr; refine ⟨_, by with_reducible rfl, ?_⟩; simp only [renV, renVs])
      rw [he, hs]
      (first | exact ⟨trivial, trivial⟩ | exact ⟨trivial, rfl⟩ | exact ⟨rfl, trivial⟩ | exact ⟨rfl, rfl⟩)
  · have hn2 : n = xs.length := by omega
    subst hn2
    (repeat (first | ((first | refine x_seqX hov ?_ | refine x_regX hov ?_ | refine x_condB ?_); intro r hr; simp (maxSteps := 2000000) (disch := omega) only [push_cast, Nat.reduceAdd, Nat.reduceSub, Nat.reduceMul, Nat.reduceMod, Nat.reduceDiv, Int.reduceToNat, Int.reduceNeg, reduceCtorEq, ↓reduceIte, ↓Int.cast_ofNat_Int, Int.reduceAdd, Int.reduceSub, Int.reduceMul, Int.reduceDiv, Int.reduceMod, ↓Nat.reduceEqDiff, ↓Nat.reduceLT, ↓Nat.reduceLeDiff, ↓Nat.reduceBEq, ↓Int.reduceLT, ↓Int.reduceLE, ↓Int.reduceEq] at hr; subst hr; (first | refine ⟨_, by with_reducible rfl, ?_⟩ | refine .inl ⟨by with_reducible rfl, ?_⟩ | refine .inr ⟨by with_reducible rfl, ?_⟩); try simp only [xthen_n, xthen_x, xthen_r, xthen_g, xblock_n, xblock_r, xblock_g, xblock_x, xscope_n, xscope_r, xscope_x, ↓reduceIte, Nat.reduceEqDiff]) | refine awp_seq ?_ | refine awp_block ?_ | refine awp_scope ?_ | ((first | refine awp_skip ?_ | refine awp_exit ?_ | refine awp_ret ?_ | refine awp_label ?_); try simp only [xthen_n, xthen_x, xthen_r, xthen_g, xblock_n, xblock_r, xblock_g, xblock_x, xscope_n, xscope_r, xscope_x, ↓reduceIte, Nat.reduceEqDiff])))
    (refine x_ret0 (by first | exact .inl rfl | exact .inr rfl) ?_; intro r hr; simp (maxSteps := 2000000) (disch := omega) only [push_cast, Nat.reduceAdd, Nat.reduceSub, Nat.reduceMul, Nat.reduceMod, Nat.reduceDiv, Int.reduceToNat, Int.reduceNeg, reduceCtorEq, ↓reduceIte, ↓Int.cast_ofNat_Int, Int.reduceAdd, Int.reduceSub, Int.reduceMul, Int.reduceDiv, Int.reduceMod, ↓Nat.reduceEqDiff, ↓Nat.reduceLT, ↓Nat.reduceLeDiff, ↓Nat.reduceBEq, ↓Int.reduceLT, ↓Int.reduceLE, ↓Int.reduceEq, Try.results31] at hr; subst hr; refine ⟨_, by with_reducible rfl, ?_⟩; simp only [renV, renVs])
    rw [he, Nat.sub_self, List.take_zero]
    (first | exact ⟨trivial, trivial⟩ | exact ⟨trivial, rfl⟩ | exact ⟨rfl, trivial⟩ | exact ⟨rfl, rfl⟩)

def refOnes_F (us : List AV) : Option (AV × List Blk) := match us with
  | [.d (.ints .u8 xs c)] => if xs.length ≤ 100000 ∧ c = none then some (.d (.v (.int .i64 (onesE xs : Nat))), []) else none
  | _ => none
theorem refOnes_t : TellOk Try.prog 31 refOnes_F := by
  intro us R BS h
  unfold refOnes_F at h
  split at h
  · rename_i xs c
    split at h
    · rename_i hc
      simp only [Option.some.injEq, Prod.mk.injEq] at h
      obtain ⟨rfl, rfl⟩ := h
      exact (by obtain ⟨h1, rfl⟩ := hc; exact refOnes_a xs (by omega))
    · cases h
  · cases h
attribute [push_cast] refOnes_F

set_option maxRecDepth 100000 in
set_option maxHeartbeats 4000000 in
theorem refBehind_a (xs : List Int) (hl : xs.length ≤ 100000) : AFun Try.prog 60 [.ints .u8 xs none] (.v (.bool (decide ((onesE xs : Int) = 6)))) := by
  have hov := tab_cons refOnes_t (tab_nil (P := Try.prog))
  ((first | refine afun_x ty_mixed hov 60 ?_ | refine aret_x ty_mixed hov 60 ?_); intro r hr; simp (maxSteps := 2000000) (disch := omega) only [push_cast, Nat.reduceAdd, Nat.reduceSub, Nat.reduceMul, Nat.reduceMod, Nat.reduceDiv, Int.reduceToNat, Int.reduceNeg, reduceCtorEq, ↓reduceIte, ↓Int.cast_ofNat_Int, Int.reduceAdd, Int.reduceSub, Int.reduceMul, Int.reduceDiv, Int.reduceMod, ↓Nat.reduceEqDiff, ↓Nat.reduceLT, ↓Nat.reduceLeDiff, ↓Nat.reduceBEq, ↓Int.reduceLT, ↓Int.reduceLE, ↓Int.reduceEq, Try.ntmps60, Try.results60, (show Try.f60.body = some _ from rfl)] at hr; subst hr)
  rfl

def refBehind_F (us : List AV) : Option (AV × List Blk) := match us with
  | [.d (.ints .u8 xs c)] => if xs.length ≤ 100000 ∧ c = none then some (.d (.v (.bool (decide ((onesE xs : Int) = 6)))), []) else none
  | _ => none
theorem refBehind_t : TellOk Try.prog 60 refBehind_F := by
  intro us R BS h
  unfold refBehind_F at h
  split at h
  · rename_i xs c
    split at h
    · rename_i hc
      simp only [Option.some.injEq, Prod.mk.injEq] at h
      obtain ⟨rfl, rfl⟩ := h
      exact (by obtain ⟨h1, rfl⟩ := hc; exact refBehind_a xs h1)
    · cases h
  · cases h
attribute [push_cast] refBehind_F

theorem unS_next {xs : List Int} {i : Nat} {o : List Int} {c : Nat} (h : unS (xs.take i) = some (o, c)) (hi : i < xs.length) (hc : c < 6) : unS (xs.take (i + 1)) = some (o ++ [xs[i]], if xs[i] = 1 then c + 1 else 0) := by
  rw [unS_snoc hi, h]; simp only [unF, if_neg (show ¬ c = 6 by omega)]

set_option maxRecDepth 100000 in
set_option maxHeartbeats 4000000 in
theorem refUnstuffOk_a (xs : List Int) (hl : xs.length ≤ 100000) (h01 : b01 xs) (out : List Int) (hu : unL xs = some out) : ARet Try.prog 33 [.ints .u8 xs none] (.tup [.own 0, .d (.v (.bool true))]) [.ints 5 .u8 out none] := by
  refine aret_body (n := 49) Try.func33 rfl Try.ntmps33 rfl (by simp) ?_
  have hov := tab_cons refBehind_t (tab_nil (P := Try.prog))
  (refine x_seq ?_; intro r hr; simp (maxSteps := 2000000) (disch := omega) only [push_cast, Nat.reduceAdd, Nat.reduceSub, Nat.reduceMul, Nat.reduceMod, Nat.reduceDiv, Int.reduceToNat, Int.reduceNeg, reduceCtorEq, ↓reduceIte, ↓Int.cast_ofNat_Int, Int.reduceAdd, Int.reduceSub, Int.reduceMul, Int.reduceDiv, Int.reduceMod, ↓Nat.reduceEqDiff, ↓Nat.reduceLT, ↓Nat.reduceLeDiff, ↓Nat.reduceBEq, ↓Int.reduceLT, ↓Int.reduceLE, ↓Int.reduceEq] at hr; subst hr; refine ⟨_, by with_reducible rfl, ?_⟩)
  (refine x_seq ?_; intro r hr; simp (maxSteps := 2000000) (disch := omega) only [push_cast, Nat.reduceAdd, Nat.reduceSub, Nat.reduceMul, Nat.reduceMod, Nat.reduceDiv, Int.reduceToNat, Int.reduceNeg, reduceCtorEq, ↓reduceIte, ↓Int.cast_ofNat_Int, Int.reduceAdd, Int.reduceSub, Int.reduceMul, Int.reduceDiv, Int.reduceMod, ↓Nat.reduceEqDiff, ↓Nat.reduceLT, ↓Nat.reduceLeDiff, ↓Nat.reduceBEq, ↓Int.reduceLT, ↓Int.reduceLE, ↓Int.reduceEq] at hr; subst hr; refine ⟨_, by with_reducible rfl, ?_⟩)
  (refine x_mat 4 1000 (.ints 5 .u8 [] (some 0)) (by intro r hr; simp (maxSteps := 2000000) (disch := omega) only [push_cast, Nat.reduceAdd, Nat.reduceSub, Nat.reduceMul, Nat.reduceMod, Nat.reduceDiv, Int.reduceToNat, Int.reduceNeg, reduceCtorEq, ↓reduceIte, ↓Int.cast_ofNat_Int, Int.reduceAdd, Int.reduceSub, Int.reduceMul, Int.reduceDiv, Int.reduceMod, ↓Nat.reduceEqDiff, ↓Nat.reduceLT, ↓Nat.reduceLeDiff, ↓Nat.reduceBEq, ↓Int.reduceLT, ↓Int.reduceLE, ↓Int.reduceEq] at hr; subst hr; exact ⟨_, rfl, rfl⟩) (by omega) (by simp) (by first | exact .inl ⟨_, _, rfl⟩ | exact .inr ⟨_, _, rfl⟩) ?_; intro s' hs; simp (maxSteps := 2000000) (disch := omega) only [push_cast, Nat.reduceAdd, Nat.reduceSub, Nat.reduceMul, Nat.reduceMod, Nat.reduceDiv, Int.reduceToNat, Int.reduceNeg, reduceCtorEq, ↓reduceIte, ↓Int.cast_ofNat_Int, Int.reduceAdd, Int.reduceSub, Int.reduceMul, Int.reduceDiv, Int.reduceMod, ↓Nat.reduceEqDiff, ↓Nat.reduceLT, ↓Nat.reduceLeDiff, ↓Nat.reduceBEq, ↓Int.reduceLT, ↓Int.reduceLE, ↓Int.reduceEq, Bool.true_eq_false, St.mat] at hs; subst hs)
  (refine awp_wide 1000 ?_; intro s' hs; simp (maxSteps := 2000000) (disch := omega) only [push_cast, Nat.reduceAdd, Nat.reduceSub, Nat.reduceMul, Nat.reduceMod, Nat.reduceDiv, Int.reduceToNat, Int.reduceNeg, reduceCtorEq, ↓reduceIte, ↓Int.cast_ofNat_Int, Int.reduceAdd, Int.reduceSub, Int.reduceMul, Int.reduceDiv, Int.reduceMod, ↓Nat.reduceEqDiff, ↓Nat.reduceLT, ↓Nat.reduceLeDiff, ↓Nat.reduceBEq, ↓Int.reduceLT, ↓Int.reduceLE, ↓Int.reduceEq, Bool.true_eq_false, St.wide] at hs; subst hs)
  (repeat (first | ((first | refine x_seqX hov ?_ | refine x_regX hov ?_ | refine x_condB ?_); intro r hr; simp (maxSteps := 2000000) (disch := omega) only [push_cast, Nat.reduceAdd, Nat.reduceSub, Nat.reduceMul, Nat.reduceMod, Nat.reduceDiv, Int.reduceToNat, Int.reduceNeg, reduceCtorEq, ↓reduceIte, ↓Int.cast_ofNat_Int, Int.reduceAdd, Int.reduceSub, Int.reduceMul, Int.reduceDiv, Int.reduceMod, ↓Nat.reduceEqDiff, ↓Nat.reduceLT, ↓Nat.reduceLeDiff, ↓Nat.reduceBEq, ↓Int.reduceLT, ↓Int.reduceLE, ↓Int.reduceEq] at hr; subst hr; (first | refine ⟨_, by with_reducible rfl, ?_⟩ | refine .inl ⟨by with_reducible rfl, ?_⟩ | refine .inr ⟨by with_reducible rfl, ?_⟩); try simp only [xthen_n, xthen_x, xthen_r, xthen_g, xblock_n, xblock_r, xblock_g, xblock_x, xscope_n, xscope_r, xscope_x, ↓reduceIte, Nat.reduceEqDiff]) | refine awp_seq ?_ | refine awp_block ?_ | refine awp_scope ?_ | ((first | refine awp_skip ?_ | refine awp_exit ?_ | refine awp_ret ?_ | refine awp_label ?_); try simp only [xthen_n, xthen_x, xthen_r, xthen_g, xblock_n, xblock_r, xblock_g, xblock_x, xscope_n, xscope_r, xscope_x, ↓reduceIte, Nat.reduceEqDiff])))
  refine awp_loop (ι := Nat × List Int × Nat) (fun i => ⟨49, [(0, .d (.ints .u8 xs none)), (4, .own 1000), (5, .d (.v (.int .i64 i.1)))], [(1000, .ints 5 .u8 i.2.1 none)]⟩)
    (fun i => i.1 ≤ xs.length ∧ unS (xs.take i.1) = some (i.2.1, i.2.2) ∧ i.2.2 < 6 ∧ onesE (xs.take i.1) = i.2.2) (fun i => xs.length - i.1) (0, [], 0) ⟨by simp, rfl, by simp, rfl⟩ (by refine sub_lists ?_ ?_ <;> simp (maxSteps := 2000000) (disch := omega) only [push_cast, Nat.reduceAdd, Nat.reduceSub, Nat.reduceMul, Nat.reduceMod, Nat.reduceDiv, Int.reduceToNat, Int.reduceNeg, reduceCtorEq, ↓reduceIte, ↓Int.cast_ofNat_Int, Int.reduceAdd, Int.reduceSub, Int.reduceMul, Int.reduceDiv, Int.reduceMod, ↓Nat.reduceEqDiff, ↓Nat.reduceLT, ↓Nat.reduceLeDiff, ↓Nat.reduceBEq, ↓Int.reduceLT, ↓Int.reduceLE, ↓Int.reduceEq, subT, subH, Int.natCast_zero, Int.cast_ofNat_Int]) ?_
  rintro ⟨i, o, c⟩ ⟨hi, hs, hc, ho⟩
  dsimp only at hi hs hc ho
  obtain ⟨_, hol⟩ := unS_len (s := ([], 0)) (by simp) hs
  rw [List.length_take, List.length_nil] at hol
  by_cases hlt : i < xs.length
  · have hx := h01 xs[i] (by simp)
    have hs1 := unS_next hs hlt hc
    have ho1 := onesE_snoc hlt
    rw [ho] at ho1
    have hlen := onesE_len (xs.take (i + 1))
    rw [List.length_take, Nat.min_eq_left (by omega)] at hlen
    have hi1 : ((i : Int) + 1).toNat = i + 1 := by omega
    have hj0 : ((i : Int) + 1 - 1) = i := by omega
    have htl : (xs.take (i + 1)).length ≤ 100000 := by rw [List.length_take]; omega
    by_cases h1 : xs[i] = 1
    · rw [if_pos h1] at hs1 ho1
      by_cases h6 : c + 1 = 6
      · have hon : ((onesE (xs.take (i + 1)) : Nat) : Int) = 6 := by omega
        by_cases hend : i + 1 = xs.length
        · have hun : unL xs = none := by
            have := hs1
            rw [hend, List.take_length] at this
            unfold unL; rw [this]; simp only [if_pos h6]
          rw [hu] at hun; cases hun
        · have hlt2 : i + 1 < xs.length := by omega
          have hs2 := unS_snoc hlt2
          rw [hs1] at hs2
          simp only [unF, if_pos h6] at hs2
          have ho2 := onesE_snoc hlt2
          have hx2 := h01 xs[i + 1] (by simp)
          by_cases hb : xs[i + 1] = 1
          · rw [if_pos hb] at hs2
            have hun : unL xs = none := unS_none hs2
            rw [hu] at hun; cases hun
          · rw [if_neg hb] at hs2 ho2
            (repeat (first | ((first | refine x_seqX hov ?_ | refine x_regX hov ?_ | refine x_condB ?_); intro r hr; simp (maxSteps := 2000000) (disch := omega) only [push_cast, Nat.reduceAdd, Nat.reduceSub, Nat.reduceMul, Nat.reduceMod, Nat.reduceDiv, Int.reduceToNat, Int.reduceNeg, reduceCtorEq, ↓reduceIte, ↓Int.cast_ofNat_Int, Int.reduceAdd, Int.reduceSub, Int.reduceMul, Int.reduceDiv, Int.reduceMod, ↓Nat.reduceEqDiff, ↓Nat.reduceLT, ↓Nat.reduceLeDiff, ↓Nat.reduceBEq, ↓Int.reduceLT, ↓Int.reduceLE, ↓Int.reduceEq, hi1, hj0, h1, hon, hb] at hr; subst hr; (first | refine ⟨_, by with_reducible rfl, ?_⟩ | refine .inl ⟨by with_reducible rfl, ?_⟩ | refine .inr ⟨by with_reducible rfl, ?_⟩); try simp only [xthen_n, xthen_x, xthen_r, xthen_g, xblock_n, xblock_r, xblock_g, xblock_x, xscope_n, xscope_r, xscope_x, ↓reduceIte, Nat.reduceEqDiff]) | refine awp_seq ?_ | refine awp_block ?_ | refine awp_scope ?_ | ((first | refine awp_skip ?_ | refine awp_exit ?_ | refine awp_ret ?_ | refine awp_label ?_); try simp only [xthen_n, xthen_x, xthen_r, xthen_g, xblock_n, xblock_r, xblock_g, xblock_x, xscope_n, xscope_r, xscope_x, ↓reduceIte, Nat.reduceEqDiff])))
            refine ⟨(i + 1 + 1, o ++ [xs[i]], 0), ⟨by dsimp only; omega, hs2, by simp, ho2⟩, ?_, by dsimp only; omega⟩
            rw [h1]
            exact (by refine sub_lists ?_ ?_ <;> simp (maxSteps := 2000000) (disch := omega) only [push_cast, Nat.reduceAdd, Nat.reduceSub, Nat.reduceMul, Nat.reduceMod, Nat.reduceDiv, Int.reduceToNat, Int.reduceNeg, reduceCtorEq, ↓reduceIte, ↓Int.cast_ofNat_Int, Int.reduceAdd, Int.reduceSub, Int.reduceMul, Int.reduceDiv, Int.reduceMod, ↓Nat.reduceEqDiff, ↓Nat.reduceLT, ↓Nat.reduceLeDiff, ↓Nat.reduceBEq, ↓Int.reduceLT, ↓Int.reduceLE, ↓Int.reduceEq, subT, subH, Int.natCast_add])
      · have hon : ¬ ((onesE (xs.take (i + 1)) : Nat) : Int) = 6 := by omega
        by_cases h5 : 5 ≤ i
        · (repeat (first | ((first | refine x_seqX hov ?_ | refine x_regX hov ?_ | refine x_condB ?_); intro r hr; simp (maxSteps := 2000000) (disch := omega) only [push_cast, Nat.reduceAdd, Nat.reduceSub, Nat.reduceMul, Nat.reduceMod, Nat.reduceDiv, Int.reduceToNat, Int.reduceNeg, reduceCtorEq, ↓reduceIte, ↓Int.cast_ofNat_Int, Int.reduceAdd, Int.reduceSub, Int.reduceMul, Int.reduceDiv, Int.reduceMod, ↓Nat.reduceEqDiff, ↓Nat.reduceLT, ↓Nat.reduceLeDiff, ↓Nat.reduceBEq, ↓Int.reduceLT, ↓Int.reduceLE, ↓Int.reduceEq, hi1, hj0, h1, hon] at hr; subst hr; (first | refine ⟨_, by with_reducible rfl, ?_⟩ | refine .inl ⟨by with_reducible rfl, ?_⟩ | refine .inr ⟨by with_reducible rfl, ?_⟩); try simp only [xthen_n, xthen_x, xthen_r, xthen_g, xblock_n, xblock_r, xblock_g, xblock_x, xscope_n, xscope_r, xscope_x, ↓reduceIte, Nat.reduceEqDiff]) | refine awp_seq ?_ | refine awp_block ?_ | refine awp_scope ?_ | ((first | refine awp_skip ?_ | refine awp_exit ?_ | refine awp_ret ?_ | refine awp_label ?_); try simp only [xthen_n, xthen_x, xthen_r, xthen_g, xblock_n, xblock_r, xblock_g, xblock_x, xscope_n, xscope_r, xscope_x, ↓reduceIte, Nat.reduceEqDiff])))
          refine ⟨(i + 1, o ++ [xs[i]], c + 1), ⟨by dsimp only; omega, hs1, by dsimp only; omega, ho1⟩, ?_, by dsimp only; omega⟩
          rw [h1]
          exact (by refine sub_lists ?_ ?_ <;> simp (maxSteps := 2000000) (disch := omega) only [push_cast, Nat.reduceAdd, Nat.reduceSub, Nat.reduceMul, Nat.reduceMod, Nat.reduceDiv, Int.reduceToNat, Int.reduceNeg, reduceCtorEq, ↓reduceIte, ↓Int.cast_ofNat_Int, Int.reduceAdd, Int.reduceSub, Int.reduceMul, Int.reduceDiv, Int.reduceMod, ↓Nat.reduceEqDiff, ↓Nat.reduceLT, ↓Nat.reduceLeDiff, ↓Nat.reduceBEq, ↓Int.reduceLT, ↓Int.reduceLE, ↓Int.reduceEq, subT, subH, Int.natCast_add])
        · (repeat (first | ((first | refine x_seqX hov ?_ | refine x_regX hov ?_ | refine x_condB ?_); intro r hr; simp (maxSteps := 2000000) (disch := omega) only [push_cast, Nat.reduceAdd, Nat.reduceSub, Nat.reduceMul, Nat.reduceMod, Nat.reduceDiv, Int.reduceToNat, Int.reduceNeg, reduceCtorEq, ↓reduceIte, ↓Int.cast_ofNat_Int, Int.reduceAdd, Int.reduceSub, Int.reduceMul, Int.reduceDiv, Int.reduceMod, ↓Nat.reduceEqDiff, ↓Nat.reduceLT, ↓Nat.reduceLeDiff, ↓Nat.reduceBEq, ↓Int.reduceLT, ↓Int.reduceLE, ↓Int.reduceEq, hi1, hj0, h1, hon] at hr; subst hr; (first | refine ⟨_, by with_reducible rfl, ?_⟩ | refine .inl ⟨by with_reducible rfl, ?_⟩ | refine .inr ⟨by with_reducible rfl, ?_⟩); try simp only [xthen_n, xthen_x, xthen_r, xthen_g, xblock_n, xblock_r, xblock_g, xblock_x, xscope_n, xscope_r, xscope_x, ↓reduceIte, Nat.reduceEqDiff]) | refine awp_seq ?_ | refine awp_block ?_ | refine awp_scope ?_ | ((first | refine awp_skip ?_ | refine awp_exit ?_ | refine awp_ret ?_ | refine awp_label ?_); try simp only [xthen_n, xthen_x, xthen_r, xthen_g, xblock_n, xblock_r, xblock_g, xblock_x, xscope_n, xscope_r, xscope_x, ↓reduceIte, Nat.reduceEqDiff])))
          refine ⟨(i + 1, o ++ [xs[i]], c + 1), ⟨by dsimp only; omega, hs1, by dsimp only; omega, ho1⟩, ?_, by dsimp only; omega⟩
          rw [h1]
          exact (by refine sub_lists ?_ ?_ <;> simp (maxSteps := 2000000) (disch := omega) only [push_cast, Nat.reduceAdd, Nat.reduceSub, Nat.reduceMul, Nat.reduceMod, Nat.reduceDiv, Int.reduceToNat, Int.reduceNeg, reduceCtorEq, ↓reduceIte, ↓Int.cast_ofNat_Int, Int.reduceAdd, Int.reduceSub, Int.reduceMul, Int.reduceDiv, Int.reduceMod, ↓Nat.reduceEqDiff, ↓Nat.reduceLT, ↓Nat.reduceLeDiff, ↓Nat.reduceBEq, ↓Int.reduceLT, ↓Int.reduceLE, ↓Int.reduceEq, subT, subH, Int.natCast_add])
    · rw [if_neg h1] at hs1 ho1
      have h0 : xs[i] = 0 := by omega
      by_cases h5 : 5 ≤ i
      · (repeat (first | ((first | refine x_seqX hov ?_ | refine x_regX hov ?_ | refine x_condB ?_); intro r hr; simp (maxSteps := 2000000) (disch := omega) only [push_cast, Nat.reduceAdd, Nat.reduceSub, Nat.reduceMul, Nat.reduceMod, Nat.reduceDiv, Int.reduceToNat, Int.reduceNeg, reduceCtorEq, ↓reduceIte, ↓Int.cast_ofNat_Int, Int.reduceAdd, Int.reduceSub, Int.reduceMul, Int.reduceDiv, Int.reduceMod, ↓Nat.reduceEqDiff, ↓Nat.reduceLT, ↓Nat.reduceLeDiff, ↓Nat.reduceBEq, ↓Int.reduceLT, ↓Int.reduceLE, ↓Int.reduceEq, hi1, hj0, h0] at hr; subst hr; (first | refine ⟨_, by with_reducible rfl, ?_⟩ | refine .inl ⟨by with_reducible rfl, ?_⟩ | refine .inr ⟨by with_reducible rfl, ?_⟩); try simp only [xthen_n, xthen_x, xthen_r, xthen_g, xblock_n, xblock_r, xblock_g, xblock_x, xscope_n, xscope_r, xscope_x, ↓reduceIte, Nat.reduceEqDiff]) | refine awp_seq ?_ | refine awp_block ?_ | refine awp_scope ?_ | ((first | refine awp_skip ?_ | refine awp_exit ?_ | refine awp_ret ?_ | refine awp_label ?_); try simp only [xthen_n, xthen_x, xthen_r, xthen_g, xblock_n, xblock_r, xblock_g, xblock_x, xscope_n, xscope_r, xscope_x, ↓reduceIte, Nat.reduceEqDiff])))
        refine ⟨(i + 1, o ++ [xs[i]], 0), ⟨by dsimp only; omega, hs1, by simp, ho1⟩, ?_, by dsimp only; omega⟩
        rw [h0]
        exact (by refine sub_lists ?_ ?_ <;> simp (maxSteps := 2000000) (disch := omega) only [push_cast, Nat.reduceAdd, Nat.reduceSub, Nat.reduceMul, Nat.reduceMod, Nat.reduceDiv, Int.reduceToNat, Int.reduceNeg, reduceCtorEq, ↓reduceIte, ↓Int.cast_ofNat_Int, Int.reduceAdd, Int.reduceSub, Int.reduceMul, Int.reduceDiv, Int.reduceMod, ↓Nat.reduceEqDiff, ↓Nat.reduceLT, ↓Nat.reduceLeDiff, ↓Nat.reduceBEq, ↓Int.reduceLT, ↓Int.reduceLE, ↓Int.reduceEq, subT, subH, Int.natCast_add])
      · (repeat (first | ((first | refine x_seqX hov ?_ | refine x_regX hov ?_ | refine x_condB ?_); intro r hr; simp (maxSteps := 2000000) (disch := omega) only [push_cast, Nat.reduceAdd, Nat.reduceSub, Nat.reduceMul, Nat.reduceMod, Nat.reduceDiv, Int.reduceToNat, Int.reduceNeg, reduceCtorEq, ↓reduceIte, ↓Int.cast_ofNat_Int, Int.reduceAdd, Int.reduceSub, Int.reduceMul, Int.reduceDiv, Int.reduceMod, ↓Nat.reduceEqDiff, ↓Nat.reduceLT, ↓Nat.reduceLeDiff, ↓Nat.reduceBEq, ↓Int.reduceLT, ↓Int.reduceLE, ↓Int.reduceEq, hi1, hj0, h0] at hr; subst hr; (first | refine ⟨_, by with_reducible rfl, ?_⟩ | refine .inl ⟨by with_reducible rfl, ?_⟩ | refine .inr ⟨by with_reducible rfl, ?_⟩); try simp only [xthen_n, xthen_x, xthen_r, xthen_g, xblock_n, xblock_r, xblock_g, xblock_x, xscope_n, xscope_r, xscope_x, ↓reduceIte, Nat.reduceEqDiff]) | refine awp_seq ?_ | refine awp_block ?_ | refine awp_scope ?_ | ((first | refine awp_skip ?_ | refine awp_exit ?_ | refine awp_ret ?_ | refine awp_label ?_); try simp only [xthen_n, xthen_x, xthen_r, xthen_g, xblock_n, xblock_r, xblock_g, xblock_x, xscope_n, xscope_r, xscope_x, ↓reduceIte, Nat.reduceEqDiff])))
        refine ⟨(i + 1, o ++ [xs[i]], 0), ⟨by dsimp only; omega, hs1, by simp, ho1⟩, ?_, by dsimp only; omega⟩
        rw [h0]
        exact (by refine sub_lists ?_ ?_ <;> simp (maxSteps := 2000000) (disch := omega) only [push_cast, Nat.reduceAdd, Nat.reduceSub, Nat.reduceMul, Nat.reduceMod, Nat.reduceDiv, Int.reduceToNat, Int.reduceNeg, reduceCtorEq, ↓reduceIte, ↓Int.cast_ofNat_Int, Int.reduceAdd, Int.reduceSub, Int.reduceMul, Int.reduceDiv, Int.reduceMod, ↓Nat.reduceEqDiff, ↓Nat.reduceLT, ↓Nat.reduceLeDiff, ↓Nat.reduceBEq, ↓Int.reduceLT, ↓Int.reduceLE, ↓Int.reduceEq, subT, subH, Int.natCast_add])
  · rw [List.take_of_length_le (by omega)] at hs
    have hun : unL xs = some o := by unfold unL; rw [hs]; simp only [if_neg (show ¬ c = 6 by omega)]
    rw [hu] at hun
    simp only [Option.some.injEq] at hun
    subst hun
    (repeat (first | ((first | refine x_seqX hov ?_ | refine x_regX hov ?_ | refine x_condB ?_); intro r hr; simp (maxSteps := 2000000) (disch := omega) only [push_cast, Nat.reduceAdd, Nat.reduceSub, Nat.reduceMul, Nat.reduceMod, Nat.reduceDiv, Int.reduceToNat, Int.reduceNeg, reduceCtorEq, ↓reduceIte, ↓Int.cast_ofNat_Int, Int.reduceAdd, Int.reduceSub, Int.reduceMul, Int.reduceDiv, Int.reduceMod, ↓Nat.reduceEqDiff, ↓Nat.reduceLT, ↓Nat.reduceLeDiff, ↓Nat.reduceBEq, ↓Int.reduceLT, ↓Int.reduceLE, ↓Int.reduceEq] at hr; subst hr; (first | refine ⟨_, by with_reducible rfl, ?_⟩ | refine .inl ⟨by with_reducible rfl, ?_⟩ | refine .inr ⟨by with_reducible rfl, ?_⟩); try simp only [xthen_n, xthen_x, xthen_r, xthen_g, xblock_n, xblock_r, xblock_g, xblock_x, xscope_n, xscope_r, xscope_x, ↓reduceIte, Nat.reduceEqDiff]) | refine awp_seq ?_ | refine awp_block ?_ | refine awp_scope ?_ | ((first | refine awp_skip ?_ | refine awp_exit ?_ | refine awp_ret ?_ | refine awp_label ?_); try simp only [xthen_n, xthen_x, xthen_r, xthen_g, xblock_n, xblock_r, xblock_g, xblock_x, xscope_n, xscope_r, xscope_x, ↓reduceIte, Nat.reduceEqDiff])))
    (refine x_ret [1000] (by first | exact .inl rfl | exact .inr rfl) rfl (by simp) (by simp) ?_; intro r hr; simp (maxSteps := 2000000) (disch := omega) only [push_cast, Nat.reduceAdd, Nat.reduceSub, Nat.reduceMul, Nat.reduceMod, Nat.reduceDiv, Int.reduceToNat, Int.reduceNeg, reduceCtorEq, ↓reduceIte, ↓Int.cast_ofNat_Int, Int.reduceAdd, Int.reduceSub, Int.reduceMul, Int.reduceDiv, Int.reduceMod, ↓Nat.reduceEqDiff, ↓Nat.reduceLT, ↓Nat.reduceLeDiff, ↓Nat.reduceBEq, ↓Int.reduceLT, ↓Int.reduceLE, ↓Int.reduceEq, Try.results33] at hr; subst hr; refine ⟨_, by with_reducible rfl, ?_⟩; intro r hr; simp (maxSteps := 2000000) (disch := omega) only [push_cast, Nat.reduceAdd, Nat.reduceSub, Nat.reduceMul, Nat.reduceMod, Nat.reduceDiv, Int.reduceToNat, Int.reduceNeg, reduceCtorEq, ↓reduceIte, ↓Int.cast_ofNat_Int, Int.reduceAdd, Int.reduceSub, Int.reduceMul, Int.reduceDiv, Int.reduceMod, ↓Nat.reduceEqDiff, ↓Nat.reduceLT, ↓Nat.reduceLeDiff, ↓Nat.reduceBEq, ↓Int.reduceLT, ↓Int.reduceLE, ↓Int.reduceEq] at hr; subst hr; refine ⟨_, by with_reducible rfl, ?_⟩; simp only [renV, renVs, renB, posOf, ↓reduceIte])
    (first | exact ⟨trivial, trivial⟩ | exact ⟨trivial, rfl⟩ | exact ⟨rfl, trivial⟩ | exact ⟨rfl, rfl⟩)

set_option maxRecDepth 100000 in
set_option maxHeartbeats 4000000 in
theorem refUnstuffNo_a (xs : List Int) (hl : xs.length ≤ 100000) (h01 : b01 xs) (hu : unL xs = none) : ARet Try.prog 33 [.ints .u8 xs none] (.tup [.d (.v (.slice none 0 0)), .d (.v (.bool false))]) [] := by
  refine aret_body (n := 49) Try.func33 rfl Try.ntmps33 rfl (by simp) ?_
  have hov := tab_cons refBehind_t (tab_nil (P := Try.prog))
  (refine x_seq ?_; intro r hr; simp (maxSteps := 2000000) (disch := omega) only [push_cast, Nat.reduceAdd, Nat.reduceSub, Nat.reduceMul, Nat.reduceMod, Nat.reduceDiv, Int.reduceToNat, Int.reduceNeg, reduceCtorEq, ↓reduceIte, ↓Int.cast_ofNat_Int, Int.reduceAdd, Int.reduceSub, Int.reduceMul, Int.reduceDiv, Int.reduceMod, ↓Nat.reduceEqDiff, ↓Nat.reduceLT, ↓Nat.reduceLeDiff, ↓Nat.reduceBEq, ↓Int.reduceLT, ↓Int.reduceLE, ↓Int.reduceEq] at hr; subst hr; refine ⟨_, by with_reducible rfl, ?_⟩)
  (refine x_seq ?_; intro r hr; simp (maxSteps := 2000000) (disch := omega) only [push_cast, Nat.reduceAdd, Nat.reduceSub, Nat.reduceMul, Nat.reduceMod, Nat.reduceDiv, Int.reduceToNat, Int.reduceNeg, reduceCtorEq, ↓reduceIte, ↓Int.cast_ofNat_Int, Int.reduceAdd, Int.reduceSub, Int.reduceMul, Int.reduceDiv, Int.reduceMod, ↓Nat.reduceEqDiff, ↓Nat.reduceLT, ↓Nat.reduceLeDiff, ↓Nat.reduceBEq, ↓Int.reduceLT, ↓Int.reduceLE, ↓Int.reduceEq] at hr; subst hr; refine ⟨_, by with_reducible rfl, ?_⟩)
  (refine x_mat 4 1000 (.ints 5 .u8 [] (some 0)) (by intro r hr; simp (maxSteps := 2000000) (disch := omega) only [push_cast, Nat.reduceAdd, Nat.reduceSub, Nat.reduceMul, Nat.reduceMod, Nat.reduceDiv, Int.reduceToNat, Int.reduceNeg, reduceCtorEq, ↓reduceIte, ↓Int.cast_ofNat_Int, Int.reduceAdd, Int.reduceSub, Int.reduceMul, Int.reduceDiv, Int.reduceMod, ↓Nat.reduceEqDiff, ↓Nat.reduceLT, ↓Nat.reduceLeDiff, ↓Nat.reduceBEq, ↓Int.reduceLT, ↓Int.reduceLE, ↓Int.reduceEq] at hr; subst hr; exact ⟨_, rfl, rfl⟩) (by omega) (by simp) (by first | exact .inl ⟨_, _, rfl⟩ | exact .inr ⟨_, _, rfl⟩) ?_; intro s' hs; simp (maxSteps := 2000000) (disch := omega) only [push_cast, Nat.reduceAdd, Nat.reduceSub, Nat.reduceMul, Nat.reduceMod, Nat.reduceDiv, Int.reduceToNat, Int.reduceNeg, reduceCtorEq, ↓reduceIte, ↓Int.cast_ofNat_Int, Int.reduceAdd, Int.reduceSub, Int.reduceMul, Int.reduceDiv, Int.reduceMod, ↓Nat.reduceEqDiff, ↓Nat.reduceLT, ↓Nat.reduceLeDiff, ↓Nat.reduceBEq, ↓Int.reduceLT, ↓Int.reduceLE, ↓Int.reduceEq, Bool.true_eq_false, St.mat] at hs; subst hs)
  (refine awp_wide 1000 ?_; intro s' hs; simp (maxSteps := 2000000) (disch := omega) only [push_cast, Nat.reduceAdd, Nat.reduceSub, Nat.reduceMul, Nat.reduceMod, Nat.reduceDiv, Int.reduceToNat, Int.reduceNeg, reduceCtorEq, ↓reduceIte, ↓Int.cast_ofNat_Int, Int.reduceAdd, Int.reduceSub, Int.reduceMul, Int.reduceDiv, Int.reduceMod, ↓Nat.reduceEqDiff, ↓Nat.reduceLT, ↓Nat.reduceLeDiff, ↓Nat.reduceBEq, ↓Int.reduceLT, ↓Int.reduceLE, ↓Int.reduceEq, Bool.true_eq_false, St.wide] at hs; subst hs)
  (repeat (first | ((first | refine x_seqX hov ?_ | refine x_regX hov ?_ | refine x_condB ?_); intro r hr; simp (maxSteps := 2000000) (disch := omega) only [push_cast, Nat.reduceAdd, Nat.reduceSub, Nat.reduceMul, Nat.reduceMod, Nat.reduceDiv, Int.reduceToNat, Int.reduceNeg, reduceCtorEq, ↓reduceIte, ↓Int.cast_ofNat_Int, Int.reduceAdd, Int.reduceSub, Int.reduceMul, Int.reduceDiv, Int.reduceMod, ↓Nat.reduceEqDiff, ↓Nat.reduceLT, ↓Nat.reduceLeDiff, ↓Nat.reduceBEq, ↓Int.reduceLT, ↓Int.reduceLE, ↓Int.reduceEq] at hr; subst hr; (first | refine ⟨_, by with_reducible rfl, ?_⟩ | refine .inl ⟨by with_reducible rfl, ?_⟩ | refine .inr ⟨by with_reducible rfl, ?_⟩); try simp only [xthen_n, xthen_x, xthen_r, xthen_g, xblock_n, xblock_r, xblock_g, xblock_x, xscope_n, xscope_r, xscope_x, ↓reduceIte, Nat.reduceEqDiff]) | refine awp_seq ?_ | refine awp_block ?_ | refine awp_scope ?_ | ((first | refine awp_skip ?_ | refine awp_exit ?_ | refine awp_ret ?_ | refine awp_label ?_); try simp only [xthen_n, xthen_x, xthen_r, xthen_g, xblock_n, xblock_r, xblock_g, xblock_x, xscope_n, xscope_r, xscope_x, ↓reduceIte, Nat.reduceEqDiff])))
  refine awp_loop (ι := Nat × List Int × Nat) (fun i => ⟨49, [(0, .d (.ints .u8 xs none)), (4, .own 1000), (5, .d (.v (.int .i64 i.1)))], [(1000, .ints 5 .u8 i.2.1 none)]⟩)
    (fun i => i.1 ≤ xs.length ∧ unS (xs.take i.1) = some (i.2.1, i.2.2) ∧ i.2.2 < 6 ∧ onesE (xs.take i.1) = i.2.2) (fun i => xs.length - i.1) (0, [], 0) ⟨by simp, rfl, by simp, rfl⟩ (by refine sub_lists ?_ ?_ <;> simp (maxSteps := 2000000) (disch := omega) only [push_cast, Nat.reduceAdd, Nat.reduceSub, Nat.reduceMul, Nat.reduceMod, Nat.reduceDiv, Int.reduceToNat, Int.reduceNeg, reduceCtorEq, ↓reduceIte, ↓Int.cast_ofNat_Int, Int.reduceAdd, Int.reduceSub, Int.reduceMul, Int.reduceDiv, Int.reduceMod, ↓Nat.reduceEqDiff, ↓Nat.reduceLT, ↓Nat.reduceLeDiff, ↓Nat.reduceBEq, ↓Int.reduceLT, ↓Int.reduceLE, ↓Int.reduceEq, subT, subH, Int.natCast_zero, Int.cast_ofNat_Int]) ?_
  rintro ⟨i, o, c⟩ ⟨hi, hs, hc, ho⟩
  dsimp only at hi hs hc ho
  obtain ⟨_, hol⟩ := unS_len (s := ([], 0)) (by simp) hs
  rw [List.length_take, List.length_nil] at hol
  by_cases hlt : i < xs.length
  · have hx := h01 xs[i] (by simp)
    have hs1 := unS_next hs hlt hc
    have ho1 := onesE_snoc hlt
    rw [ho] at ho1
    have hlen := onesE_len (xs.take (i + 1))
    rw [List.length_take, Nat.min_eq_left (by omega)] at hlen
    have hi1 : ((i : Int) + 1).toNat = i + 1 := by omega
    have hj0 : ((i : Int) + 1 - 1) = i := by omega
    have htl : (xs.take (i + 1)).length ≤ 100000 := by rw [List.length_take]; omega
    by_cases h1 : xs[i] = 1
    · rw [if_pos h1] at hs1 ho1
      by_cases h6 : c + 1 = 6
      · have hon : ((onesE (xs.take (i + 1)) : Nat) : Int) = 6 := by omega
        by_cases hend : i + 1 = xs.length
        · have hun : unL xs = none := by
            have := hs1
            rw [hend, List.take_length] at this
            unfold unL; rw [this]; simp only [if_pos h6]
          (repeat (first | ((first | refine x_seqX hov ?_ | refine x_regX hov ?_ | refine x_condB ?_); intro r hr; simp (maxSteps := 2000000) (disch := omega) only [push_cast, Nat.reduceAdd, Nat.reduceSub, Nat.reduceMul, Nat.reduceMod, Nat.reduceDiv, Int.reduceToNat, Int.reduceNeg, reduceCtorEq, ↓reduceIte, ↓Int.cast_ofNat_Int, Int.reduceAdd, Int.reduceSub, Int.reduceMul, Int.reduceDiv, Int.reduceMod, ↓Nat.reduceEqDiff, ↓Nat.reduceLT, ↓Nat.reduceLeDiff, ↓Nat.reduceBEq, ↓Int.reduceLT, ↓Int.reduceLE, ↓Int.reduceEq, hi1, hj0, h1, hon] at hr; subst hr; (first | refine ⟨_, by with_reducible rfl, ?_⟩ | refine .inl ⟨by with_reducible rfl, ?_⟩ | refine .inr ⟨by with_reducible rfl, ?_⟩); try simp only [xthen_n, xthen_x, xthen_r, xthen_g, xblock_n, xblock_r, xblock_g, xblock_x, xscope_n, xscope_r, xscope_x, ↓reduceIte, Nat.reduceEqDiff]) | refine awp_seq ?_ | refine awp_block ?_ | refine awp_scope ?_ | ((first | refine awp_skip ?_ | refine awp_exit ?_ | refine awp_ret ?_ | refine awp_label ?_); try simp only [xthen_n, xthen_x, xthen_r, xthen_g, xblock_n, xblock_r, xblock_g, xblock_x, xscope_n, xscope_r, xscope_x, ↓reduceIte, Nat.reduceEqDiff])))
          (refine x_ret0 (by first | exact .inl rfl | exact .inr rfl) ?_; intro r hr; simp (maxSteps := 2000000) (disch := omega) only [push_cast, Nat.reduceAdd, Nat.reduceSub, Nat.reduceMul, Nat.reduceMod, Nat.reduceDiv, Int.reduceToNat, Int.reduceNeg, reduceCtorEq, ↓reduceIte, ↓Int.cast_ofNat_Int, Int.reduceAdd, Int.reduceSub, Int.reduceMul, Int.reduceDiv, Int.reduceMod, ↓Nat.reduceEqDiff, ↓Nat.reduceLT, ↓Nat.reduceLeDiff, ↓Nat.reduceBEq, ↓Int.reduceLT, ↓Int.reduceLE, ↓Int.reduceEq, Try.results33] at hr; subst hr; refine ⟨_, by with_reducible rfl, ?_⟩; simp only [renV, renVs])
          (first | exact ⟨trivial, trivial⟩ | exact ⟨trivial, rfl⟩ | exact ⟨rfl, trivial⟩ | exact ⟨rfl, rfl⟩)
        · have hlt2 : i + 1 < xs.length := by omega
          have hs2 := unS_snoc hlt2
          rw [hs1] at hs2
          simp only [unF, if_pos h6] at hs2
          have ho2 := onesE_snoc hlt2
          have hx2 := h01 xs[i + 1] (by simp)
          by_cases hb : xs[i + 1] = 1
          · rw [if_pos hb] at hs2
            have hun : unL xs = none := unS_none hs2
            (repeat (first | ((first | refine x_seqX hov ?_ | refine x_regX hov ?_ | refine x_condB ?_); intro r hr; simp (maxSteps := 2000000) (disch := omega) only [push_cast, Nat.reduceAdd, Nat.reduceSub, Nat.reduceMul, Nat.reduceMod, Nat.reduceDiv, Int.reduceToNat, Int.reduceNeg, reduceCtorEq, ↓reduceIte, ↓Int.cast_ofNat_Int, Int.reduceAdd, Int.reduceSub, Int.reduceMul, Int.reduceDiv, Int.reduceMod, ↓Nat.reduceEqDiff, ↓Nat.reduceLT, ↓Nat.reduceLeDiff, ↓Nat.reduceBEq, ↓Int.reduceLT, ↓Int.reduceLE, ↓Int.reduceEq, hi1, hj0, h1, hon, hb] at hr; subst hr; (first | refine ⟨_, by with_reducible rfl, ?_⟩ | refine .inl ⟨by with_reducible rfl, ?_⟩ | refine .inr ⟨by with_reducible rfl, ?_⟩); try simp only [xthen_n, xthen_x, xthen_r, xthen_g, xblock_n, xblock_r, xblock_g, xblock_x, xscope_n, xscope_r, xscope_x, ↓reduceIte, Nat.reduceEqDiff]) | refine awp_seq ?_ | refine awp_block ?_ | refine awp_scope ?_ | ((first | refine awp_skip ?_ | refine awp_exit ?_ | refine awp_ret ?_ | refine awp_label ?_); try simp only [xthen_n, xthen_x, xthen_r, xthen_g, xblock_n, xblock_r, xblock_g, xblock_x, xscope_n, xscope_r, xscope_x, ↓reduceIte, Nat.reduceEqDiff])))
            (refine x_ret0 (by first | exact .inl rfl | exact .inr rfl) ?_; intro r hr; simp (maxSteps := 2000000) (disch := omega) only [push_cast, Nat.reduceAdd, Nat.reduceSub, Nat.reduceMul, Nat.reduceMod, Nat.reduceDiv, Int.reduceToNat, Int.reduceNeg, reduceCtorEq, ↓reduceIte, ↓Int.cast_ofNat_Int, Int.reduceAdd, Int.reduceSub, Int.reduceMul, Int.reduceDiv, Int.reduceMod, ↓Nat.reduceEqDiff, ↓Nat.reduceLT, ↓Nat.reduceLeDiff, ↓Nat.reduceBEq, ↓Int.reduceLT, ↓Int.reduceLE, ↓Int.reduceEq, Try.results33] at hr; subst hr; refine ⟨_, by with_reducible rfl, ?_⟩; simp only [renV, renVs])
            (first | exact ⟨trivial, trivial⟩ | exact ⟨trivial, rfl⟩ | exact ⟨rfl, trivial⟩ | exact ⟨rfl, rfl⟩)
          · rw [if_neg hb] at hs2 ho2
            (repeat (first | ((first | refine x_seqX hov ?_ | refine x_regX hov ?_ | refine x_condB ?_); intro r hr; simp (maxSteps := 2000000) (disch := omega) only [push_cast, Nat.reduceAdd, Nat.reduceSub, Nat.reduceMul, Nat.reduceMod, Nat.reduceDiv, Int.reduceToNat, Int.reduceNeg, reduceCtorEq, ↓reduceIte, ↓Int.cast_ofNat_Int, Int.reduceAdd, Int.reduceSub, Int.reduceMul, Int.reduceDiv, Int.reduceMod, ↓Nat.reduceEqDiff, ↓Nat.reduceLT, ↓Nat.reduceLeDiff, ↓Nat.reduceBEq, ↓Int.reduceLT, ↓Int.reduceLE, ↓Int.reduceEq, hi1, hj0, h1, hon, hb] at hr; subst hr; (first | refine ⟨_, by with_reducible rfl, ?_⟩ | refine .inl ⟨by with_reducible rfl, ?_⟩ | refine .inr ⟨by with_reducible rfl, ?_⟩); try simp only [xthen_n, xthen_x, xthen_r, xthen_g, xblock_n, xblock_r, xblock_g, xblock_x, xscope_n, xscope_r, xscope_x, ↓reduceIte, Nat.reduceEqDiff]) | refine awp_seq ?_ | refine awp_block ?_ | refine awp_scope ?_ | ((first | refine awp_skip ?_ | refine awp_exit ?_ | refine awp_ret ?_ | refine awp_label ?_); try simp only [xthen_n, xthen_x, xthen_r, xthen_g, xblock_n, xblock_r, xblock_g, xblock_x, xscope_n, xscope_r, xscope_x, ↓reduceIte, Nat.reduceEqDiff])))
            refine ⟨(i + 1 + 1, o ++ [xs[i]], 0), ⟨by dsimp only; omega, hs2, by simp, ho2⟩, ?_, by dsimp only; omega⟩
            rw [h1]
            exact (by refine sub_lists ?_ ?_ <;> simp (maxSteps := 2000000) (disch := omega) only [push_cast, Nat.reduceAdd, Nat.reduceSub, Nat.reduceMul, Nat.reduceMod, Nat.reduceDiv, Int.reduceToNat, Int.reduceNeg, reduceCtorEq, ↓reduceIte, ↓Int.cast_ofNat_Int, Int.reduceAdd, Int.reduceSub, Int.reduceMul, Int.reduceDiv, Int.reduceMod, ↓Nat.reduceEqDiff, ↓Nat.reduceLT, ↓Nat.reduceLeDiff, ↓Nat.reduceBEq, ↓Int.reduceLT, ↓Int.reduceLE, ↓Int.reduceEq, subT, subH, Int.natCast_add])
      · have hon : ¬ ((onesE (xs.take (i + 1)) : Nat) : Int) = 6 := by omega
        by_cases h5 : 5 ≤ i
        · (repeat (first | ((first | refine x_seqX hov ?_ | refine x_regX hov ?_ | refine x_condB ?_); intro r hr; simp (maxSteps := 2000000) (disch := omega) only [push_cast, Nat.reduceAdd, Nat.reduceSub, Nat.reduceMul, Nat.reduceMod, Nat.reduceDiv, Int.reduceToNat, Int.reduceNeg, reduceCtorEq, ↓reduceIte, ↓Int.cast_ofNat_Int, Int.reduceAdd, Int.reduceSub, Int.reduceMul, Int.reduceDiv, Int.reduceMod, ↓Nat.reduceEqDiff, ↓Nat.reduceLT, ↓Nat.reduceLeDiff, ↓Nat.reduceBEq, ↓Int.reduceLT, ↓Int.reduceLE, ↓Int.reduceEq, hi1, hj0, h1, hon] at hr; subst hr; (first | refine ⟨_, by with_reducible rfl, ?_⟩ | refine .inl ⟨by with_reducible rfl, ?_⟩ | refine .inr ⟨by with_reducible rfl, ?_⟩); try simp only [xthen_n, xthen_x, xthen_r, xthen_g, xblock_n, xblock_r, xblock_g, xblock_x, xscope_n, xscope_r, xscope_x, ↓reduceIte, Nat.reduceEqDiff]) | refine awp_seq ?_ | refine awp_block ?_ | refine awp_scope ?_ | ((first | refine awp_skip ?_ | refine awp_exit ?_ | refine awp_ret ?_ | refine awp_label ?_); try simp only [xthen_n, xthen_x, xthen_r, xthen_g, xblock_n, xblock_r, xblock_g, xblock_x, xscope_n, xscope_r, xscope_x, ↓reduceIte, Nat.reduceEqDiff])))
          refine ⟨(i + 1, o ++ [xs[i]], c + 1), ⟨by dsimp only; omega, hs1, by dsimp only; omega, ho1⟩, ?_, by dsimp only; omega⟩
          rw [h1]
          exact (by refine sub_lists ?_ ?_ <;> simp (maxSteps := 2000000) (disch := omega) only [push_cast, Nat.reduceAdd, Nat.reduceSub, Nat.reduceMul, Nat.reduceMod, Nat.reduceDiv, Int.reduceToNat, Int.reduceNeg, reduceCtorEq, ↓reduceIte, ↓Int.cast_ofNat_Int, Int.reduceAdd, Int.reduceSub, Int.reduceMul, Int.reduceDiv, Int.reduceMod, ↓Nat.reduceEqDiff, ↓Nat.reduceLT, ↓Nat.reduceLeDiff, ↓Nat.reduceBEq, ↓Int.reduceLT, ↓Int.reduceLE, ↓Int.reduceEq, subT, subH, Int.natCast_add])
        · (repeat (first | ((first | refine x_seqX hov ?_ | refine x_regX hov ?_ | refine x_condB ?_); intro r hr; simp (maxSteps := 2000000) (disch := omega) only [push_cast, Nat.reduceAdd, Nat.reduceSub, Nat.reduceMul, Nat.reduceMod, Nat.reduceDiv, Int.reduceToNat, Int.reduceNeg, reduceCtorEq, ↓reduceIte, ↓Int.cast_ofNat_Int, Int.reduceAdd, Int.reduceSub, Int.reduceMul, Int.reduceDiv, Int.reduceMod, ↓Nat.reduceEqDiff, ↓Nat.reduceLT, ↓Nat.reduceLeDiff, ↓Nat.reduceBEq, ↓Int.reduceLT, ↓Int.reduceLE, ↓Int.reduceEq, hi1, hj0, h1, hon] at hr; subst hr; (first | refine ⟨_, by with_reducible rfl, ?_⟩ | refine .inl ⟨by with_reducible rfl, ?_⟩ | refine .inr ⟨by with_reducible rfl, ?_⟩); try simp only [xthen_n, xthen_x, xthen_r, xthen_g, xblock_n, xblock_r, xblock_g, xblock_x, xscope_n, xscope_r, xscope_x, ↓reduceIte, Nat.reduceEqDiff]) | refine awp_seq ?_ | refine awp_block ?_ | refine awp_scope ?_ | ((first | refine awp_skip ?_ | refine awp_exit ?_ | refine awp_ret ?_ | refine awp_label ?_); try simp only [xthen_n, xthen_x, xthen_r, xthen_g, xblock_n, xblock_r, xblock_g, xblock_x, xscope_n, xscope_r, xscope_x, ↓reduceIte, Nat.reduceEqDiff])))
          refine ⟨(i + 1, o ++ [xs[i]], c + 1), ⟨by dsimp only; omega, hs1, by dsimp only; omega, ho1⟩, ?_, by dsimp only; omega⟩
          rw [h1]
          exact (by refine sub_lists ?_ ?_ <;> simp (maxSteps := 2000000) (disch := omega) only [push_cast, Nat.reduceAdd, Nat.reduceSub, Nat.reduceMul, Nat.reduceMod, Nat.reduceDiv, Int.reduceToNat, Int.reduceNeg, reduceCtorEq, ↓reduceIte, ↓Int.cast_ofNat_Int, Int.reduceAdd, Int.reduceSub, Int.reduceMul, Int.reduceDiv, Int.reduceMod, ↓Nat.reduceEqDiff, ↓Nat.reduceLT, ↓Nat.reduceLeDiff, ↓Nat.reduceBEq, ↓Int.reduceLT, ↓Int.reduceLE, ↓Int.reduceEq, subT, subH, Int.natCast_add])
    · rw [if_neg h1] at hs1 ho1
      have h0 : xs[i] = 0 := by omega
      by_cases h5 : 5 ≤ i
      · (repeat (first | ((first | refine x_seqX hov ?_ | refine x_regX hov ?_ | refine x_condB ?_); intro r hr; simp (maxSteps := 2000000) (disch := omega) only [push_cast, Nat.reduceAdd, Nat.reduceSub, Nat.reduceMul, Nat.reduceMod, Nat.reduceDiv, Int.reduceToNat, Int.reduceNeg, reduceCtorEq, ↓reduceIte, ↓Int.cast_ofNat_Int, Int.reduceAdd, Int.reduceSub, Int.reduceMul, Int.reduceDiv, Int.reduceMod, ↓Nat.reduceEqDiff, ↓Nat.reduceLT, ↓Nat.reduceLeDiff, ↓Nat.reduceBEq, ↓Int.reduceLT, ↓Int.reduceLE, ↓Int.reduceEq, hi1, hj0, h0] at hr; subst hr; (first | refine ⟨_, by with_reducible rfl, ?_⟩ | refine .inl ⟨by with_reducible rfl, ?_⟩ | refine .inr ⟨by with_reducible rfl, ?_⟩); try simp only [xthen_n, xthen_x, xthen_r, xthen_g, xblock_n, xblock_r, xblock_g, xblock_x, xscope_n, xscope_r, xscope_x, ↓reduceIte, Nat.reduceEqDiff]) | refine awp_seq ?_ | refine awp_block ?_ | refine awp_scope ?_ | ((first | refine awp_skip ?_ | refine awp_exit ?_ | refine awp_ret ?_ | refine awp_label ?_); try simp only [xthen_n, xthen_x, xthen_r, xthen_g, xblock_n, xblock_r, xblock_g, xblock_x, xscope_n, xscope_r, xscope_x, ↓reduceIte, Nat.reduceEqDiff])))
        refine ⟨(i + 1, o ++ [xs[i]], 0), ⟨by dsimp only; omega, hs1, by simp, ho1⟩, ?_, by dsimp only; omega⟩
        rw [h0]
        exact (by refine sub_lists ?_ ?_ <;> simp (maxSteps := 2000000) (disch := omega) only [push_cast, Nat.reduceAdd, Nat.reduceSub, Nat.reduceMul, Nat.reduceMod, Nat.reduceDiv, Int.reduceToNat, Int.reduceNeg, reduceCtorEq, ↓reduceIte, ↓Int.cast_ofNat_Int, Int.reduceAdd, Int.reduceSub, Int.reduceMul, Int.reduceDiv, Int.reduceMod, ↓Nat.reduceEqDiff, ↓Nat.reduceLT, ↓Nat.reduceLeDiff, ↓Nat.reduceBEq, ↓Int.reduceLT, ↓Int.reduceLE, ↓Int.reduceEq, subT, subH, Int.natCast_add])
      · (repeat (first | ((first | refine x_seqX hov ?_ | refine x_regX hov ?_ | refine x_condB ?_); intro r hr; simp (maxSteps := 2000000) (disch := omega) only [push_cast, Nat.reduceAdd, Nat.reduceSub, Nat.reduceMul, Nat.reduceMod, Nat.reduceDiv, Int.reduceToNat, Int.reduceNeg, reduceCtorEq, ↓reduceIte, ↓Int.cast_ofNat_Int, Int.reduceAdd, Int.reduceSub, Int.reduceMul, Int.reduceDiv, Int.reduceMod, ↓Nat.reduceEqDiff, ↓Nat.reduceLT, ↓Nat.reduceLeDiff, ↓Nat.reduceBEq, ↓Int.reduceLT, ↓Int.reduceLE, ↓Int.reduceEq, hi1, hj0, h0] at hr; subst hr; (first | refine ⟨_, by with_reducible rfl, ?_⟩ | refine .inl ⟨by with_reducible rfl, ?_⟩ | refine .inr ⟨by with_reducible rfl, ?_⟩); try simp only [xthen_n, xthen_x, xthen_r, xthen_g, xblock_n, xblock_r, xblock_g, xblock_x, xscope_n, xscope_r, xscope_x, ↓reduceIte, Nat.reduceEqDiff]) | refine awp_seq ?_ | refine awp_block ?_ | refine awp_scope ?_ | ((first | refine awp_skip ?_ | refine awp_exit ?_ | refine awp_ret ?_ | refine awp_label ?_); try simp only [xthen_n, xthen_x, xthen_r, xthen_g, xblock_n, xblock_r, xblock_g, xblock_x, xscope_n, xscope_r, xscope_x, ↓reduceIte, Nat.reduceEqDiff])))
        refine ⟨(i + 1, o ++ [xs[i]], 0), ⟨by dsimp only; omega, hs1, by simp, ho1⟩, ?_, by dsimp only; omega⟩
        rw [h0]
        exact (by refine sub_lists ?_ ?_ <;> simp (maxSteps := 2000000) (disch := omega) only [push_cast, Nat.reduceAdd, Nat.reduceSub, Nat.reduceMul, Nat.reduceMod, Nat.reduceDiv, Int.reduceToNat, Int.reduceNeg, reduceCtorEq, ↓reduceIte, ↓Int.cast_ofNat_Int, Int.reduceAdd, Int.reduceSub, Int.reduceMul, Int.reduceDiv, Int.reduceMod, ↓Nat.reduceEqDiff, ↓Nat.reduceLT, ↓Nat.reduceLeDiff, ↓Nat.reduceBEq, ↓Int.reduceLT, ↓Int.reduceLE, ↓Int.reduceEq, subT, subH, Int.natCast_add])
  · rw [List.take_of_length_le (by omega)] at hs
    have hun : unL xs = some o := by unfold unL; rw [hs]; simp only [if_neg (show ¬ c = 6 by omega)]
    rw [hu] at hun; cases hun
end Go.Proofs.Ytolmhlikmjkkfaa
