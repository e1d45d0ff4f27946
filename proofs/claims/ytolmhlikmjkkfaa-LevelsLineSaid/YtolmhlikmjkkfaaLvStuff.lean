/-
  The statement LevelsStuff: the law's walk.
  Conditions: none.
-/
import Derived.Test.YtolmhlikmjkkfaaLvQ
namespace Go.Proofs.Ytolmhlikmjkkfaa
open Go.RowKit
set_option linter.unusedVariables false
set_option linter.unusedSimpArgs false

def stuff_F (us : List AV) : Option (AV × List Blk) := match us with
  | [.d (.ints .u8 xs c)] => if xs.length ≤ 100000 ∧ c = none then (if validL xs = true then some (.tup [.d (.ints .u8 (stuffL xs) (some (stuffL xs).length)), .d (.v (.int .i64 0))], []) else some (.tup [.d (.v (.slice none 0 0)), .d (.v (.int .i64 1))], [])) else none
  | _ => none
theorem stuff_t : TellOk Try.prog 29 stuff_F := by
  intro us R BS h
  unfold stuff_F at h
  split at h
  · rename_i xs c
    split at h
    · rename_i hc
      split at h
      · rename_i hv
        simp only [Option.some.injEq, Prod.mk.injEq] at h
        obtain ⟨rfl, rfl⟩ := h
        exact (by obtain ⟨h1, rfl⟩ := hc; exact stuffOk_a xs h1 hv)
      · rename_i hv
        simp only [Option.some.injEq, Prod.mk.injEq] at h
        obtain ⟨rfl, rfl⟩ := h
        exact (by obtain ⟨h1, rfl⟩ := hc; exact stuffArg_a xs h1 (by simpa using hv))
    · cases h
  · cases h
attribute [push_cast] stuff_F

def unstuff_F (us : List AV) : Option (AV × List Blk) := match us with
  | [.d (.ints .u8 xs c)] => if xs.length ≤ 100000 ∧ c = none then (if validL xs = true then some (unR xs, []) else some (.tup [.d (.v (.slice none 0 0)), .d (.v (.int .i64 1))], [])) else none
  | _ => none
theorem unstuff_t : TellOk Try.prog 30 unstuff_F := by
  intro us R BS h
  unfold unstuff_F at h
  split at h
  · rename_i xs c
    split at h
    · rename_i hc
      split at h
      · rename_i hv
        simp only [Option.some.injEq, Prod.mk.injEq] at h
        obtain ⟨rfl, rfl⟩ := h
        exact (by obtain ⟨h1, rfl⟩ := hc; exact unstuff_a xs h1 hv)
      · rename_i hv
        simp only [Option.some.injEq, Prod.mk.injEq] at h
        obtain ⟨rfl, rfl⟩ := h
        exact (by obtain ⟨h1, rfl⟩ := hc; exact unstuffArg_a xs h1 (by simpa using hv))
    · cases h
  · cases h
attribute [push_cast] unstuff_F

def refStuff_F (us : List AV) : Option (AV × List Blk) := match us with
  | [.d (.ints .u8 xs c)] => if xs.length ≤ 100000 ∧ c = none ∧ b01 xs then some (.own 0, [.ints 5 .u8 (stuffL xs) none]) else none
  | _ => none
theorem refStuff_t : TellOk Try.prog 32 refStuff_F := by
  intro us R BS h
  unfold refStuff_F at h
  split at h
  · rename_i xs c
    split at h
    · rename_i hc
      simp only [Option.some.injEq, Prod.mk.injEq] at h
      obtain ⟨rfl, rfl⟩ := h
      exact (by obtain ⟨h1, rfl, h2⟩ := hc; exact refStuff_a xs h1 h2)
    · cases h
  · cases h
attribute [push_cast] refStuff_F

theorem refUnstuffYes_a (xs : List Int) (h1 : xs.length ≤ 100000) (h2 : b01 xs) (hv : (unL xs).isSome = true) : ARet Try.prog 33 [.ints .u8 xs none] (.tup [.own 0, .d (.v (.bool true))]) [.ints 5 .u8 ((unL xs).getD []) none] := by
  obtain ⟨o, ho⟩ := Option.isSome_iff_exists.1 hv
  rw [ho]
  exact refUnstuffOk_a xs h1 h2 o ho

def refUnstuff_F (us : List AV) : Option (AV × List Blk) := match us with
  | [.d (.ints .u8 xs c)] => if xs.length ≤ 100000 ∧ c = none ∧ b01 xs then (if (unL xs).isSome = true then some (.tup [.own 0, .d (.v (.bool true))], [.ints 5 .u8 ((unL xs).getD []) none]) else some (.tup [.d (.v (.slice none 0 0)), .d (.v (.bool false))], [])) else none
  | _ => none
theorem refUnstuff_t : TellOk Try.prog 33 refUnstuff_F := by
  intro us R BS h
  unfold refUnstuff_F at h
  split at h
  · rename_i xs c
    split at h
    · rename_i hc
      split at h
      · rename_i hv
        simp only [Option.some.injEq, Prod.mk.injEq] at h
        obtain ⟨rfl, rfl⟩ := h
        exact (by obtain ⟨h1, rfl, h2⟩ := hc; exact refUnstuffYes_a xs h1 h2 hv)
      · rename_i hv
        simp only [Option.some.injEq, Prod.mk.injEq] at h
        obtain ⟨rfl, rfl⟩ := h
        exact (by obtain ⟨h1, rfl, h2⟩ := hc; exact refUnstuffNo_a xs h1 h2 (by simpa using hv))
    · cases h
  · cases h
attribute [push_cast] refUnstuff_F

theorem un_01R : ∀ (xs : List Int) (c : Nat) (o : List Int), b01 xs → unRr c xs = some o → b01 o ∧ o.length ≤ xs.length
  | [], c, o, _, he => by
    simp only [unRr] at he
    split at he
    · cases he
    · cases he; exact ⟨by intro x hx; simp at hx, by simp⟩
  | x :: xs, c, o, h, he => by
    have hr : b01 xs := fun y hy => h y (by simp [hy])
    simp only [unRr] at he
    split at he
    · split at he
      · cases he
      · have := un_01R xs 0 o hr he
        exact ⟨this.1, by rw [List.length_cons]; omega⟩
    · obtain ⟨o', h1, rfl⟩ := Option.map_eq_some_iff.1 he
      have := un_01R xs _ o' hr h1
      refine ⟨fun y hy => ?_, by simp only [List.length_cons]; omega⟩
      rcases List.mem_cons.1 hy with h' | h'
      · rw [h']; exact h x (by simp)
      · exact this.1 y h'

set_option maxRecDepth 100000 in
set_option maxHeartbeats 8000000 in
theorem stuffWalk_a (b : List Int) (hb8 : u8s b) (hbl : b.length ≤ 9223372036854775807) : AFun Try.prog 9 [.ints .u8 b none] (.v (.bool true)) := by
  have hov := tab_cons stuff_t (tab_cons unstuff_t (tab_cons refValid_t (tab_cons refOnes_t (tab_cons refStuff_t (tab_cons refUnstuff_t (tab_cons lives_t (tab_nil (P := Try.prog))))))))
  by_cases h1 : 1500 < b.length
  · ((first | refine afun_x ty_mixed hov 60 ?_ | refine aret_x ty_mixed hov 60 ?_); intro r hr; simp (maxSteps := 2000000) (disch := omega) only [push_cast, Nat.reduceAdd, Nat.reduceSub, Nat.reduceMul, Nat.reduceMod, Nat.reduceDiv, Int.reduceToNat, Int.reduceNeg, reduceCtorEq, ↓reduceIte, ↓Int.cast_ofNat_Int, Int.reduceAdd, Int.reduceSub, Int.reduceMul, Int.reduceDiv, Int.reduceMod, ↓Nat.reduceEqDiff, ↓Nat.reduceLT, ↓Nat.reduceLeDiff, ↓Nat.reduceBEq, ↓Int.reduceLT, ↓Int.reduceLE, ↓Int.reduceEq, Try.ntmps9, Try.results9, (show Try.f9.body = some _ from rfl)] at hr; subst hr)
    with_reducible rfl
  cases hv : validL b with
  | false =>
    ((first | refine afun_x ty_mixed hov 60 ?_ | refine aret_x ty_mixed hov 60 ?_); intro r hr; simp (maxSteps := 2000000) (disch := omega) only [push_cast, Nat.reduceAdd, Nat.reduceSub, Nat.reduceMul, Nat.reduceMod, Nat.reduceDiv, Int.reduceToNat, Int.reduceNeg, reduceCtorEq, ↓reduceIte, ↓Int.cast_ofNat_Int, Int.reduceAdd, Int.reduceSub, Int.reduceMul, Int.reduceDiv, Int.reduceMod, ↓Nat.reduceEqDiff, ↓Nat.reduceLT, ↓Nat.reduceLeDiff, ↓Nat.reduceBEq, ↓Int.reduceLT, ↓Int.reduceLE, ↓Int.reduceEq, hv, hb8, Try.ntmps9, Try.results9, (show Try.f9.body = some _ from rfl)] at hr; subst hr)
    with_reducible rfl
  | true =>
    have h01 := valid_01 hb8 hv
    have hs01 := stuff_01 h01
    have hsv := valid_of01 hs01
    have hsl := stuffL_len b
    have r2 : unR (stuffL b) = .tup [.d (.ints .u8 b (some b.length)), .d (.v (.int .i64 0))] := by unfold unR; rw [un_stuff h01]
    refine afun_body (n := 132) Try.func9 rfl Try.ntmps9 rfl (by simp) ?_
    cases hu : unL b with
    | none =>
      have r1 : unR b = .tup [.d (.v (.slice none 0 0)), .d (.v (.int .i64 4))] := by unfold unR; rw [hu]
      (repeat (first | ((first | refine x_seqX hov ?_ | refine x_regX hov ?_ | refine x_condB ?_); intro r hr; simp (maxSteps := 2000000) (disch := omega) only [push_cast, Nat.reduceAdd, Nat.reduceSub, Nat.reduceMul, Nat.reduceMod, Nat.reduceDiv, Int.reduceToNat, Int.reduceNeg, reduceCtorEq, ↓reduceIte, ↓Int.cast_ofNat_Int, Int.reduceAdd, Int.reduceSub, Int.reduceMul, Int.reduceDiv, Int.reduceMod, ↓Nat.reduceEqDiff, ↓Nat.reduceLT, ↓Nat.reduceLeDiff, ↓Nat.reduceBEq, ↓Int.reduceLT, ↓Int.reduceLE, ↓Int.reduceEq, hv, hb8, r1] at hr; subst hr; (first | refine ⟨_, by with_reducible rfl, ?_⟩ | refine .inl ⟨by with_reducible rfl, ?_⟩ | refine .inr ⟨by with_reducible rfl, ?_⟩); try simp only [xthen_n, xthen_x, xthen_r, xthen_g, xblock_n, xblock_r, xblock_g, xblock_x, xscope_n, xscope_r, xscope_x, ↓reduceIte, Nat.reduceEqDiff]) | refine awp_seq ?_ | refine awp_block ?_ | refine awp_scope ?_ | ((first | refine awp_skip ?_ | refine awp_exit ?_ | refine awp_ret ?_ | refine awp_label ?_); try simp only [xthen_n, xthen_x, xthen_r, xthen_g, xblock_n, xblock_r, xblock_g, xblock_x, xscope_n, xscope_r, xscope_x, ↓reduceIte, Nat.reduceEqDiff])))
      refine awp_loop (ι := Nat) (fun i => ⟨132, [(0, .d (.ints .u8 b none)), (3, .d (.v (.string (strOfNums b)))), (4, .d (.ints .u8 (stuffL b) (some (stuffL b).length))), (5, .d (.v (.int .i64 0))), (6, .d (.v (.slice none 0 0))), (7, .d (.v (.int .i64 4))), (8, .d (.v (.int .i64 i)))], []⟩)
        (fun i => 7 ≤ i ∧ i ≤ (stuffL b).length + 7) (fun i => (stuffL b).length + 7 - i) 7 ⟨by omega, by omega⟩ (by refine sub_lists ?_ ?_ <;> simp (maxSteps := 2000000) (disch := omega) only [push_cast, Nat.reduceAdd, Nat.reduceSub, Nat.reduceMul, Nat.reduceMod, Nat.reduceDiv, Int.reduceToNat, Int.reduceNeg, reduceCtorEq, ↓reduceIte, ↓Int.cast_ofNat_Int, Int.reduceAdd, Int.reduceSub, Int.reduceMul, Int.reduceDiv, Int.reduceMod, ↓Nat.reduceEqDiff, ↓Nat.reduceLT, ↓Nat.reduceLeDiff, ↓Nat.reduceBEq, ↓Int.reduceLT, ↓Int.reduceLE, ↓Int.reduceEq, subT, subH, Int.cast_ofNat_Int]) ?_
      rintro i ⟨hi7, hil⟩
      (repeat (first | ((first | refine x_seqX hov ?_ | refine x_regX hov ?_ | refine x_condB ?_); intro r hr; simp (maxSteps := 2000000) (disch := omega) only [push_cast, Nat.reduceAdd, Nat.reduceSub, Nat.reduceMul, Nat.reduceMod, Nat.reduceDiv, Int.reduceToNat, Int.reduceNeg, reduceCtorEq, ↓reduceIte, ↓Int.cast_ofNat_Int, Int.reduceAdd, Int.reduceSub, Int.reduceMul, Int.reduceDiv, Int.reduceMod, ↓Nat.reduceEqDiff, ↓Nat.reduceLT, ↓Nat.reduceLeDiff, ↓Nat.reduceBEq, ↓Int.reduceLT, ↓Int.reduceLE, ↓Int.reduceEq] at hr; subst hr; (first | refine ⟨_, by with_reducible rfl, ?_⟩ | refine .inl ⟨by with_reducible rfl, ?_⟩ | refine .inr ⟨by with_reducible rfl, ?_⟩); try simp only [xthen_n, xthen_x, xthen_r, xthen_g, xblock_n, xblock_r, xblock_g, xblock_x, xscope_n, xscope_r, xscope_x, ↓reduceIte, Nat.reduceEqDiff]) | refine awp_seq ?_ | refine awp_block ?_ | refine awp_scope ?_ | ((first | refine awp_skip ?_ | refine awp_exit ?_ | refine awp_ret ?_ | refine awp_label ?_); try simp only [xthen_n, xthen_x, xthen_r, xthen_g, xblock_n, xblock_r, xblock_g, xblock_x, xscope_n, xscope_r, xscope_x, ↓reduceIte, Nat.reduceEqDiff])))
      (refine x_cond ?_; intro r hr; simp (maxSteps := 2000000) (disch := omega) only [push_cast, Nat.reduceAdd, Nat.reduceSub, Nat.reduceMul, Nat.reduceMod, Nat.reduceDiv, Int.reduceToNat, Int.reduceNeg, reduceCtorEq, ↓reduceIte, ↓Int.cast_ofNat_Int, Int.reduceAdd, Int.reduceSub, Int.reduceMul, Int.reduceDiv, Int.reduceMod, ↓Nat.reduceEqDiff, ↓Nat.reduceLT, ↓Nat.reduceLeDiff, ↓Nat.reduceBEq, ↓Int.reduceLT, ↓Int.reduceLE, ↓Int.reduceEq] at hr; subst hr; refine ⟨_, by with_reducible rfl, ?_⟩; refine ⟨fun h => ?_, fun h => ?_⟩ <;> (try simp only [decide_eq_true_eq, decide_eq_false_iff_not, ne_eq, Bool.not_eq_true', Bool.not_eq_false', Bool.and_eq_true, Bool.or_eq_true, Bool.and_eq_false_imp, Bool.or_eq_false_iff, beq_iff_eq, bne_iff_ne, Bool.not_eq_true, Bool.not_eq_false, not_true_eq_false, not_false_eq_true, Int.not_lt, Int.not_le, Bool.decide_eq_true, if_true, if_false] at h))
      · have ho := onesE_stuff h01 i
        have htl : ((stuffL b).take i).length ≤ 100000 := by rw [List.length_take]; omega
        (repeat (first | ((first | refine x_seqX hov ?_ | refine x_regX hov ?_ | refine x_condB ?_); intro r hr; simp (maxSteps := 2000000) (disch := omega) only [push_cast, Nat.reduceAdd, Nat.reduceSub, Nat.reduceMul, Nat.reduceMod, Nat.reduceDiv, Int.reduceToNat, Int.reduceNeg, reduceCtorEq, ↓reduceIte, ↓Int.cast_ofNat_Int, Int.reduceAdd, Int.reduceSub, Int.reduceMul, Int.reduceDiv, Int.reduceMod, ↓Nat.reduceEqDiff, ↓Nat.reduceLT, ↓Nat.reduceLeDiff, ↓Nat.reduceBEq, ↓Int.reduceLT, ↓Int.reduceLE, ↓Int.reduceEq] at hr; subst hr; (first | refine ⟨_, by with_reducible rfl, ?_⟩ | refine .inl ⟨by with_reducible rfl, ?_⟩ | refine .inr ⟨by with_reducible rfl, ?_⟩); try simp only [xthen_n, xthen_x, xthen_r, xthen_g, xblock_n, xblock_r, xblock_g, xblock_x, xscope_n, xscope_r, xscope_x, ↓reduceIte, Nat.reduceEqDiff]) | refine awp_seq ?_ | refine awp_block ?_ | refine awp_scope ?_ | ((first | refine awp_skip ?_ | refine awp_exit ?_ | refine awp_ret ?_ | refine awp_label ?_); try simp only [xthen_n, xthen_x, xthen_r, xthen_g, xblock_n, xblock_r, xblock_g, xblock_x, xscope_n, xscope_r, xscope_x, ↓reduceIte, Nat.reduceEqDiff])))
        refine ⟨i + 1, ⟨by omega, by omega⟩, (by refine sub_lists ?_ ?_ <;> simp (maxSteps := 2000000) (disch := omega) only [push_cast, Nat.reduceAdd, Nat.reduceSub, Nat.reduceMul, Nat.reduceMod, Nat.reduceDiv, Int.reduceToNat, Int.reduceNeg, reduceCtorEq, ↓reduceIte, ↓Int.cast_ofNat_Int, Int.reduceAdd, Int.reduceSub, Int.reduceMul, Int.reduceDiv, Int.reduceMod, ↓Nat.reduceEqDiff, ↓Nat.reduceLT, ↓Nat.reduceLeDiff, ↓Nat.reduceBEq, ↓Int.reduceLT, ↓Int.reduceLE, ↓Int.reduceEq, subT, subH, Int.natCast_add]), by omega⟩
      · (repeat (first | ((first | refine x_seqX hov ?_ | refine x_regX hov ?_ | refine x_condB ?_); intro r hr; simp (maxSteps := 2000000) (disch := omega) only [push_cast, Nat.reduceAdd, Nat.reduceSub, Nat.reduceMul, Nat.reduceMod, Nat.reduceDiv, Int.reduceToNat, Int.reduceNeg, reduceCtorEq, ↓reduceIte, ↓Int.cast_ofNat_Int, Int.reduceAdd, Int.reduceSub, Int.reduceMul, Int.reduceDiv, Int.reduceMod, ↓Nat.reduceEqDiff, ↓Nat.reduceLT, ↓Nat.reduceLeDiff, ↓Nat.reduceBEq, ↓Int.reduceLT, ↓Int.reduceLE, ↓Int.reduceEq, hsv, r2] at hr; subst hr; (first | refine ⟨_, by with_reducible rfl, ?_⟩ | refine .inl ⟨by with_reducible rfl, ?_⟩ | refine .inr ⟨by with_reducible rfl, ?_⟩); try simp only [xthen_n, xthen_x, xthen_r, xthen_g, xblock_n, xblock_r, xblock_g, xblock_x, xscope_n, xscope_r, xscope_x, ↓reduceIte, Nat.reduceEqDiff]) | refine awp_seq ?_ | refine awp_block ?_ | refine awp_scope ?_ | ((first | refine awp_skip ?_ | refine awp_exit ?_ | refine awp_ret ?_ | refine awp_label ?_); try simp only [xthen_n, xthen_x, xthen_r, xthen_g, xblock_n, xblock_r, xblock_g, xblock_x, xscope_n, xscope_r, xscope_x, ↓reduceIte, Nat.reduceEqDiff])))
        (refine x_drawX ty_mixed hov 18 (by kernel_rfl) ?_; intro r hr; simp (maxSteps := 2000000) (disch := omega) only [push_cast, Nat.reduceAdd, Nat.reduceSub, Nat.reduceMul, Nat.reduceMod, Nat.reduceDiv, Int.reduceToNat, Int.reduceNeg, reduceCtorEq, ↓reduceIte, ↓Int.cast_ofNat_Int, Int.reduceAdd, Int.reduceSub, Int.reduceMul, Int.reduceDiv, Int.reduceMod, ↓Nat.reduceEqDiff, ↓Nat.reduceLT, ↓Nat.reduceLeDiff, ↓Nat.reduceBEq, ↓Int.reduceLT, ↓Int.reduceLE, ↓Int.reduceEq, h01] at hr; subst hr; refine ⟨_, _, by with_reducible rfl, ?_⟩; intro r hr; simp (maxSteps := 2000000) (disch := omega) only [push_cast, Nat.reduceAdd, Nat.reduceSub, Nat.reduceMul, Nat.reduceMod, Nat.reduceDiv, Int.reduceToNat, Int.reduceNeg, reduceCtorEq, ↓reduceIte, ↓Int.cast_ofNat_Int, Int.reduceAdd, Int.reduceSub, Int.reduceMul, Int.reduceDiv, Int.reduceMod, ↓Nat.reduceEqDiff, ↓Nat.reduceLT, ↓Nat.reduceLeDiff, ↓Nat.reduceBEq, ↓Int.reduceLT, ↓Int.reduceLE, ↓Int.reduceEq, h01] at hr; subst hr; refine ⟨_, by with_reducible rfl, ?_⟩; try simp only [xthen_n, xthen_x, xthen_r, xthen_g, xblock_n, xblock_r, xblock_g, xblock_x, xscope_n, xscope_r, xscope_x, ↓reduceIte, Nat.reduceEqDiff])
        (repeat (first | ((first | refine x_seqX hov ?_ | refine x_regX hov ?_ | refine x_condB ?_); intro r hr; simp (maxSteps := 2000000) (disch := omega) only [push_cast, Nat.reduceAdd, Nat.reduceSub, Nat.reduceMul, Nat.reduceMod, Nat.reduceDiv, Int.reduceToNat, Int.reduceNeg, reduceCtorEq, ↓reduceIte, ↓Int.cast_ofNat_Int, Int.reduceAdd, Int.reduceSub, Int.reduceMul, Int.reduceDiv, Int.reduceMod, ↓Nat.reduceEqDiff, ↓Nat.reduceLT, ↓Nat.reduceLeDiff, ↓Nat.reduceBEq, ↓Int.reduceLT, ↓Int.reduceLE, ↓Int.reduceEq, h01, hu, Option.isSome_some, Option.isSome_none, Option.getD_some, Option.isSome_none] at hr; subst hr; (first | refine ⟨_, by with_reducible rfl, ?_⟩ | refine .inl ⟨by with_reducible rfl, ?_⟩ | refine .inr ⟨by with_reducible rfl, ?_⟩); try simp only [xthen_n, xthen_x, xthen_r, xthen_g, xblock_n, xblock_r, xblock_g, xblock_x, xscope_n, xscope_r, xscope_x, ↓reduceIte, Nat.reduceEqDiff]) | refine awp_seq ?_ | refine awp_block ?_ | refine awp_scope ?_ | ((first | refine awp_skip ?_ | refine awp_exit ?_ | refine awp_ret ?_ | refine awp_label ?_); try simp only [xthen_n, xthen_x, xthen_r, xthen_g, xblock_n, xblock_r, xblock_g, xblock_x, xscope_n, xscope_r, xscope_x, ↓reduceIte, Nat.reduceEqDiff])))
        (refine x_ret0 (by first | exact .inl rfl | exact .inr rfl) ?_; intro r hr; simp (maxSteps := 2000000) (disch := omega) only [push_cast, Nat.reduceAdd, Nat.reduceSub, Nat.reduceMul, Nat.reduceMod, Nat.reduceDiv, Int.reduceToNat, Int.reduceNeg, reduceCtorEq, ↓reduceIte, ↓Int.cast_ofNat_Int, Int.reduceAdd, Int.reduceSub, Int.reduceMul, Int.reduceDiv, Int.reduceMod, ↓Nat.reduceEqDiff, ↓Nat.reduceLT, ↓Nat.reduceLeDiff, ↓Nat.reduceBEq, ↓Int.reduceLT, ↓Int.reduceLE, ↓Int.reduceEq, Try.results9] at hr; subst hr; refine ⟨_, by with_reducible rfl, ?_⟩; simp only [renV, renVs])
        (first | exact ⟨trivial, trivial⟩ | exact ⟨trivial, rfl⟩ | exact ⟨rfl, trivial⟩ | exact ⟨rfl, rfl⟩)
    | some o =>
      have r1 : unR b = .tup [.d (.ints .u8 o (some o.length)), .d (.v (.int .i64 0))] := by unfold unR; rw [hu]
      have hu2 := hu
      rw [unL_R] at hu2
      obtain ⟨o01, ol⟩ := un_01R b 0 o h01 hu2
      have hso := stuff_un h01 hu
      (repeat (first | ((first | refine x_seqX hov ?_ | refine x_regX hov ?_ | refine x_condB ?_); intro r hr; simp (maxSteps := 2000000) (disch := omega) only [push_cast, Nat.reduceAdd, Nat.reduceSub, Nat.reduceMul, Nat.reduceMod, Nat.reduceDiv, Int.reduceToNat, Int.reduceNeg, reduceCtorEq, ↓reduceIte, ↓Int.cast_ofNat_Int, Int.reduceAdd, Int.reduceSub, Int.reduceMul, Int.reduceDiv, Int.reduceMod, ↓Nat.reduceEqDiff, ↓Nat.reduceLT, ↓Nat.reduceLeDiff, ↓Nat.reduceBEq, ↓Int.reduceLT, ↓Int.reduceLE, ↓Int.reduceEq, hv, hb8, r1] at hr; subst hr; (first | refine ⟨_, by with_reducible rfl, ?_⟩ | refine .inl ⟨by with_reducible rfl, ?_⟩ | refine .inr ⟨by with_reducible rfl, ?_⟩); try simp only [xthen_n, xthen_x, xthen_r, xthen_g, xblock_n, xblock_r, xblock_g, xblock_x, xscope_n, xscope_r, xscope_x, ↓reduceIte, Nat.reduceEqDiff]) | refine awp_seq ?_ | refine awp_block ?_ | refine awp_scope ?_ | ((first | refine awp_skip ?_ | refine awp_exit ?_ | refine awp_ret ?_ | refine awp_label ?_); try simp only [xthen_n, xthen_x, xthen_r, xthen_g, xblock_n, xblock_r, xblock_g, xblock_x, xscope_n, xscope_r, xscope_x, ↓reduceIte, Nat.reduceEqDiff])))
      refine awp_loop (ι := Nat) (fun i => ⟨132, [(0, .d (.ints .u8 b none)), (3, .d (.v (.string (strOfNums b)))), (4, .d (.ints .u8 (stuffL b) (some (stuffL b).length))), (5, .d (.v (.int .i64 0))), (6, .d (.ints .u8 o (some o.length))), (7, .d (.v (.int .i64 0))), (8, .d (.v (.int .i64 i)))], []⟩)
        (fun i => 7 ≤ i ∧ i ≤ (stuffL b).length + 7) (fun i => (stuffL b).length + 7 - i) 7 ⟨by omega, by omega⟩ (by refine sub_lists ?_ ?_ <;> simp (maxSteps := 2000000) (disch := omega) only [push_cast, Nat.reduceAdd, Nat.reduceSub, Nat.reduceMul, Nat.reduceMod, Nat.reduceDiv, Int.reduceToNat, Int.reduceNeg, reduceCtorEq, ↓reduceIte, ↓Int.cast_ofNat_Int, Int.reduceAdd, Int.reduceSub, Int.reduceMul, Int.reduceDiv, Int.reduceMod, ↓Nat.reduceEqDiff, ↓Nat.reduceLT, ↓Nat.reduceLeDiff, ↓Nat.reduceBEq, ↓Int.reduceLT, ↓Int.reduceLE, ↓Int.reduceEq, subT, subH, Int.cast_ofNat_Int]) ?_
      rintro i ⟨hi7, hil⟩
      (repeat (first | ((first | refine x_seqX hov ?_ | refine x_regX hov ?_ | refine x_condB ?_); intro r hr; simp (maxSteps := 2000000) (disch := omega) only [push_cast, Nat.reduceAdd, Nat.reduceSub, Nat.reduceMul, Nat.reduceMod, Nat.reduceDiv, Int.reduceToNat, Int.reduceNeg, reduceCtorEq, ↓reduceIte, ↓Int.cast_ofNat_Int, Int.reduceAdd, Int.reduceSub, Int.reduceMul, Int.reduceDiv, Int.reduceMod, ↓Nat.reduceEqDiff, ↓Nat.reduceLT, ↓Nat.reduceLeDiff, ↓Nat.reduceBEq, ↓Int.reduceLT, ↓Int.reduceLE, ↓Int.reduceEq] at hr; subst hr; (first | refine ⟨_, by with_reducible rfl, ?_⟩ | refine .inl ⟨by with_reducible rfl, ?_⟩ | refine .inr ⟨by with_reducible rfl, ?_⟩); try simp only [xthen_n, xthen_x, xthen_r, xthen_g, xblock_n, xblock_r, xblock_g, xblock_x, xscope_n, xscope_r, xscope_x, ↓reduceIte, Nat.reduceEqDiff]) | refine awp_seq ?_ | refine awp_block ?_ | refine awp_scope ?_ | ((first | refine awp_skip ?_ | refine awp_exit ?_ | refine awp_ret ?_ | refine awp_label ?_); try simp only [xthen_n, xthen_x, xthen_r, xthen_g, xblock_n, xblock_r, xblock_g, xblock_x, xscope_n, xscope_r, xscope_x, ↓reduceIte, Nat.reduceEqDiff])))
      (refine x_cond ?_; intro r hr; simp (maxSteps := 2000000) (disch := omega) only [push_cast, Nat.reduceAdd, Nat.reduceSub, Nat.reduceMul, Nat.reduceMod, Nat.reduceDiv, Int.reduceToNat, Int.reduceNeg, reduceCtorEq, ↓reduceIte, ↓Int.cast_ofNat_Int, Int.reduceAdd, Int.reduceSub, Int.reduceMul, Int.reduceDiv, Int.reduceMod, ↓Nat.reduceEqDiff, ↓Nat.reduceLT, ↓Nat.reduceLeDiff, ↓Nat.reduceBEq, ↓Int.reduceLT, ↓Int.reduceLE, ↓Int.reduceEq] at hr; subst hr; refine ⟨_, by with_reducible rfl, ?_⟩; refine ⟨fun h => ?_, fun h => ?_⟩ <;> (try simp only [decide_eq_true_eq, decide_eq_false_iff_not, ne_eq, Bool.not_eq_true', Bool.not_eq_false', Bool.and_eq_true, Bool.or_eq_true, Bool.and_eq_false_imp, Bool.or_eq_false_iff, beq_iff_eq, bne_iff_ne, Bool.not_eq_true, Bool.not_eq_false, not_true_eq_false, not_false_eq_true, Int.not_lt, Int.not_le, Bool.decide_eq_true, if_true, if_false] at h))
      · have ho := onesE_stuff h01 i
        have htl : ((stuffL b).take i).length ≤ 100000 := by rw [List.length_take]; omega
        (repeat (first | ((first | refine x_seqX hov ?_ | refine x_regX hov ?_ | refine x_condB ?_); intro r hr; simp (maxSteps := 2000000) (disch := omega) only [push_cast, Nat.reduceAdd, Nat.reduceSub, Nat.reduceMul, Nat.reduceMod, Nat.reduceDiv, Int.reduceToNat, Int.reduceNeg, reduceCtorEq, ↓reduceIte, ↓Int.cast_ofNat_Int, Int.reduceAdd, Int.reduceSub, Int.reduceMul, Int.reduceDiv, Int.reduceMod, ↓Nat.reduceEqDiff, ↓Nat.reduceLT, ↓Nat.reduceLeDiff, ↓Nat.reduceBEq, ↓Int.reduceLT, ↓Int.reduceLE, ↓Int.reduceEq] at hr; subst hr; (first | refine ⟨_, by with_reducible rfl, ?_⟩ | refine .inl ⟨by with_reducible rfl, ?_⟩ | refine .inr ⟨by with_reducible rfl, ?_⟩); try simp only [xthen_n, xthen_x, xthen_r, xthen_g, xblock_n, xblock_r, xblock_g, xblock_x, xscope_n, xscope_r, xscope_x, ↓reduceIte, Nat.reduceEqDiff]) | refine awp_seq ?_ | refine awp_block ?_ | refine awp_scope ?_ | ((first | refine awp_skip ?_ | refine awp_exit ?_ | refine awp_ret ?_ | refine awp_label ?_); try simp only [xthen_n, xthen_x, xthen_r, xthen_g, xblock_n, xblock_r, xblock_g, xblock_x, xscope_n, xscope_r, xscope_x, ↓reduceIte, Nat.reduceEqDiff])))
        refine ⟨i + 1, ⟨by omega, by omega⟩, (by refine sub_lists ?_ ?_ <;> simp (maxSteps := 2000000) (disch := omega) only [push_cast, Nat.reduceAdd, Nat.reduceSub, Nat.reduceMul, Nat.reduceMod, Nat.reduceDiv, Int.reduceToNat, Int.reduceNeg, reduceCtorEq, ↓reduceIte, ↓Int.cast_ofNat_Int, Int.reduceAdd, Int.reduceSub, Int.reduceMul, Int.reduceDiv, Int.reduceMod, ↓Nat.reduceEqDiff, ↓Nat.reduceLT, ↓Nat.reduceLeDiff, ↓Nat.reduceBEq, ↓Int.reduceLT, ↓Int.reduceLE, ↓Int.reduceEq, subT, subH, Int.natCast_add]), by omega⟩
      · (repeat (first | ((first | refine x_seqX hov ?_ | refine x_regX hov ?_ | refine x_condB ?_); intro r hr; simp (maxSteps := 2000000) (disch := omega) only [push_cast, Nat.reduceAdd, Nat.reduceSub, Nat.reduceMul, Nat.reduceMod, Nat.reduceDiv, Int.reduceToNat, Int.reduceNeg, reduceCtorEq, ↓reduceIte, ↓Int.cast_ofNat_Int, Int.reduceAdd, Int.reduceSub, Int.reduceMul, Int.reduceDiv, Int.reduceMod, ↓Nat.reduceEqDiff, ↓Nat.reduceLT, ↓Nat.reduceLeDiff, ↓Nat.reduceBEq, ↓Int.reduceLT, ↓Int.reduceLE, ↓Int.reduceEq, hsv, r2] at hr; subst hr; (first | refine ⟨_, by with_reducible rfl, ?_⟩ | refine .inl ⟨by with_reducible rfl, ?_⟩ | refine .inr ⟨by with_reducible rfl, ?_⟩); try simp only [xthen_n, xthen_x, xthen_r, xthen_g, xblock_n, xblock_r, xblock_g, xblock_x, xscope_n, xscope_r, xscope_x, ↓reduceIte, Nat.reduceEqDiff]) | refine awp_seq ?_ | refine awp_block ?_ | refine awp_scope ?_ | ((first | refine awp_skip ?_ | refine awp_exit ?_ | refine awp_ret ?_ | refine awp_label ?_); try simp only [xthen_n, xthen_x, xthen_r, xthen_g, xblock_n, xblock_r, xblock_g, xblock_x, xscope_n, xscope_r, xscope_x, ↓reduceIte, Nat.reduceEqDiff])))
        (refine x_drawX ty_mixed hov 18 (by kernel_rfl) ?_; intro r hr; simp (maxSteps := 2000000) (disch := omega) only [push_cast, Nat.reduceAdd, Nat.reduceSub, Nat.reduceMul, Nat.reduceMod, Nat.reduceDiv, Int.reduceToNat, Int.reduceNeg, reduceCtorEq, ↓reduceIte, ↓Int.cast_ofNat_Int, Int.reduceAdd, Int.reduceSub, Int.reduceMul, Int.reduceDiv, Int.reduceMod, ↓Nat.reduceEqDiff, ↓Nat.reduceLT, ↓Nat.reduceLeDiff, ↓Nat.reduceBEq, ↓Int.reduceLT, ↓Int.reduceLE, ↓Int.reduceEq, h01] at hr; subst hr; refine ⟨_, _, by with_reducible rfl, ?_⟩; intro r hr; simp (maxSteps := 2000000) (disch := omega) only [push_cast, Nat.reduceAdd, Nat.reduceSub, Nat.reduceMul, Nat.reduceMod, Nat.reduceDiv, Int.reduceToNat, Int.reduceNeg, reduceCtorEq, ↓reduceIte, ↓Int.cast_ofNat_Int, Int.reduceAdd, Int.reduceSub, Int.reduceMul, Int.reduceDiv, Int.reduceMod, ↓Nat.reduceEqDiff, ↓Nat.reduceLT, ↓Nat.reduceLeDiff, ↓Nat.reduceBEq, ↓Int.reduceLT, ↓Int.reduceLE, ↓Int.reduceEq, h01] at hr; subst hr; refine ⟨_, by with_reducible rfl, ?_⟩; try simp only [xthen_n, xthen_x, xthen_r, xthen_g, xblock_n, xblock_r, xblock_g, xblock_x, xscope_n, xscope_r, xscope_x, ↓reduceIte, Nat.reduceEqDiff])
        (repeat (first | ((first | refine x_seqX hov ?_ | refine x_regX hov ?_ | refine x_condB ?_); intro r hr; simp (maxSteps := 2000000) (disch := omega) only [push_cast, Nat.reduceAdd, Nat.reduceSub, Nat.reduceMul, Nat.reduceMod, Nat.reduceDiv, Int.reduceToNat, Int.reduceNeg, reduceCtorEq, ↓reduceIte, ↓Int.cast_ofNat_Int, Int.reduceAdd, Int.reduceSub, Int.reduceMul, Int.reduceDiv, Int.reduceMod, ↓Nat.reduceEqDiff, ↓Nat.reduceLT, ↓Nat.reduceLeDiff, ↓Nat.reduceBEq, ↓Int.reduceLT, ↓Int.reduceLE, ↓Int.reduceEq, h01, hu, Option.isSome_some, Option.isSome_none, Option.getD_some, o01, hso] at hr; subst hr; (first | refine ⟨_, by with_reducible rfl, ?_⟩ | refine .inl ⟨by with_reducible rfl, ?_⟩ | refine .inr ⟨by with_reducible rfl, ?_⟩); try simp only [xthen_n, xthen_x, xthen_r, xthen_g, xblock_n, xblock_r, xblock_g, xblock_x, xscope_n, xscope_r, xscope_x, ↓reduceIte, Nat.reduceEqDiff]) | refine awp_seq ?_ | refine awp_block ?_ | refine awp_scope ?_ | ((first | refine awp_skip ?_ | refine awp_exit ?_ | refine awp_ret ?_ | refine awp_label ?_); try simp only [xthen_n, xthen_x, xthen_r, xthen_g, xblock_n, xblock_r, xblock_g, xblock_x, xscope_n, xscope_r, xscope_x, ↓reduceIte, Nat.reduceEqDiff])))
        (refine x_ret0 (by first | exact .inl rfl | exact .inr rfl) ?_; intro r hr; simp (maxSteps := 2000000) (disch := omega) only [push_cast, Nat.reduceAdd, Nat.reduceSub, Nat.reduceMul, Nat.reduceMod, Nat.reduceDiv, Int.reduceToNat, Int.reduceNeg, reduceCtorEq, ↓reduceIte, ↓Int.cast_ofNat_Int, Int.reduceAdd, Int.reduceSub, Int.reduceMul, Int.reduceDiv, Int.reduceMod, ↓Nat.reduceEqDiff, ↓Nat.reduceLT, ↓Nat.reduceLeDiff, ↓Nat.reduceBEq, ↓Int.reduceLT, ↓Int.reduceLE, ↓Int.reduceEq, Try.results9] at hr; subst hr; refine ⟨_, by with_reducible rfl, ?_⟩; simp only [renV, renVs])
        (first | exact ⟨trivial, trivial⟩ | exact ⟨trivial, rfl⟩ | exact ⟨rfl, trivial⟩ | exact ⟨rfl, rfl⟩)
end Go.Proofs.Ytolmhlikmjkkfaa
