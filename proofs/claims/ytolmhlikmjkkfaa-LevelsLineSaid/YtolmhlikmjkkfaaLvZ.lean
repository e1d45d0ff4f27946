/-
  Layer 1 (levels): the reference's Receive, and what the callees of the statements tell.
  Conditions: none.
-/
import Derived.Test.YtolmhlikmjkkfaaLvW
import Derived.Lib.Bytes
namespace Go.Proofs.Ytolmhlikmjkkfaa
open Go.RowKit
set_option linter.unusedVariables false
set_option linter.unusedSimpArgs false

def refSync_F (us : List AV) : Option (AV × List Blk) := match us with
  | [] => some (.own 0, [.ints 5 .u8 [0, 0, 0, 0, 0, 0, 0, 1] (some 8)])
  | _ => none
theorem refSync_t : TellOk Try.prog 64 refSync_F := by
  intro us R BS h
  unfold refSync_F at h
  split at h
  · simp only [Option.some.injEq, Prod.mk.injEq] at h
    obtain ⟨rfl, rfl⟩ := h
    exact refSync_a
  · cases h
attribute [push_cast] refSync_F

theorem bytesOf_back : ∀ {a : List Int}, u8s a → (Go.Lib.bytesOf a).map (fun x => (x.toNat : Int)) = a
  | [], _ => rfl
  | x :: l, h => by
    have h1 := h x (by simp)
    have h2 := bytesOf_back (a := l) fun y hy => h y (by simp [hy])
    simp only [Go.Lib.bytesOf, List.map_cons] at h2 ⊢
    rw [h2]
    congr 1
    simp
    omega
theorem strNe {a b : List Int} (ha : u8s a) (hb : u8s b) (h : a ≠ b) : ((strOfNums a).toList = (strOfNums b).toList) = False := by
  apply eq_false
  intro e
  rw [Go.Lib.strOfNums_toList, Go.Lib.strOfNums_toList] at e
  apply h
  rw [← bytesOf_back ha, ← bytesOf_back hb, e]

theorem recv_factsR {l : List Int} (h3 : 3 ≤ l.length) : ((l.length : Int) - 3).toNat = l.length - 3 ∧ ((l.length : Int) - 2).toNat = l.length - 2 ∧ ((l.length : Int) - 1).toNat = l.length - 1 := by omega

set_option maxRecDepth 100000 in
set_option maxHeartbeats 8000000 in
theorem refReceiveOk_a (l b : List Int) (hl : l.length ≤ 100000) (h8 : u8s l) (h : recvX l = (0, b)) : ARet Try.prog 39 [.ints .u8 l none] (.tup [.own 0, .d (.v (.int .i64 0))]) [.ints 5 .u8 b (some b.length)] := by
  have hov := tab_cons refLevels_t (tab_cons refUnstuff_t (tab_cons refSync_t (tab_nil (P := Try.prog))))
  unfold recvX at h
  split at h
  · rename_i he
    have h3 : 3 ≤ l.length := by
      have := congrArg List.length he
      simp at this; omega
    rw [drop3 h3] at he
    simp only [List.cons.injEq, and_true] at he
    obtain ⟨e1, e2, e3⟩ := he
    obtain ⟨n0, n1, n2⟩ := recv_factsR h3
    refine aret_body (n := 104) Try.func39 rfl Try.ntmps39 rfl (by simp) ?_
    split at h
    · rename_i hv
      obtain ⟨hv, hs⟩ := hv
      split at h
      · simp at h
      · rename_i u hu
        unfold bodyL at *
        have htl : (l.take (l.length - 3)).length ≤ 100000 := by rw [List.length_take]; omega
        have hd8 : (decL (l.take (l.length - 3))).length = (l.take (l.length - 3)).length := decL_len _
        have hd01 : b01 (decL (l.take (l.length - 3))) := by rw [decL_R]; exact decR_01 _ 0
        have hs8 : 8 ≤ (l.take (l.length - 3)).length := by
          have := congrArg List.length hs
          rw [List.length_take, hd8] at this
          simp [syncL] at this ⊢; omega
        have hdl : (decL (l.take (l.length - 3))).length ≤ 100000 := by omega
        have hu1 := un_sync hs hu
        have hu0 := hu
        rw [unL_R] at hu0
        obtain ⟨hu01, hul⟩ := un_01R _ 0 u hd01 hu0
        have hul8 : u.length = 8 + (u.drop 8).length := by
          have := congrArg List.length hu1
          simp only [List.length_append, syncL, List.length_cons, List.length_nil] at this
          omega
        have hs2 : (decL (l.take (l.length - 3))).take 8 = [0, 0, 0, 0, 0, 0, 0, 1] := hs
        split at h
        · simp at h
        · split at h
          · simp at h
          · split at h
            · simp at h
            · simp only [Prod.mk.injEq, true_and] at h
              subst h
              have hm : (((u.drop 8).length : Int) % 8) = 0 := by omega
              have e8 : (((u.drop 8).length : Int) / 8).toNat = (u.drop 8).length / 8 := by omega
              obtain ⟨v, hv2⟩ : ∃ v, u.drop 8 = v := ⟨_, rfl⟩
              have hd8' : b01 v := fun x hx => hu01 x (List.mem_of_mem_drop (by rw [hv2]; exact hx))
              rw [hv2] at hm e8 hul8 ⊢
              have hbl := bytesL_len v
              (repeat (first | ((first | refine x_seqX hov ?_ | refine x_regX hov ?_ | refine x_condB ?_); intro r hr; simp (maxSteps := 2000000) (disch := omega) only [push_cast, Nat.reduceAdd, Nat.reduceSub, Nat.reduceMul, Nat.reduceMod, Nat.reduceDiv, Int.reduceToNat, Int.reduceNeg, reduceCtorEq, ↓reduceIte, ↓Int.cast_ofNat_Int, Int.reduceAdd, Int.reduceSub, Int.reduceMul, Int.reduceDiv, Int.reduceMod, ↓Nat.reduceEqDiff, ↓Nat.reduceLT, ↓Nat.reduceLeDiff, ↓Nat.reduceBEq, ↓Int.reduceLT, ↓Int.reduceLE, ↓Int.reduceEq, n0, n1, n2, e1, e2, e3, hv] at hr; subst hr; (first | refine ⟨_, by with_reducible rfl, ?_⟩ | refine .inl ⟨by with_reducible rfl, ?_⟩ | refine .inr ⟨by with_reducible rfl, ?_⟩); try simp only [xthen_n, xthen_x, xthen_r, xthen_g, xblock_n, xblock_r, xblock_g, xblock_x, xscope_n, xscope_r, xscope_x, ↓reduceIte, Nat.reduceEqDiff]) | refine awp_seq ?_ | refine awp_block ?_ | refine awp_scope ?_ | ((first | refine awp_skip ?_ | refine awp_exit ?_ | refine awp_ret ?_ | refine awp_label ?_); try simp only [xthen_n, xthen_x, xthen_r, xthen_g, xblock_n, xblock_r, xblock_g, xblock_x, xscope_n, xscope_r, xscope_x, ↓reduceIte, Nat.reduceEqDiff])))
              (refine x_frz [120] ?_; intro r hr; simp (maxSteps := 2000000) (disch := omega) only [push_cast, Nat.reduceAdd, Nat.reduceSub, Nat.reduceMul, Nat.reduceMod, Nat.reduceDiv, Int.reduceToNat, Int.reduceNeg, reduceCtorEq, ↓reduceIte, ↓Int.cast_ofNat_Int, Int.reduceAdd, Int.reduceSub, Int.reduceMul, Int.reduceDiv, Int.reduceMod, ↓Nat.reduceEqDiff, ↓Nat.reduceLT, ↓Nat.reduceLeDiff, ↓Nat.reduceBEq, ↓Int.reduceLT, ↓Int.reduceLE, ↓Int.reduceEq] at hr; subst hr; refine ⟨_, by with_reducible rfl, ?_⟩)
              (refine x_drawX ty_mixed hov 13 (by kernel_rfl) ?_; intro r hr; simp (maxSteps := 2000000) (disch := omega) only [push_cast, Nat.reduceAdd, Nat.reduceSub, Nat.reduceMul, Nat.reduceMod, Nat.reduceDiv, Int.reduceToNat, Int.reduceNeg, reduceCtorEq, ↓reduceIte, ↓Int.cast_ofNat_Int, Int.reduceAdd, Int.reduceSub, Int.reduceMul, Int.reduceDiv, Int.reduceMod, ↓Nat.reduceEqDiff, ↓Nat.reduceLT, ↓Nat.reduceLeDiff, ↓Nat.reduceBEq, ↓Int.reduceLT, ↓Int.reduceLE, ↓Int.reduceEq, hd8, hs2] at hr; subst hr; refine ⟨_, _, by with_reducible rfl, ?_⟩; intro r hr; simp (maxSteps := 2000000) (disch := omega) only [push_cast, Nat.reduceAdd, Nat.reduceSub, Nat.reduceMul, Nat.reduceMod, Nat.reduceDiv, Int.reduceToNat, Int.reduceNeg, reduceCtorEq, ↓reduceIte, ↓Int.cast_ofNat_Int, Int.reduceAdd, Int.reduceSub, Int.reduceMul, Int.reduceDiv, Int.reduceMod, ↓Nat.reduceEqDiff, ↓Nat.reduceLT, ↓Nat.reduceLeDiff, ↓Nat.reduceBEq, ↓Int.reduceLT, ↓Int.reduceLE, ↓Int.reduceEq, hd8, hs2] at hr; subst hr; refine ⟨_, by with_reducible rfl, ?_⟩; try simp only [xthen_n, xthen_x, xthen_r, xthen_g, xblock_n, xblock_r, xblock_g, xblock_x, xscope_n, xscope_r, xscope_x, ↓reduceIte, Nat.reduceEqDiff])
              (repeat (first | ((first | refine x_seqX hov ?_ | refine x_regX hov ?_ | refine x_condB ?_); intro r hr; simp (maxSteps := 2000000) (disch := omega) only [push_cast, Nat.reduceAdd, Nat.reduceSub, Nat.reduceMul, Nat.reduceMod, Nat.reduceDiv, Int.reduceToNat, Int.reduceNeg, reduceCtorEq, ↓reduceIte, ↓Int.cast_ofNat_Int, Int.reduceAdd, Int.reduceSub, Int.reduceMul, Int.reduceDiv, Int.reduceMod, ↓Nat.reduceEqDiff, ↓Nat.reduceLT, ↓Nat.reduceLeDiff, ↓Nat.reduceBEq, ↓Int.reduceLT, ↓Int.reduceLE, ↓Int.reduceEq, hd01, hu, List.take_length, hv2, hm, e8, Option.isSome_some, Option.getD_some] at hr; subst hr; (first | refine ⟨_, by with_reducible rfl, ?_⟩ | refine .inl ⟨by with_reducible rfl, ?_⟩ | refine .inr ⟨by with_reducible rfl, ?_⟩); try simp only [xthen_n, xthen_x, xthen_r, xthen_g, xblock_n, xblock_r, xblock_g, xblock_x, xscope_n, xscope_r, xscope_x, ↓reduceIte, Nat.reduceEqDiff]) | refine awp_seq ?_ | refine awp_block ?_ | refine awp_scope ?_ | ((first | refine awp_skip ?_ | refine awp_exit ?_ | refine awp_ret ?_ | refine awp_label ?_); try simp only [xthen_n, xthen_x, xthen_r, xthen_g, xblock_n, xblock_r, xblock_g, xblock_x, xscope_n, xscope_r, xscope_x, ↓reduceIte, Nat.reduceEqDiff])))
              refine awp_loop (ι := Nat) (fun k => ⟨104, [(5, .d (.ints .u8 v none)), (7, .own 98), (8, .d (.v (.int .i64 k)))], [(98, .ints 5 .u8 ((List.range (v.length / 8)).map (valB (v.take k))) (some (v.length / 8)))]⟩)
                (fun k => k ≤ v.length) (fun k => v.length - k) 0 (by omega) ?_ ?_
              · have e0 : List.map (valB (List.take 0 v)) (List.range (v.length / 8)) = List.replicate (v.length / 8) 0 := by
                  rw [List.eq_replicate_iff]
                  refine ⟨by simp, fun y hy => ?_⟩
                  obtain ⟨j, _, rfl⟩ := List.mem_map.1 hy
                  simp [valB]
                rw [e0]
                exact (by refine sub_lists ?_ ?_ <;> simp (maxSteps := 2000000) (disch := omega) only [push_cast, Nat.reduceAdd, Nat.reduceSub, Nat.reduceMul, Nat.reduceMod, Nat.reduceDiv, Int.reduceToNat, Int.reduceNeg, reduceCtorEq, ↓reduceIte, ↓Int.cast_ofNat_Int, Int.reduceAdd, Int.reduceSub, Int.reduceMul, Int.reduceDiv, Int.reduceMod, ↓Nat.reduceEqDiff, ↓Nat.reduceLT, ↓Nat.reduceLeDiff, ↓Nat.reduceBEq, ↓Int.reduceLT, ↓Int.reduceLE, ↓Int.reduceEq, subT, subH, Int.natCast_zero])
              intro k hk
              by_cases hlt : k < v.length
              · have hx := hd8' v[k] (by simp)
                have ed : ((k : Int) / 8).toNat = k / 8 := by omega
                have em : ((k : Int) % 8).toNat = k % 8 := by omega
                have hl2 : (List.map (valB (v.take k)) (List.range (v.length / 8))).length = v.length / 8 := by simp
                obtain ⟨v1, v2, v3⟩ := valB_step hd8' hlt
                have hk8 : k % 8 < 8 := by omega
                have w1 := shl_bit v[k] (k % 8) hk8 hx
                have w2 : IntKind.u8.wrap (valB (v.take k) (k / 8) + v[k] * 2 ^ (k % 8)) = valB (v.take (k + 1)) (k / 8) := by
                  rw [v1]
                  have h2 : (0 : Int) < 2 ^ (k % 8) ∧ (2 : Int) ^ (k % 8) ≤ 128 := by
                    obtain h | h | h | h | h | h | h | h : k % 8 = 0 ∨ k % 8 = 1 ∨ k % 8 = 2 ∨ k % 8 = 3 ∨ k % 8 = 4 ∨ k % 8 = 5 ∨ k % 8 = 6 ∨ k % 8 = 7 := by omega
                    all_goals (rw [h]; decide)
                  apply w_u8
                  · rcases hx with hx | hx <;> rw [hx] <;> omega
                  · rcases hx with hx | hx <;> rw [hx] <;> omega
                have e1 : ((List.range (v.length / 8)).map (valB (v.take k))).set (k / 8) (valB (v.take (k + 1)) (k / 8)) = (List.range (v.length / 8)).map (valB (v.take (k + 1))) :=
                  set_map_range (fun j hj => valB_other hj) rfl
                (repeat (first | ((first | refine x_seqX hov ?_ | refine x_regX hov ?_ | refine x_condB ?_); intro r hr; simp (maxSteps := 2000000) (disch := omega) only [push_cast, Nat.reduceAdd, Nat.reduceSub, Nat.reduceMul, Nat.reduceMod, Nat.reduceDiv, Int.reduceToNat, Int.reduceNeg, reduceCtorEq, ↓reduceIte, ↓Int.cast_ofNat_Int, Int.reduceAdd, Int.reduceSub, Int.reduceMul, Int.reduceDiv, Int.reduceMod, ↓Nat.reduceEqDiff, ↓Nat.reduceLT, ↓Nat.reduceLeDiff, ↓Nat.reduceBEq, ↓Int.reduceLT, ↓Int.reduceLE, ↓Int.reduceEq] at hr; subst hr; (first | refine ⟨_, by with_reducible rfl, ?_⟩ | refine .inl ⟨by with_reducible rfl, ?_⟩ | refine .inr ⟨by with_reducible rfl, ?_⟩); try simp only [xthen_n, xthen_x, xthen_r, xthen_g, xblock_n, xblock_r, xblock_g, xblock_x, xscope_n, xscope_r, xscope_x, ↓reduceIte, Nat.reduceEqDiff]) | refine awp_seq ?_ | refine awp_block ?_ | refine awp_scope ?_ | ((first | refine awp_skip ?_ | refine awp_exit ?_ | refine awp_ret ?_ | refine awp_label ?_); try simp only [xthen_n, xthen_x, xthen_r, xthen_g, xblock_n, xblock_r, xblock_g, xblock_x, xscope_n, xscope_r, xscope_x, ↓reduceIte, Nat.reduceEqDiff])))
                (refine x_drawX ty_mixed hov 12 (by kernel_rfl) ?_; intro r hr; simp (maxSteps := 2000000) (disch := omega) only [push_cast, Nat.reduceAdd, Nat.reduceSub, Nat.reduceMul, Nat.reduceMod, Nat.reduceDiv, Int.reduceToNat, Int.reduceNeg, reduceCtorEq, ↓reduceIte, ↓Int.cast_ofNat_Int, Int.reduceAdd, Int.reduceSub, Int.reduceMul, Int.reduceDiv, Int.reduceMod, ↓Nat.reduceEqDiff, ↓Nat.reduceLT, ↓Nat.reduceLeDiff, ↓Nat.reduceBEq, ↓Int.reduceLT, ↓Int.reduceLE, ↓Int.reduceEq, ed, em, hl2, List.getElem_map, List.getElem_range, w1, w2] at hr; subst hr; refine ⟨_, _, by with_reducible rfl, ?_⟩; intro r hr; simp (maxSteps := 2000000) (disch := omega) only [push_cast, Nat.reduceAdd, Nat.reduceSub, Nat.reduceMul, Nat.reduceMod, Nat.reduceDiv, Int.reduceToNat, Int.reduceNeg, reduceCtorEq, ↓reduceIte, ↓Int.cast_ofNat_Int, Int.reduceAdd, Int.reduceSub, Int.reduceMul, Int.reduceDiv, Int.reduceMod, ↓Nat.reduceEqDiff, ↓Nat.reduceLT, ↓Nat.reduceLeDiff, ↓Nat.reduceBEq, ↓Int.reduceLT, ↓Int.reduceLE, ↓Int.reduceEq, ed, em, hl2, List.getElem_map, List.getElem_range, w1, w2] at hr; subst hr; refine ⟨_, by with_reducible rfl, ?_⟩; try simp only [xthen_n, xthen_x, xthen_r, xthen_g, xblock_n, xblock_r, xblock_g, xblock_x, xscope_n, xscope_r, xscope_x, ↓reduceIte, Nat.reduceEqDiff])
                (repeat (first | ((first | refine x_seqX hov ?_ | refine x_regX hov ?_ | refine x_condB ?_); intro r hr; simp (maxSteps := 2000000) (disch := omega) only [push_cast, Nat.reduceAdd, Nat.reduceSub, Nat.reduceMul, Nat.reduceMod, Nat.reduceDiv, Int.reduceToNat, Int.reduceNeg, reduceCtorEq, ↓reduceIte, ↓Int.cast_ofNat_Int, Int.reduceAdd, Int.reduceSub, Int.reduceMul, Int.reduceDiv, Int.reduceMod, ↓Nat.reduceEqDiff, ↓Nat.reduceLT, ↓Nat.reduceLeDiff, ↓Nat.reduceBEq, ↓Int.reduceLT, ↓Int.reduceLE, ↓Int.reduceEq] at hr; subst hr; (first | refine ⟨_, by with_reducible rfl, ?_⟩ | refine .inl ⟨by with_reducible rfl, ?_⟩ | refine .inr ⟨by with_reducible rfl, ?_⟩); try simp only [xthen_n, xthen_x, xthen_r, xthen_g, xblock_n, xblock_r, xblock_g, xblock_x, xscope_n, xscope_r, xscope_x, ↓reduceIte, Nat.reduceEqDiff]) | refine awp_seq ?_ | refine awp_block ?_ | refine awp_scope ?_ | ((first | refine awp_skip ?_ | refine awp_exit ?_ | refine awp_ret ?_ | refine awp_label ?_); try simp only [xthen_n, xthen_x, xthen_r, xthen_g, xblock_n, xblock_r, xblock_g, xblock_x, xscope_n, xscope_r, xscope_x, ↓reduceIte, Nat.reduceEqDiff])))
                refine ⟨k + 1, by omega, ?_, by omega⟩
                rw [← e1]
                exact (by refine sub_lists ?_ ?_ <;> simp (maxSteps := 2000000) (disch := omega) only [push_cast, Nat.reduceAdd, Nat.reduceSub, Nat.reduceMul, Nat.reduceMod, Nat.reduceDiv, Int.reduceToNat, Int.reduceNeg, reduceCtorEq, ↓reduceIte, ↓Int.cast_ofNat_Int, Int.reduceAdd, Int.reduceSub, Int.reduceMul, Int.reduceDiv, Int.reduceMod, ↓Nat.reduceEqDiff, ↓Nat.reduceLT, ↓Nat.reduceLeDiff, ↓Nat.reduceBEq, ↓Int.reduceLT, ↓Int.reduceLE, ↓Int.reduceEq, subT, subH, Int.natCast_add])
              · (repeat (first | ((first | refine x_seqX hov ?_ | refine x_regX hov ?_ | refine x_condB ?_); intro r hr; simp (maxSteps := 2000000) (disch := omega) only [push_cast, Nat.reduceAdd, Nat.reduceSub, Nat.reduceMul, Nat.reduceMod, Nat.reduceDiv, Int.reduceToNat, Int.reduceNeg, reduceCtorEq, ↓reduceIte, ↓Int.cast_ofNat_Int, Int.reduceAdd, Int.reduceSub, Int.reduceMul, Int.reduceDiv, Int.reduceMod, ↓Nat.reduceEqDiff, ↓Nat.reduceLT, ↓Nat.reduceLeDiff, ↓Nat.reduceBEq, ↓Int.reduceLT, ↓Int.reduceLE, ↓Int.reduceEq] at hr; subst hr; (first | refine ⟨_, by with_reducible rfl, ?_⟩ | refine .inl ⟨by with_reducible rfl, ?_⟩ | refine .inr ⟨by with_reducible rfl, ?_⟩); try simp only [xthen_n, xthen_x, xthen_r, xthen_g, xblock_n, xblock_r, xblock_g, xblock_x, xscope_n, xscope_r, xscope_x, ↓reduceIte, Nat.reduceEqDiff]) | refine awp_seq ?_ | refine awp_block ?_ | refine awp_scope ?_ | ((first | refine awp_skip ?_ | refine awp_exit ?_ | refine awp_ret ?_ | refine awp_label ?_); try simp only [xthen_n, xthen_x, xthen_r, xthen_g, xblock_n, xblock_r, xblock_g, xblock_x, xscope_n, xscope_r, xscope_x, ↓reduceIte, Nat.reduceEqDiff])))
                rw [List.take_of_length_le (by omega)]
                (refine x_ret [98] (by first | exact .inl rfl | exact .inr rfl) rfl (by simp) (by simp) ?_; intro r hr; simp (maxSteps := 2000000) (disch := omega) only [push_cast, Nat.reduceAdd, Nat.reduceSub, Nat.reduceMul, Nat.reduceMod, Nat.reduceDiv, Int.reduceToNat, Int.reduceNeg, reduceCtorEq, ↓reduceIte, ↓Int.cast_ofNat_Int, Int.reduceAdd, Int.reduceSub, Int.reduceMul, Int.reduceDiv, Int.reduceMod, ↓Nat.reduceEqDiff, ↓Nat.reduceLT, ↓Nat.reduceLeDiff, ↓Nat.reduceBEq, ↓Int.reduceLT, ↓Int.reduceLE, ↓Int.reduceEq, Try.results39] at hr; subst hr; refine ⟨_, by with_reducible rfl, ?_⟩; intro r hr; simp (maxSteps := 2000000) (disch := omega) only [push_cast, Nat.reduceAdd, Nat.reduceSub, Nat.reduceMul, Nat.reduceMod, Nat.reduceDiv, Int.reduceToNat, Int.reduceNeg, reduceCtorEq, ↓reduceIte, ↓Int.cast_ofNat_Int, Int.reduceAdd, Int.reduceSub, Int.reduceMul, Int.reduceDiv, Int.reduceMod, ↓Nat.reduceEqDiff, ↓Nat.reduceLT, ↓Nat.reduceLeDiff, ↓Nat.reduceBEq, ↓Int.reduceLT, ↓Int.reduceLE, ↓Int.reduceEq] at hr; subst hr; refine ⟨_, by with_reducible rfl, ?_⟩; simp only [renV, renVs, renB, posOf, ↓reduceIte])
                rw [hbl]
                (first | exact ⟨trivial, trivial⟩ | exact ⟨trivial, rfl⟩ | exact ⟨rfl, trivial⟩ | exact ⟨rfl, rfl⟩)
    · simp at h
  · simp at h

set_option maxRecDepth 100000 in
set_option maxHeartbeats 8000000 in
theorem refReceiveNo_a (l : List Int) (hl : l.length ≤ 100000) (h8 : u8s l) (h : (recvX l).1 ≠ 0) : ARet Try.prog 39 [.ints .u8 l none] (nilE (recvX l).1) [] := by
  have hov := tab_cons refLevels_t (tab_cons refUnstuff_t (tab_cons refSync_t (tab_nil (P := Try.prog))))
  refine aret_body (n := 104) Try.func39 rfl Try.ntmps39 rfl (by simp) ?_
  unfold nilE
  by_cases h3 : 3 ≤ l.length
  · obtain ⟨n0, n1, n2⟩ := recv_factsR h3
    by_cases e1 : l[l.length - 3] = 2
    · by_cases e2 : l[l.length - 2] = 2
      · by_cases e3 : l[l.length - 1] = 0
        · have he : l.drop (l.length - 3) = [2, 2, 0] := by rw [drop3 h3, e1, e2, e3]
          have htl : (l.take (l.length - 3)).length ≤ 100000 := by rw [List.length_take]; omega
          cases hv : validL (l.take (l.length - 3)) with
          | false =>
            have hx : recvX l = (4, []) := by unfold recvX bodyL; rw [if_pos he, hv]; simp
            rw [hx]
            (repeat (first | ((first | refine x_seqX hov ?_ | refine x_regX hov ?_ | refine x_condB ?_); intro r hr; simp (maxSteps := 2000000) (disch := omega) only [push_cast, Nat.reduceAdd, Nat.reduceSub, Nat.reduceMul, Nat.reduceMod, Nat.reduceDiv, Int.reduceToNat, Int.reduceNeg, reduceCtorEq, ↓reduceIte, ↓Int.cast_ofNat_Int, Int.reduceAdd, Int.reduceSub, Int.reduceMul, Int.reduceDiv, Int.reduceMod, ↓Nat.reduceEqDiff, ↓Nat.reduceLT, ↓Nat.reduceLeDiff, ↓Nat.reduceBEq, ↓Int.reduceLT, ↓Int.reduceLE, ↓Int.reduceEq, n0, n1, n2, e1, e2, e3, hv] at hr; subst hr; (first | refine ⟨_, by with_reducible rfl, ?_⟩ | refine .inl ⟨by with_reducible rfl, ?_⟩ | refine .inr ⟨by with_reducible rfl, ?_⟩); try simp only [xthen_n, xthen_x, xthen_r, xthen_g, xblock_n, xblock_r, xblock_g, xblock_x, xscope_n, xscope_r, xscope_x, ↓reduceIte, Nat.reduceEqDiff]) | refine awp_seq ?_ | refine awp_block ?_ | refine awp_scope ?_ | ((first | refine awp_skip ?_ | refine awp_exit ?_ | refine awp_ret ?_ | refine awp_label ?_); try simp only [xthen_n, xthen_x, xthen_r, xthen_g, xblock_n, xblock_r, xblock_g, xblock_x, xscope_n, xscope_r, xscope_x, ↓reduceIte, Nat.reduceEqDiff])))
            (refine x_drawX ty_mixed hov 13 (by kernel_rfl) ?_; intro r hr; simp (maxSteps := 2000000) (disch := omega) only [push_cast, Nat.reduceAdd, Nat.reduceSub, Nat.reduceMul, Nat.reduceMod, Nat.reduceDiv, Int.reduceToNat, Int.reduceNeg, reduceCtorEq, ↓reduceIte, ↓Int.cast_ofNat_Int, Int.reduceAdd, Int.reduceSub, Int.reduceMul, Int.reduceDiv, Int.reduceMod, ↓Nat.reduceEqDiff, ↓Nat.reduceLT, ↓Nat.reduceLeDiff, ↓Nat.reduceBEq, ↓Int.reduceLT, ↓Int.reduceLE, ↓Int.reduceEq] at hr; subst hr; refine ⟨_, _, by with_reducible rfl, ?_⟩; intro r hr; simp (maxSteps := 2000000) (disch := omega) only [push_cast, Nat.reduceAdd, Nat.reduceSub, Nat.reduceMul, Nat.reduceMod, Nat.reduceDiv, Int.reduceToNat, Int.reduceNeg, reduceCtorEq, ↓reduceIte, ↓Int.cast_ofNat_Int, Int.reduceAdd, Int.reduceSub, Int.reduceMul, Int.reduceDiv, Int.reduceMod, ↓Nat.reduceEqDiff, ↓Nat.reduceLT, ↓Nat.reduceLeDiff, ↓Nat.reduceBEq, ↓Int.reduceLT, ↓Int.reduceLE, ↓Int.reduceEq] at hr; subst hr; refine ⟨_, by with_reducible rfl, ?_⟩; try simp only [xthen_n, xthen_x, xthen_r, xthen_g, xblock_n, xblock_r, xblock_g, xblock_x, xscope_n, xscope_r, xscope_x, ↓reduceIte, Nat.reduceEqDiff])
            (repeat (first | ((first | refine x_seqX hov ?_ | refine x_regX hov ?_ | refine x_condB ?_); intro r hr; simp (maxSteps := 2000000) (disch := omega) only [push_cast, Nat.reduceAdd, Nat.reduceSub, Nat.reduceMul, Nat.reduceMod, Nat.reduceDiv, Int.reduceToNat, Int.reduceNeg, reduceCtorEq, ↓reduceIte, ↓Int.cast_ofNat_Int, Int.reduceAdd, Int.reduceSub, Int.reduceMul, Int.reduceDiv, Int.reduceMod, ↓Nat.reduceEqDiff, ↓Nat.reduceLT, ↓Nat.reduceLeDiff, ↓Nat.reduceBEq, ↓Int.reduceLT, ↓Int.reduceLE, ↓Int.reduceEq] at hr; subst hr; (first | refine ⟨_, by with_reducible rfl, ?_⟩ | refine .inl ⟨by with_reducible rfl, ?_⟩ | refine .inr ⟨by with_reducible rfl, ?_⟩); try simp only [xthen_n, xthen_x, xthen_r, xthen_g, xblock_n, xblock_r, xblock_g, xblock_x, xscope_n, xscope_r, xscope_x, ↓reduceIte, Nat.reduceEqDiff]) | refine awp_seq ?_ | refine awp_block ?_ | refine awp_scope ?_ | ((first | refine awp_skip ?_ | refine awp_exit ?_ | refine awp_ret ?_ | refine awp_label ?_); try simp only [xthen_n, xthen_x, xthen_r, xthen_g, xblock_n, xblock_r, xblock_g, xblock_x, xscope_n, xscope_r, xscope_x, ↓reduceIte, Nat.reduceEqDiff])))
            (refine x_ret0 (by first | exact .inl rfl | exact .inr rfl) ?_; intro r hr; simp (maxSteps := 2000000) (disch := omega) only [push_cast, Nat.reduceAdd, Nat.reduceSub, Nat.reduceMul, Nat.reduceMod, Nat.reduceDiv, Int.reduceToNat, Int.reduceNeg, reduceCtorEq, ↓reduceIte, ↓Int.cast_ofNat_Int, Int.reduceAdd, Int.reduceSub, Int.reduceMul, Int.reduceDiv, Int.reduceMod, ↓Nat.reduceEqDiff, ↓Nat.reduceLT, ↓Nat.reduceLeDiff, ↓Nat.reduceBEq, ↓Int.reduceLT, ↓Int.reduceLE, ↓Int.reduceEq, Try.results39] at hr; subst hr; refine ⟨_, by with_reducible rfl, ?_⟩; simp only [renV, renVs])
            (first | exact ⟨trivial, trivial⟩ | exact ⟨trivial, rfl⟩ | exact ⟨rfl, trivial⟩ | exact ⟨rfl, rfl⟩)
          | true =>
            have hd8 : (decL (l.take (l.length - 3))).length = (l.take (l.length - 3)).length := decL_len _
            have hd01 : b01 (decL (l.take (l.length - 3))) := by rw [decL_R]; exact decR_01 _ 0
            have hdl : (decL (l.take (l.length - 3))).length ≤ 100000 := by omega
            by_cases hs8 : 8 ≤ (l.take (l.length - 3)).length
            · by_cases hs : (decL (l.take (l.length - 3))).take 8 = syncL
              · have hs2 : (decL (l.take (l.length - 3))).take 8 = [0, 0, 0, 0, 0, 0, 0, 1] := hs
                cases hu : unL (decL (l.take (l.length - 3))) with
                | none =>
                  have hx : recvX l = (4, []) := by unfold recvX bodyL; rw [if_pos he, if_pos ⟨hv, hs⟩, hu]
                  rw [hx]
                  (repeat (first | ((first | refine x_seqX hov ?_ | refine x_regX hov ?_ | refine x_condB ?_); intro r hr; simp (maxSteps := 2000000) (disch := omega) only [push_cast, Nat.reduceAdd, Nat.reduceSub, Nat.reduceMul, Nat.reduceMod, Nat.reduceDiv, Int.reduceToNat, Int.reduceNeg, reduceCtorEq, ↓reduceIte, ↓Int.cast_ofNat_Int, Int.reduceAdd, Int.reduceSub, Int.reduceMul, Int.reduceDiv, Int.reduceMod, ↓Nat.reduceEqDiff, ↓Nat.reduceLT, ↓Nat.reduceLeDiff, ↓Nat.reduceBEq, ↓Int.reduceLT, ↓Int.reduceLE, ↓Int.reduceEq, n0, n1, n2, e1, e2, e3, hv] at hr; subst hr; (first | refine ⟨_, by with_reducible rfl, ?_⟩ | refine .inl ⟨by with_reducible rfl, ?_⟩ | refine .inr ⟨by with_reducible rfl, ?_⟩); try simp only [xthen_n, xthen_x, xthen_r, xthen_g, xblock_n, xblock_r, xblock_g, xblock_x, xscope_n, xscope_r, xscope_x, ↓reduceIte, Nat.reduceEqDiff]) | refine awp_seq ?_ | refine awp_block ?_ | refine awp_scope ?_ | ((first | refine awp_skip ?_ | refine awp_exit ?_ | refine awp_ret ?_ | refine awp_label ?_); try simp only [xthen_n, xthen_x, xthen_r, xthen_g, xblock_n, xblock_r, xblock_g, xblock_x, xscope_n, xscope_r, xscope_x, ↓reduceIte, Nat.reduceEqDiff])))
                  (refine x_frz [120] ?_; intro r hr; simp (maxSteps := 2000000) (disch := omega) only [push_cast, Nat.reduceAdd, Nat.reduceSub, Nat.reduceMul, Nat.reduceMod, Nat.reduceDiv, Int.reduceToNat, Int.reduceNeg, reduceCtorEq, ↓reduceIte, ↓Int.cast_ofNat_Int, Int.reduceAdd, Int.reduceSub, Int.reduceMul, Int.reduceDiv, Int.reduceMod, ↓Nat.reduceEqDiff, ↓Nat.reduceLT, ↓Nat.reduceLeDiff, ↓Nat.reduceBEq, ↓Int.reduceLT, ↓Int.reduceLE, ↓Int.reduceEq] at hr; subst hr; refine ⟨_, by with_reducible rfl, ?_⟩)
                  (refine x_drawX ty_mixed hov 13 (by kernel_rfl) ?_; intro r hr; simp (maxSteps := 2000000) (disch := omega) only [push_cast, Nat.reduceAdd, Nat.reduceSub, Nat.reduceMul, Nat.reduceMod, Nat.reduceDiv, Int.reduceToNat, Int.reduceNeg, reduceCtorEq, ↓reduceIte, ↓Int.cast_ofNat_Int, Int.reduceAdd, Int.reduceSub, Int.reduceMul, Int.reduceDiv, Int.reduceMod, ↓Nat.reduceEqDiff, ↓Nat.reduceLT, ↓Nat.reduceLeDiff, ↓Nat.reduceBEq, ↓Int.reduceLT, ↓Int.reduceLE, ↓Int.reduceEq, hd8, hs2] at hr; subst hr; refine ⟨_, _, by with_reducible rfl, ?_⟩; intro r hr; simp (maxSteps := 2000000) (disch := omega) only [push_cast, Nat.reduceAdd, Nat.reduceSub, Nat.reduceMul, Nat.reduceMod, Nat.reduceDiv, Int.reduceToNat, Int.reduceNeg, reduceCtorEq, ↓reduceIte, ↓Int.cast_ofNat_Int, Int.reduceAdd, Int.reduceSub, Int.reduceMul, Int.reduceDiv, Int.reduceMod, ↓Nat.reduceEqDiff, ↓Nat.reduceLT, ↓Nat.reduceLeDiff, ↓Nat.reduceBEq, ↓Int.reduceLT, ↓Int.reduceLE, ↓Int.reduceEq, hd8, hs2] at hr; subst hr; refine ⟨_, by with_reducible rfl, ?_⟩; try simp only [xthen_n, xthen_x, xthen_r, xthen_g, xblock_n, xblock_r, xblock_g, xblock_x, xscope_n, xscope_r, xscope_x, ↓reduceIte, Nat.reduceEqDiff])
                  (repeat (first | ((first | refine x_seqX hov ?_ | refine x_regX hov ?_ | refine x_condB ?_); intro r hr; simp (maxSteps := 2000000) (disch := omega) only [push_cast, Nat.reduceAdd, Nat.reduceSub, Nat.reduceMul, Nat.reduceMod, Nat.reduceDiv, Int.reduceToNat, Int.reduceNeg, reduceCtorEq, ↓reduceIte, ↓Int.cast_ofNat_Int, Int.reduceAdd, Int.reduceSub, Int.reduceMul, Int.reduceDiv, Int.reduceMod, ↓Nat.reduceEqDiff, ↓Nat.reduceLT, ↓Nat.reduceLeDiff, ↓Nat.reduceBEq, ↓Int.reduceLT, ↓Int.reduceLE, ↓Int.reduceEq, hd01, hu, Option.isSome_none] at hr; subst hr; (first | refine ⟨_, by with_reducible rfl, ?_⟩ | refine .inl ⟨by with_reducible rfl, ?_⟩ | refine .inr ⟨by with_reducible rfl, ?_⟩); try simp only [xthen_n, xthen_x, xthen_r, xthen_g, xblock_n, xblock_r, xblock_g, xblock_x, xscope_n, xscope_r, xscope_x, ↓reduceIte, Nat.reduceEqDiff]) | refine awp_seq ?_ | refine awp_block ?_ | refine awp_scope ?_ | ((first | refine awp_skip ?_ | refine awp_exit ?_ | refine awp_ret ?_ | refine awp_label ?_); try simp only [xthen_n, xthen_x, xthen_r, xthen_g, xblock_n, xblock_r, xblock_g, xblock_x, xscope_n, xscope_r, xscope_x, ↓reduceIte, Nat.reduceEqDiff])))
                  (refine x_ret0 (by first | exact .inl rfl | exact .inr rfl) ?_; intro r hr; simp (maxSteps := 2000000) (disch := omega) only [push_cast, Nat.reduceAdd, Nat.reduceSub, Nat.reduceMul, Nat.reduceMod, Nat.reduceDiv, Int.reduceToNat, Int.reduceNeg, reduceCtorEq, ↓reduceIte, ↓Int.cast_ofNat_Int, Int.reduceAdd, Int.reduceSub, Int.reduceMul, Int.reduceDiv, Int.reduceMod, ↓Nat.reduceEqDiff, ↓Nat.reduceLT, ↓Nat.reduceLeDiff, ↓Nat.reduceBEq, ↓Int.reduceLT, ↓Int.reduceLE, ↓Int.reduceEq, Try.results39] at hr; subst hr; refine ⟨_, by with_reducible rfl, ?_⟩; simp only [renV, renVs])
                  (first | exact ⟨trivial, trivial⟩ | exact ⟨trivial, rfl⟩ | exact ⟨rfl, trivial⟩ | exact ⟨rfl, rfl⟩)
                | some u =>
                  have hu1 := un_sync hs hu
                  have hu0 := hu
                  rw [unL_R] at hu0
                  obtain ⟨hu01, hul⟩ := un_01R _ 0 u hd01 hu0
                  have hul8 : u.length = 8 + (u.drop 8).length := by
                    have := congrArg List.length hu1
                    simp only [List.length_append, syncL, List.length_cons, List.length_nil] at this
                    omega
                  obtain ⟨v, hv2⟩ : ∃ v, u.drop 8 = v := ⟨_, rfl⟩
                  rw [hv2] at hul8
                  by_cases m8 : u.length % 8 = 0
                  · have hm : ((v.length : Int) % 8) = 0 := by omega
                    by_cases m0 : u.length = 8
                    · have hx : recvX l = (1, []) := by unfold recvX bodyL; rw [if_pos he, if_pos ⟨hv, hs⟩, hu]; simp [m0]
                      rw [hx]
                      (repeat (first | ((first | refine x_seqX hov ?_ | refine x_regX hov ?_ | refine x_condB ?_); intro r hr; simp (maxSteps := 2000000) (disch := omega) only [push_cast, Nat.reduceAdd, Nat.reduceSub, Nat.reduceMul, Nat.reduceMod, Nat.reduceDiv, Int.reduceToNat, Int.reduceNeg, reduceCtorEq, ↓reduceIte, ↓Int.cast_ofNat_Int, Int.reduceAdd, Int.reduceSub, Int.reduceMul, Int.reduceDiv, Int.reduceMod, ↓Nat.reduceEqDiff, ↓Nat.reduceLT, ↓Nat.reduceLeDiff, ↓Nat.reduceBEq, ↓Int.reduceLT, ↓Int.reduceLE, ↓Int.reduceEq, n0, n1, n2, e1, e2, e3, hv] at hr; subst hr; (first | refine ⟨_, by with_reducible rfl, ?_⟩ | refine .inl ⟨by with_reducible rfl, ?_⟩ | refine .inr ⟨by with_reducible rfl, ?_⟩); try simp only [xthen_n, xthen_x, xthen_r, xthen_g, xblock_n, xblock_r, xblock_g, xblock_x, xscope_n, xscope_r, xscope_x, ↓reduceIte, Nat.reduceEqDiff]) | refine awp_seq ?_ | refine awp_block ?_ | refine awp_scope ?_ | ((first | refine awp_skip ?_ | refine awp_exit ?_ | refine awp_ret ?_ | refine awp_label ?_); try simp only [xthen_n, xthen_x, xthen_r, xthen_g, xblock_n, xblock_r, xblock_g, xblock_x, xscope_n, xscope_r, xscope_x, ↓reduceIte, Nat.reduceEqDiff])))
                      (refine x_frz [120] ?_; intro r hr; simp (maxSteps := 2000000) (disch := omega) only [push_cast, Nat.reduceAdd, Nat.reduceSub, Nat.reduceMul, Nat.reduceMod, Nat.reduceDiv, Int.reduceToNat, Int.reduceNeg, reduceCtorEq, ↓reduceIte, ↓Int.cast_ofNat_Int, Int.reduceAdd, Int.reduceSub, Int.reduceMul, Int.reduceDiv, Int.reduceMod, ↓Nat.reduceEqDiff, ↓Nat.reduceLT, ↓Nat.reduceLeDiff, ↓Nat.reduceBEq, ↓Int.reduceLT, ↓Int.reduceLE, ↓Int.reduceEq] at hr; subst hr; refine ⟨_, by with_reducible rfl, ?_⟩)
                      (refine x_drawX ty_mixed hov 13 (by kernel_rfl) ?_; intro r hr; simp (maxSteps := 2000000) (disch := omega) only [push_cast, Nat.reduceAdd, Nat.reduceSub, Nat.reduceMul, Nat.reduceMod, Nat.reduceDiv, Int.reduceToNat, Int.reduceNeg, reduceCtorEq, ↓reduceIte, ↓Int.cast_ofNat_Int, Int.reduceAdd, Int.reduceSub, Int.reduceMul, Int.reduceDiv, Int.reduceMod, ↓Nat.reduceEqDiff, ↓Nat.reduceLT, ↓Nat.reduceLeDiff, ↓Nat.reduceBEq, ↓Int.reduceLT, ↓Int.reduceLE, ↓Int.reduceEq, hd8, hs2] at hr; subst hr; refine ⟨_, _, by with_reducible rfl, ?_⟩; intro r hr; simp (maxSteps := 2000000) (disch := omega) only [push_cast, Nat.reduceAdd, Nat.reduceSub, Nat.reduceMul, Nat.reduceMod, Nat.reduceDiv, Int.reduceToNat, Int.reduceNeg, reduceCtorEq, ↓reduceIte, ↓Int.cast_ofNat_Int, Int.reduceAdd, Int.reduceSub, Int.reduceMul, Int.reduceDiv, Int.reduceMod, ↓Nat.reduceEqDiff, ↓Nat.reduceLT, ↓Nat.reduceLeDiff, ↓Nat.reduceBEq, ↓Int.reduceLT, ↓Int.reduceLE, ↓Int.reduceEq, hd8, hs2] at hr; subst hr; refine ⟨_, by with_reducible rfl, ?_⟩; try simp only [xthen_n, xthen_x, xthen_r, xthen_g, xblock_n, xblock_r, xblock_g, xblock_x, xscope_n, xscope_r, xscope_x, ↓reduceIte, Nat.reduceEqDiff])
                      (repeat (first | ((first | refine x_seqX hov ?_ | refine x_regX hov ?_ | refine x_condB ?_); intro r hr; simp (maxSteps := 2000000) (disch := omega) only [push_cast, Nat.reduceAdd, Nat.reduceSub, Nat.reduceMul, Nat.reduceMod, Nat.reduceDiv, Int.reduceToNat, Int.reduceNeg, reduceCtorEq, ↓reduceIte, ↓Int.cast_ofNat_Int, Int.reduceAdd, Int.reduceSub, Int.reduceMul, Int.reduceDiv, Int.reduceMod, ↓Nat.reduceEqDiff, ↓Nat.reduceLT, ↓Nat.reduceLeDiff, ↓Nat.reduceBEq, ↓Int.reduceLT, ↓Int.reduceLE, ↓Int.reduceEq, hd01, hu, List.take_length, hv2, hm, Option.isSome_some, Option.getD_some] at hr; subst hr; (first | refine ⟨_, by with_reducible rfl, ?_⟩ | refine .inl ⟨by with_reducible rfl, ?_⟩ | refine .inr ⟨by with_reducible rfl, ?_⟩); try simp only [xthen_n, xthen_x, xthen_r, xthen_g, xblock_n, xblock_r, xblock_g, xblock_x, xscope_n, xscope_r, xscope_x, ↓reduceIte, Nat.reduceEqDiff]) | refine awp_seq ?_ | refine awp_block ?_ | refine awp_scope ?_ | ((first | refine awp_skip ?_ | refine awp_exit ?_ | refine awp_ret ?_ | refine awp_label ?_); try simp only [xthen_n, xthen_x, xthen_r, xthen_g, xblock_n, xblock_r, xblock_g, xblock_x, xscope_n, xscope_r, xscope_x, ↓reduceIte, Nat.reduceEqDiff])))
                      (refine x_ret0 (by first | exact .inl rfl | exact .inr rfl) ?_; intro r hr; simp (maxSteps := 2000000) (disch := omega) only [push_cast, Nat.reduceAdd, Nat.reduceSub, Nat.reduceMul, Nat.reduceMod, Nat.reduceDiv, Int.reduceToNat, Int.reduceNeg, reduceCtorEq, ↓reduceIte, ↓Int.cast_ofNat_Int, Int.reduceAdd, Int.reduceSub, Int.reduceMul, Int.reduceDiv, Int.reduceMod, ↓Nat.reduceEqDiff, ↓Nat.reduceLT, ↓Nat.reduceLeDiff, ↓Nat.reduceBEq, ↓Int.reduceLT, ↓Int.reduceLE, ↓Int.reduceEq, Try.results39] at hr; subst hr; refine ⟨_, by with_reducible rfl, ?_⟩; simp only [renV, renVs])
                      (first | exact ⟨trivial, trivial⟩ | exact ⟨trivial, rfl⟩ | exact ⟨rfl, trivial⟩ | exact ⟨rfl, rfl⟩)
                    · by_cases mm : 8 * 1028 < u.length
                      · have hx : recvX l = (3, []) := by unfold recvX bodyL; rw [if_pos he, if_pos ⟨hv, hs⟩, hu]; simp [m0, m8, mm]
                        rw [hx]
                        (repeat (first | ((first | refine x_seqX hov ?_ | refine x_regX hov ?_ | refine x_condB ?_); intro r hr; simp (maxSteps := 2000000) (disch := omega) only [push_cast, Nat.reduceAdd, Nat.reduceSub, Nat.reduceMul, Nat.reduceMod, Nat.reduceDiv, Int.reduceToNat, Int.reduceNeg, reduceCtorEq, ↓reduceIte, ↓Int.cast_ofNat_Int, Int.reduceAdd, Int.reduceSub, Int.reduceMul, Int.reduceDiv, Int.reduceMod, ↓Nat.reduceEqDiff, ↓Nat.reduceLT, ↓Nat.reduceLeDiff, ↓Nat.reduceBEq, ↓Int.reduceLT, ↓Int.reduceLE, ↓Int.reduceEq, n0, n1, n2, e1, e2, e3, hv] at hr; subst hr; (first | refine ⟨_, by with_reducible rfl, ?_⟩ | refine .inl ⟨by with_reducible rfl, ?_⟩ | refine .inr ⟨by with_reducible rfl, ?_⟩); try simp only [xthen_n, xthen_x, xthen_r, xthen_g, xblock_n, xblock_r, xblock_g, xblock_x, xscope_n, xscope_r, xscope_x, ↓reduceIte, Nat.reduceEqDiff]) | refine awp_seq ?_ | refine awp_block ?_ | refine awp_scope ?_ | ((first | refine awp_skip ?_ | refine awp_exit ?_ | refine awp_ret ?_ | refine awp_label ?_); try simp only [xthen_n, xthen_x, xthen_r, xthen_g, xblock_n, xblock_r, xblock_g, xblock_x, xscope_n, xscope_r, xscope_x, ↓reduceIte, Nat.reduceEqDiff])))
                        (refine x_frz [120] ?_; intro r hr; simp (maxSteps := 2000000) (disch := omega) only [push_cast, Nat.reduceAdd, Nat.reduceSub, Nat.reduceMul, Nat.reduceMod, Nat.reduceDiv, Int.reduceToNat, Int.reduceNeg, reduceCtorEq, ↓reduceIte, ↓Int.cast_ofNat_Int, Int.reduceAdd, Int.reduceSub, Int.reduceMul, Int.reduceDiv, Int.reduceMod, ↓Nat.reduceEqDiff, ↓Nat.reduceLT, ↓Nat.reduceLeDiff, ↓Nat.reduceBEq, ↓Int.reduceLT, ↓Int.reduceLE, ↓Int.reduceEq] at hr; subst hr; refine ⟨_, by with_reducible rfl, ?_⟩)
                        (refine x_drawX ty_mixed hov 13 (by kernel_rfl) ?_; intro r hr; simp (maxSteps := 2000000) (disch := omega) only [push_cast, Nat.reduceAdd, Nat.reduceSub, Nat.reduceMul, Nat.reduceMod, Nat.reduceDiv, Int.reduceToNat, Int.reduceNeg, reduceCtorEq, ↓reduceIte, ↓Int.cast_ofNat_Int, Int.reduceAdd, Int.reduceSub, Int.reduceMul, Int.reduceDiv, Int.reduceMod, ↓Nat.reduceEqDiff, ↓Nat.reduceLT, ↓Nat.reduceLeDiff, ↓Nat.reduceBEq, ↓Int.reduceLT, ↓Int.reduceLE, ↓Int.reduceEq, hd8, hs2] at hr; subst hr; refine ⟨_, _, by with_reducible rfl, ?_⟩; intro r hr; simp (maxSteps := 2000000) (disch := omega) only [push_cast, Nat.reduceAdd, Nat.reduceSub, Nat.reduceMul, Nat.reduceMod, Nat.reduceDiv, Int.reduceToNat, Int.reduceNeg, reduceCtorEq, ↓reduceIte, ↓Int.cast_ofNat_Int, Int.reduceAdd, Int.reduceSub, Int.reduceMul, Int.reduceDiv, Int.reduceMod, ↓Nat.reduceEqDiff, ↓Nat.reduceLT, ↓Nat.reduceLeDiff, ↓Nat.reduceBEq, ↓Int.reduceLT, ↓Int.reduceLE, ↓Int.reduceEq, hd8, hs2] at hr; subst hr; refine ⟨_, by with_reducible rfl, ?_⟩; try simp only [xthen_n, xthen_x, xthen_r, xthen_g, xblock_n, xblock_r, xblock_g, xblock_x, xscope_n, xscope_r, xscope_x, ↓reduceIte, Nat.reduceEqDiff])
                        (repeat (first | ((first | refine x_seqX hov ?_ | refine x_regX hov ?_ | refine x_condB ?_); intro r hr; simp (maxSteps := 2000000) (disch := omega) only [push_cast, Nat.reduceAdd, Nat.reduceSub, Nat.reduceMul, Nat.reduceMod, Nat.reduceDiv, Int.reduceToNat, Int.reduceNeg, reduceCtorEq, ↓reduceIte, ↓Int.cast_ofNat_Int, Int.reduceAdd, Int.reduceSub, Int.reduceMul, Int.reduceDiv, Int.reduceMod, ↓Nat.reduceEqDiff, ↓Nat.reduceLT, ↓Nat.reduceLeDiff, ↓Nat.reduceBEq, ↓Int.reduceLT, ↓Int.reduceLE, ↓Int.reduceEq, hd01, hu, List.take_length, hv2, hm, Option.isSome_some, Option.getD_some] at hr; subst hr; (first | refine ⟨_, by with_reducible rfl, ?_⟩ | refine .inl ⟨by with_reducible rfl, ?_⟩ | refine .inr ⟨by with_reducible rfl, ?_⟩); try simp only [xthen_n, xthen_x, xthen_r, xthen_g, xblock_n, xblock_r, xblock_g, xblock_x, xscope_n, xscope_r, xscope_x, ↓reduceIte, Nat.reduceEqDiff]) | refine awp_seq ?_ | refine awp_block ?_ | refine awp_scope ?_ | ((first | refine awp_skip ?_ | refine awp_exit ?_ | refine awp_ret ?_ | refine awp_label ?_); try simp only [xthen_n, xthen_x, xthen_r, xthen_g, xblock_n, xblock_r, xblock_g, xblock_x, xscope_n, xscope_r, xscope_x, ↓reduceIte, Nat.reduceEqDiff])))
                        (refine x_ret0 (by first | exact .inl rfl | exact .inr rfl) ?_; intro r hr; simp (maxSteps := 2000000) (disch := omega) only [push_cast, Nat.reduceAdd, Nat.reduceSub, Nat.reduceMul, Nat.reduceMod, Nat.reduceDiv, Int.reduceToNat, Int.reduceNeg, reduceCtorEq, ↓reduceIte, ↓Int.cast_ofNat_Int, Int.reduceAdd, Int.reduceSub, Int.reduceMul, Int.reduceDiv, Int.reduceMod, ↓Nat.reduceEqDiff, ↓Nat.reduceLT, ↓Nat.reduceLeDiff, ↓Nat.reduceBEq, ↓Int.reduceLT, ↓Int.reduceLE, ↓Int.reduceEq, Try.results39] at hr; subst hr; refine ⟨_, by with_reducible rfl, ?_⟩; simp only [renV, renVs])
                        (first | exact ⟨trivial, trivial⟩ | exact ⟨trivial, rfl⟩ | exact ⟨rfl, trivial⟩ | exact ⟨rfl, rfl⟩)
                      · exfalso; apply h; unfold recvX bodyL; rw [if_pos he, if_pos ⟨hv, hs⟩, hu]; simp [m0, m8, mm]
                  · have hm : ¬ ((v.length : Int) % 8) = 0 := by omega
                    have hx : recvX l = (5, []) := by unfold recvX bodyL; rw [if_pos he, if_pos ⟨hv, hs⟩, hu]; simp [m8]
                    rw [hx]
                    (repeat (first | ((first | refine x_seqX hov ?_ | refine x_regX hov ?_ | refine x_condB ?_); intro r hr; simp (maxSteps := 2000000) (disch := omega) only [push_cast, Nat.reduceAdd, Nat.reduceSub, Nat.reduceMul, Nat.reduceMod, Nat.reduceDiv, Int.reduceToNat, Int.reduceNeg, reduceCtorEq, ↓reduceIte, ↓Int.cast_ofNat_Int, Int.reduceAdd, Int.reduceSub, Int.reduceMul, Int.reduceDiv, Int.reduceMod, ↓Nat.reduceEqDiff, ↓Nat.reduceLT, ↓Nat.reduceLeDiff, ↓Nat.reduceBEq, ↓Int.reduceLT, ↓Int.reduceLE, ↓Int.reduceEq, n0, n1, n2, e1, e2, e3, hv] at hr; subst hr; (first | refine ⟨_, by with_reducible rfl, ?_⟩ | refine .inl ⟨by with_reducible rfl, ?_⟩ | refine .inr ⟨by with_reducible rfl, ?_⟩); try simp only [xthen_n, xthen_x, xthen_r, xthen_g, xblock_n, xblock_r, xblock_g, xblock_x, xscope_n, xscope_r, xscope_x, ↓reduceIte, Nat.reduceEqDiff]) | refine awp_seq ?_ | refine awp_block ?_ | refine awp_scope ?_ | ((first | refine awp_skip ?_ | refine awp_exit ?_ | refine awp_ret ?_ | refine awp_label ?_); try simp only [xthen_n, xthen_x, xthen_r, xthen_g, xblock_n, xblock_r, xblock_g, xblock_x, xscope_n, xscope_r, xscope_x, ↓reduceIte, Nat.reduceEqDiff])))
                    (refine x_frz [120] ?_; intro r hr; simp (maxSteps := 2000000) (disch := omega) only [push_cast, Nat.reduceAdd, Nat.reduceSub, Nat.reduceMul, Nat.reduceMod, Nat.reduceDiv, Int.reduceToNat, Int.reduceNeg, reduceCtorEq, ↓reduceIte, ↓Int.cast_ofNat_Int, Int.reduceAdd, Int.reduceSub, Int.reduceMul, Int.reduceDiv, Int.reduceMod, ↓Nat.reduceEqDiff, ↓Nat.reduceLT, ↓Nat.reduceLeDiff, ↓Nat.reduceBEq, ↓Int.reduceLT, ↓Int.reduceLE, ↓Int.reduceEq] at hr; subst hr; refine ⟨_, by with_reducible rfl, ?_⟩)
                    (refine x_drawX ty_mixed hov 13 (by kernel_rfl) ?_; intro r hr; simp (maxSteps := 2000000) (disch := omega) only [push_cast, Nat.reduceAdd, Nat.reduceSub, Nat.reduceMul, Nat.reduceMod, Nat.reduceDiv, Int.reduceToNat, Int.reduceNeg, reduceCtorEq, ↓reduceIte, ↓Int.cast_ofNat_Int, Int.reduceAdd, Int.reduceSub, Int.reduceMul, Int.reduceDiv, Int.reduceMod, ↓Nat.reduceEqDiff, ↓Nat.reduceLT, ↓Nat.reduceLeDiff, ↓Nat.reduceBEq, ↓Int.reduceLT, ↓Int.reduceLE, ↓Int.reduceEq, hd8, hs2] at hr; subst hr; refine ⟨_, _, by with_reducible rfl, ?_⟩; intro r hr; simp (maxSteps := 2000000) (disch := omega) only [push_cast, Nat.reduceAdd, Nat.reduceSub, Nat.reduceMul, Nat.reduceMod, Nat.reduceDiv, Int.reduceToNat, Int.reduceNeg, reduceCtorEq, ↓reduceIte, ↓Int.cast_ofNat_Int, Int.reduceAdd, Int.reduceSub, Int.reduceMul, Int.reduceDiv, Int.reduceMod, ↓Nat.reduceEqDiff, ↓Nat.reduceLT, ↓Nat.reduceLeDiff, ↓Nat.reduceBEq, ↓Int.reduceLT, ↓Int.reduceLE, ↓Int.reduceEq, hd8, hs2] at hr; subst hr; refine ⟨_, by with_reducible rfl, ?_⟩; try simp only [xthen_n, xthen_x, xthen_r, xthen_g, xblock_n, xblock_r, xblock_g, xblock_x, xscope_n, xscope_r, xscope_x, ↓reduceIte, Nat.reduceEqDiff])
                    (repeat (first | ((first | refine x_seqX hov ?_ | refine x_regX hov ?_ | refine x_condB ?_); intro r hr; simp (maxSteps := 2000000) (disch := omega) only [push_cast, Nat.reduceAdd, Nat.reduceSub, Nat.reduceMul, Nat.reduceMod, Nat.reduceDiv, Int.reduceToNat, Int.reduceNeg, reduceCtorEq, ↓reduceIte, ↓Int.cast_ofNat_Int, Int.reduceAdd, Int.reduceSub, Int.reduceMul, Int.reduceDiv, Int.reduceMod, ↓Nat.reduceEqDiff, ↓Nat.reduceLT, ↓Nat.reduceLeDiff, ↓Nat.reduceBEq, ↓Int.reduceLT, ↓Int.reduceLE, ↓Int.reduceEq, hd01, hu, List.take_length, hv2, hm, Option.isSome_some, Option.getD_some] at hr; subst hr; (first | refine ⟨_, by with_reducible rfl, ?_⟩ | refine .inl ⟨by with_reducible rfl, ?_⟩ | refine .inr ⟨by with_reducible rfl, ?_⟩); try simp only [xthen_n, xthen_x, xthen_r, xthen_g, xblock_n, xblock_r, xblock_g, xblock_x, xscope_n, xscope_r, xscope_x, ↓reduceIte, Nat.reduceEqDiff]) | refine awp_seq ?_ | refine awp_block ?_ | refine awp_scope ?_ | ((first | refine awp_skip ?_ | refine awp_exit ?_ | refine awp_ret ?_ | refine awp_label ?_); try simp only [xthen_n, xthen_x, xthen_r, xthen_g, xblock_n, xblock_r, xblock_g, xblock_x, xscope_n, xscope_r, xscope_x, ↓reduceIte, Nat.reduceEqDiff])))
                    (refine x_ret0 (by first | exact .inl rfl | exact .inr rfl) ?_; intro r hr; simp (maxSteps := 2000000) (disch := omega) only [push_cast, Nat.reduceAdd, Nat.reduceSub, Nat.reduceMul, Nat.reduceMod, Nat.reduceDiv, Int.reduceToNat, Int.reduceNeg, reduceCtorEq, ↓reduceIte, ↓Int.cast_ofNat_Int, Int.reduceAdd, Int.reduceSub, Int.reduceMul, Int.reduceDiv, Int.reduceMod, ↓Nat.reduceEqDiff, ↓Nat.reduceLT, ↓Nat.reduceLeDiff, ↓Nat.reduceBEq, ↓Int.reduceLT, ↓Int.reduceLE, ↓Int.reduceEq, Try.results39] at hr; subst hr; refine ⟨_, by with_reducible rfl, ?_⟩; simp only [renV, renVs])
                    (first | exact ⟨trivial, trivial⟩ | exact ⟨trivial, rfl⟩ | exact ⟨rfl, trivial⟩ | exact ⟨rfl, rfl⟩)
              · have ht8 : ((decL (l.take (l.length - 3))).take 8).length ≤ 100000 := by rw [List.length_take]; omega
                have hs2 := strNe (a := (decL (l.take (l.length - 3))).take 8) (b := [0, 0, 0, 0, 0, 0, 0, 1]) (fun x hx => by have := hd01 x (List.mem_of_mem_take hx); omega) (by intro x hx; simp at hx; omega) hs
                have hx : recvX l = (4, []) := by unfold recvX bodyL; rw [if_pos he, if_neg (fun h => hs h.2)]
                rw [hx]
                (repeat (first | ((first | refine x_seqX hov ?_ | refine x_regX hov ?_ | refine x_condB ?_); intro r hr; simp (maxSteps := 2000000) (disch := omega) only [push_cast, Nat.reduceAdd, Nat.reduceSub, Nat.reduceMul, Nat.reduceMod, Nat.reduceDiv, Int.reduceToNat, Int.reduceNeg, reduceCtorEq, ↓reduceIte, ↓Int.cast_ofNat_Int, Int.reduceAdd, Int.reduceSub, Int.reduceMul, Int.reduceDiv, Int.reduceMod, ↓Nat.reduceEqDiff, ↓Nat.reduceLT, ↓Nat.reduceLeDiff, ↓Nat.reduceBEq, ↓Int.reduceLT, ↓Int.reduceLE, ↓Int.reduceEq, n0, n1, n2, e1, e2, e3, hv] at hr; subst hr; (first | refine ⟨_, by with_reducible rfl, ?_⟩ | refine .inl ⟨by with_reducible rfl, ?_⟩ | refine .inr ⟨by with_reducible rfl, ?_⟩); try simp only [xthen_n, xthen_x, xthen_r, xthen_g, xblock_n, xblock_r, xblock_g, xblock_x, xscope_n, xscope_r, xscope_x, ↓reduceIte, Nat.reduceEqDiff]) | refine awp_seq ?_ | refine awp_block ?_ | refine awp_scope ?_ | ((first | refine awp_skip ?_ | refine awp_exit ?_ | refine awp_ret ?_ | refine awp_label ?_); try simp only [xthen_n, xthen_x, xthen_r, xthen_g, xblock_n, xblock_r, xblock_g, xblock_x, xscope_n, xscope_r, xscope_x, ↓reduceIte, Nat.reduceEqDiff])))
                (refine x_frz [120] ?_; intro r hr; simp (maxSteps := 2000000) (disch := omega) only [push_cast, Nat.reduceAdd, Nat.reduceSub, Nat.reduceMul, Nat.reduceMod, Nat.reduceDiv, Int.reduceToNat, Int.reduceNeg, reduceCtorEq, ↓reduceIte, ↓Int.cast_ofNat_Int, Int.reduceAdd, Int.reduceSub, Int.reduceMul, Int.reduceDiv, Int.reduceMod, ↓Nat.reduceEqDiff, ↓Nat.reduceLT, ↓Nat.reduceLeDiff, ↓Nat.reduceBEq, ↓Int.reduceLT, ↓Int.reduceLE, ↓Int.reduceEq] at hr; subst hr; refine ⟨_, by with_reducible rfl, ?_⟩)
                (refine x_drawX ty_mixed hov 13 (by kernel_rfl) ?_; intro r hr; simp (maxSteps := 2000000) (disch := omega) only [push_cast, Nat.reduceAdd, Nat.reduceSub, Nat.reduceMul, Nat.reduceMod, Nat.reduceDiv, Int.reduceToNat, Int.reduceNeg, reduceCtorEq, ↓reduceIte, ↓Int.cast_ofNat_Int, Int.reduceAdd, Int.reduceSub, Int.reduceMul, Int.reduceDiv, Int.reduceMod, ↓Nat.reduceEqDiff, ↓Nat.reduceLT, ↓Nat.reduceLeDiff, ↓Nat.reduceBEq, ↓Int.reduceLT, ↓Int.reduceLE, ↓Int.reduceEq, hd8, hs2] at hr; subst hr; refine ⟨_, _, by with_reducible rfl, ?_⟩; intro r hr; simp (maxSteps := 2000000) (disch := omega) only [push_cast, Nat.reduceAdd, Nat.reduceSub, Nat.reduceMul, Nat.reduceMod, Nat.reduceDiv, Int.reduceToNat, Int.reduceNeg, reduceCtorEq, ↓reduceIte, ↓Int.cast_ofNat_Int, Int.reduceAdd, Int.reduceSub, Int.reduceMul, Int.reduceDiv, Int.reduceMod, ↓Nat.reduceEqDiff, ↓Nat.reduceLT, ↓Nat.reduceLeDiff, ↓Nat.reduceBEq, ↓Int.reduceLT, ↓Int.reduceLE, ↓Int.reduceEq, hd8, hs2] at hr; subst hr; refine ⟨_, by with_reducible rfl, ?_⟩; try simp only [xthen_n, xthen_x, xthen_r, xthen_g, xblock_n, xblock_r, xblock_g, xblock_x, xscope_n, xscope_r, xscope_x, ↓reduceIte, Nat.reduceEqDiff])
                (repeat (first | ((first | refine x_seqX hov ?_ | refine x_regX hov ?_ | refine x_condB ?_); intro r hr; simp (maxSteps := 2000000) (disch := omega) only [push_cast, Nat.reduceAdd, Nat.reduceSub, Nat.reduceMul, Nat.reduceMod, Nat.reduceDiv, Int.reduceToNat, Int.reduceNeg, reduceCtorEq, ↓reduceIte, ↓Int.cast_ofNat_Int, Int.reduceAdd, Int.reduceSub, Int.reduceMul, Int.reduceDiv, Int.reduceMod, ↓Nat.reduceEqDiff, ↓Nat.reduceLT, ↓Nat.reduceLeDiff, ↓Nat.reduceBEq, ↓Int.reduceLT, ↓Int.reduceLE, ↓Int.reduceEq] at hr; subst hr; (first | refine ⟨_, by with_reducible rfl, ?_⟩ | refine .inl ⟨by with_reducible rfl, ?_⟩ | refine .inr ⟨by with_reducible rfl, ?_⟩); try simp only [xthen_n, xthen_x, xthen_r, xthen_g, xblock_n, xblock_r, xblock_g, xblock_x, xscope_n, xscope_r, xscope_x, ↓reduceIte, Nat.reduceEqDiff]) | refine awp_seq ?_ | refine awp_block ?_ | refine awp_scope ?_ | ((first | refine awp_skip ?_ | refine awp_exit ?_ | refine awp_ret ?_ | refine awp_label ?_); try simp only [xthen_n, xthen_x, xthen_r, xthen_g, xblock_n, xblock_r, xblock_g, xblock_x, xscope_n, xscope_r, xscope_x, ↓reduceIte, Nat.reduceEqDiff])))
                (refine x_ret0 (by first | exact .inl rfl | exact .inr rfl) ?_; intro r hr; simp (maxSteps := 2000000) (disch := omega) only [push_cast, Nat.reduceAdd, Nat.reduceSub, Nat.reduceMul, Nat.reduceMod, Nat.reduceDiv, Int.reduceToNat, Int.reduceNeg, reduceCtorEq, ↓reduceIte, ↓Int.cast_ofNat_Int, Int.reduceAdd, Int.reduceSub, Int.reduceMul, Int.reduceDiv, Int.reduceMod, ↓Nat.reduceEqDiff, ↓Nat.reduceLT, ↓Nat.reduceLeDiff, ↓Nat.reduceBEq, ↓Int.reduceLT, ↓Int.reduceLE, ↓Int.reduceEq, Try.results39] at hr; subst hr; refine ⟨_, by with_reducible rfl, ?_⟩; simp only [renV, renVs])
                (first | exact ⟨trivial, trivial⟩ | exact ⟨trivial, rfl⟩ | exact ⟨rfl, trivial⟩ | exact ⟨rfl, rfl⟩)
            · have hx0 : recvX l = (4, []) := by
                unfold recvX bodyL; rw [if_pos he, if_neg]
                rintro ⟨_, hs⟩
                have := congrArg List.length hs
                rw [List.length_take, hd8] at this
                simp [syncL] at this hs8; omega
              have hx : recvX l = (4, []) := by exact hx0
              rw [hx]
              (repeat (first | ((first | refine x_seqX hov ?_ | refine x_regX hov ?_ | refine x_condB ?_); intro r hr; simp (maxSteps := 2000000) (disch := omega) only [push_cast, Nat.reduceAdd, Nat.reduceSub, Nat.reduceMul, Nat.reduceMod, Nat.reduceDiv, Int.reduceToNat, Int.reduceNeg, reduceCtorEq, ↓reduceIte, ↓Int.cast_ofNat_Int, Int.reduceAdd, Int.reduceSub, Int.reduceMul, Int.reduceDiv, Int.reduceMod, ↓Nat.reduceEqDiff, ↓Nat.reduceLT, ↓Nat.reduceLeDiff, ↓Nat.reduceBEq, ↓Int.reduceLT, ↓Int.reduceLE, ↓Int.reduceEq, n0, n1, n2, e1, e2, e3, hv] at hr; subst hr; (first | refine ⟨_, by with_reducible rfl, ?_⟩ | refine .inl ⟨by with_reducible rfl, ?_⟩ | refine .inr ⟨by with_reducible rfl, ?_⟩); try simp only [xthen_n, xthen_x, xthen_r, xthen_g, xblock_n, xblock_r, xblock_g, xblock_x, xscope_n, xscope_r, xscope_x, ↓reduceIte, Nat.reduceEqDiff]) | refine awp_seq ?_ | refine awp_block ?_ | refine awp_scope ?_ | ((first | refine awp_skip ?_ | refine awp_exit ?_ | refine awp_ret ?_ | refine awp_label ?_); try simp only [xthen_n, xthen_x, xthen_r, xthen_g, xblock_n, xblock_r, xblock_g, xblock_x, xscope_n, xscope_r, xscope_x, ↓reduceIte, Nat.reduceEqDiff])))
              (refine x_frz [120] ?_; intro r hr; simp (maxSteps := 2000000) (disch := omega) only [push_cast, Nat.reduceAdd, Nat.reduceSub, Nat.reduceMul, Nat.reduceMod, Nat.reduceDiv, Int.reduceToNat, Int.reduceNeg, reduceCtorEq, ↓reduceIte, ↓Int.cast_ofNat_Int, Int.reduceAdd, Int.reduceSub, Int.reduceMul, Int.reduceDiv, Int.reduceMod, ↓Nat.reduceEqDiff, ↓Nat.reduceLT, ↓Nat.reduceLeDiff, ↓Nat.reduceBEq, ↓Int.reduceLT, ↓Int.reduceLE, ↓Int.reduceEq] at hr; subst hr; refine ⟨_, by with_reducible rfl, ?_⟩)
              (refine x_drawX ty_mixed hov 13 (by kernel_rfl) ?_; intro r hr; simp (maxSteps := 2000000) (disch := omega) only [push_cast, Nat.reduceAdd, Nat.reduceSub, Nat.reduceMul, Nat.reduceMod, Nat.reduceDiv, Int.reduceToNat, Int.reduceNeg, reduceCtorEq, ↓reduceIte, ↓Int.cast_ofNat_Int, Int.reduceAdd, Int.reduceSub, Int.reduceMul, Int.reduceDiv, Int.reduceMod, ↓Nat.reduceEqDiff, ↓Nat.reduceLT, ↓Nat.reduceLeDiff, ↓Nat.reduceBEq, ↓Int.reduceLT, ↓Int.reduceLE, ↓Int.reduceEq, hd8] at hr; subst hr; refine ⟨_, _, by with_reducible rfl, ?_⟩; intro r hr; simp (maxSteps := 2000000) (disch := omega) only [push_cast, Nat.reduceAdd, Nat.reduceSub, Nat.reduceMul, Nat.reduceMod, Nat.reduceDiv, Int.reduceToNat, Int.reduceNeg, reduceCtorEq, ↓reduceIte, ↓Int.cast_ofNat_Int, Int.reduceAdd, Int.reduceSub, Int.reduceMul, Int.reduceDiv, Int.reduceMod, ↓Nat.reduceEqDiff, ↓Nat.reduceLT, ↓Nat.reduceLeDiff, ↓Nat.reduceBEq, ↓Int.reduceLT, ↓Int.reduceLE, ↓Int.reduceEq, hd8] at hr; subst hr; refine ⟨_, by with_reducible rfl, ?_⟩; try simp only [xthen_n, xthen_x, xthen_r, xthen_g, xblock_n, xblock_r, xblock_g, xblock_x, xscope_n, xscope_r, xscope_x, ↓reduceIte, Nat.reduceEqDiff])
              (repeat (first | ((first | refine x_seqX hov ?_ | refine x_regX hov ?_ | refine x_condB ?_); intro r hr; simp (maxSteps := 2000000) (disch := omega) only [push_cast, Nat.reduceAdd, Nat.reduceSub, Nat.reduceMul, Nat.reduceMod, Nat.reduceDiv, Int.reduceToNat, Int.reduceNeg, reduceCtorEq, ↓reduceIte, ↓Int.cast_ofNat_Int, Int.reduceAdd, Int.reduceSub, Int.reduceMul, Int.reduceDiv, Int.reduceMod, ↓Nat.reduceEqDiff, ↓Nat.reduceLT, ↓Nat.reduceLeDiff, ↓Nat.reduceBEq, ↓Int.reduceLT, ↓Int.reduceLE, ↓Int.reduceEq] at hr; subst hr; (first | refine ⟨_, by with_reducible rfl, ?_⟩ | refine .inl ⟨by with_reducible rfl, ?_⟩ | refine .inr ⟨by with_reducible rfl, ?_⟩); try simp only [xthen_n, xthen_x, xthen_r, xthen_g, xblock_n, xblock_r, xblock_g, xblock_x, xscope_n, xscope_r, xscope_x, ↓reduceIte, Nat.reduceEqDiff]) | refine awp_seq ?_ | refine awp_block ?_ | refine awp_scope ?_ | ((first | refine awp_skip ?_ | refine awp_exit ?_ | refine awp_ret ?_ | refine awp_label ?_); try simp only [xthen_n, xthen_x, xthen_r, xthen_g, xblock_n, xblock_r, xblock_g, xblock_x, xscope_n, xscope_r, xscope_x, ↓reduceIte, Nat.reduceEqDiff])))
              (refine x_ret0 (by first | exact .inl rfl | exact .inr rfl) ?_; intro r hr; simp (maxSteps := 2000000) (disch := omega) only [push_cast, Nat.reduceAdd, Nat.reduceSub, Nat.reduceMul, Nat.reduceMod, Nat.reduceDiv, Int.reduceToNat, Int.reduceNeg, reduceCtorEq, ↓reduceIte, ↓Int.cast_ofNat_Int, Int.reduceAdd, Int.reduceSub, Int.reduceMul, Int.reduceDiv, Int.reduceMod, ↓Nat.reduceEqDiff, ↓Nat.reduceLT, ↓Nat.reduceLeDiff, ↓Nat.reduceBEq, ↓Int.reduceLT, ↓Int.reduceLE, ↓Int.reduceEq, Try.results39] at hr; subst hr; refine ⟨_, by with_reducible rfl, ?_⟩; simp only [renV, renVs])
              (first | exact ⟨trivial, trivial⟩ | exact ⟨trivial, rfl⟩ | exact ⟨rfl, trivial⟩ | exact ⟨rfl, rfl⟩)
        · have hx : recvX l = (4, []) := by unfold recvX; rw [drop3 h3, if_neg (by simp [e3])]
          rw [hx]
          (repeat (first | ((first | refine x_seqX hov ?_ | refine x_regX hov ?_ | refine x_condB ?_); intro r hr; simp (maxSteps := 2000000) (disch := omega) only [push_cast, Nat.reduceAdd, Nat.reduceSub, Nat.reduceMul, Nat.reduceMod, Nat.reduceDiv, Int.reduceToNat, Int.reduceNeg, reduceCtorEq, ↓reduceIte, ↓Int.cast_ofNat_Int, Int.reduceAdd, Int.reduceSub, Int.reduceMul, Int.reduceDiv, Int.reduceMod, ↓Nat.reduceEqDiff, ↓Nat.reduceLT, ↓Nat.reduceLeDiff, ↓Nat.reduceBEq, ↓Int.reduceLT, ↓Int.reduceLE, ↓Int.reduceEq, n0, n1, n2, e1, e2, e3] at hr; subst hr; (first | refine ⟨_, by with_reducible rfl, ?_⟩ | refine .inl ⟨by with_reducible rfl, ?_⟩ | refine .inr ⟨by with_reducible rfl, ?_⟩); try simp only [xthen_n, xthen_x, xthen_r, xthen_g, xblock_n, xblock_r, xblock_g, xblock_x, xscope_n, xscope_r, xscope_x, ↓reduceIte, Nat.reduceEqDiff]) | refine awp_seq ?_ | refine awp_block ?_ | refine awp_scope ?_ | ((first | refine awp_skip ?_ | refine awp_exit ?_ | refine awp_ret ?_ | refine awp_label ?_); try simp only [xthen_n, xthen_x, xthen_r, xthen_g, xblock_n, xblock_r, xblock_g, xblock_x, xscope_n, xscope_r, xscope_x, ↓reduceIte, Nat.reduceEqDiff])))
          (refine x_ret0 (by first | exact .inl rfl | exact .inr rfl) ?_; intro r hr; simp (maxSteps := 2000000) (disch := omega) only [push_cast, Nat.reduceAdd, Nat.reduceSub, Nat.reduceMul, Nat.reduceMod, Nat.reduceDiv, Int.reduceToNat, Int.reduceNeg, reduceCtorEq, ↓reduceIte, ↓Int.cast_ofNat_Int, Int.reduceAdd, Int.reduceSub, Int.reduceMul, Int.reduceDiv, Int.reduceMod, ↓Nat.reduceEqDiff, ↓Nat.reduceLT, ↓Nat.reduceLeDiff, ↓Nat.reduceBEq, ↓Int.reduceLT, ↓Int.reduceLE, ↓Int.reduceEq, Try.results39] at hr; subst hr; refine ⟨_, by with_reducible rfl, ?_⟩; simp only [renV, renVs])
          (first | exact ⟨trivial, trivial⟩ | exact ⟨trivial, rfl⟩ | exact ⟨rfl, trivial⟩ | exact ⟨rfl, rfl⟩)
      · have hx : recvX l = (4, []) := by unfold recvX; rw [drop3 h3, if_neg (by simp [e2])]
        rw [hx]
        (repeat (first | ((first | refine x_seqX hov ?_ | refine x_regX hov ?_ | refine x_condB ?_); intro r hr; simp (maxSteps := 2000000) (disch := omega) only [push_cast, Nat.reduceAdd, Nat.reduceSub, Nat.reduceMul, Nat.reduceMod, Nat.reduceDiv, Int.reduceToNat, Int.reduceNeg, reduceCtorEq, ↓reduceIte, ↓Int.cast_ofNat_Int, Int.reduceAdd, Int.reduceSub, Int.reduceMul, Int.reduceDiv, Int.reduceMod, ↓Nat.reduceEqDiff, ↓Nat.reduceLT, ↓Nat.reduceLeDiff, ↓Nat.reduceBEq, ↓Int.reduceLT, ↓Int.reduceLE, ↓Int.reduceEq, n0, n1, n2, e1, e2] at hr; subst hr; (first | refine ⟨_, by with_reducible rfl, ?_⟩ | refine .inl ⟨by with_reducible rfl, ?_⟩ | refine .inr ⟨by with_reducible rfl, ?_⟩); try simp only [xthen_n, xthen_x, xthen_r, xthen_g, xblock_n, xblock_r, xblock_g, xblock_x, xscope_n, xscope_r, xscope_x, ↓reduceIte, Nat.reduceEqDiff]) | refine awp_seq ?_ | refine awp_block ?_ | refine awp_scope ?_ | ((first | refine awp_skip ?_ | refine awp_exit ?_ | refine awp_ret ?_ | refine awp_label ?_); try simp only [xthen_n, xthen_x, xthen_r, xthen_g, xblock_n, xblock_r, xblock_g, xblock_x, xscope_n, xscope_r, xscope_x, ↓reduceIte, Nat.reduceEqDiff])))
        (refine x_ret0 (by first | exact .inl rfl | exact .inr rfl) ?_; intro r hr; simp (maxSteps := 2000000) (disch := omega) only [push_cast, Nat.reduceAdd, Nat.reduceSub, Nat.reduceMul, Nat.reduceMod, Nat.reduceDiv, Int.reduceToNat, Int.reduceNeg, reduceCtorEq, ↓reduceIte, ↓Int.cast_ofNat_Int, Int.reduceAdd, Int.reduceSub, Int.reduceMul, Int.reduceDiv, Int.reduceMod, ↓Nat.reduceEqDiff, ↓Nat.reduceLT, ↓Nat.reduceLeDiff, ↓Nat.reduceBEq, ↓Int.reduceLT, ↓Int.reduceLE, ↓Int.reduceEq, Try.results39] at hr; subst hr; refine ⟨_, by with_reducible rfl, ?_⟩; simp only [renV, renVs])
        (first | exact ⟨trivial, trivial⟩ | exact ⟨trivial, rfl⟩ | exact ⟨rfl, trivial⟩ | exact ⟨rfl, rfl⟩)
    · have hx : recvX l = (4, []) := by unfold recvX; rw [drop3 h3, if_neg (by simp [e1])]
      rw [hx]
      (repeat (first | ((first | refine x_seqX hov ?_ | refine x_regX hov ?_ | refine x_condB ?_); intro r hr; simp (maxSteps := 2000000) (disch := omega) only [push_cast, Nat.reduceAdd, Nat.reduceSub, Nat.reduceMul, Nat.reduceMod, Nat.reduceDiv, Int.reduceToNat, Int.reduceNeg, reduceCtorEq, ↓reduceIte, ↓Int.cast_ofNat_Int, Int.reduceAdd, Int.reduceSub, Int.reduceMul, Int.reduceDiv, Int.reduceMod, ↓Nat.reduceEqDiff, ↓Nat.reduceLT, ↓Nat.reduceLeDiff, ↓Nat.reduceBEq, ↓Int.reduceLT, ↓Int.reduceLE, ↓Int.reduceEq, n0, n1, n2, e1] at hr; subst hr; (first | refine ⟨_, by with_reducible rfl, ?_⟩ | refine .inl ⟨by with_reducible rfl, ?_⟩ | refine .inr ⟨by with_reducible rfl, ?_⟩); try simp only [xthen_n, xthen_x, xthen_r, xthen_g, xblock_n, xblock_r, xblock_g, xblock_x, xscope_n, xscope_r, xscope_x, ↓reduceIte, Nat.reduceEqDiff]) | refine awp_seq ?_ | refine awp_block ?_ | refine awp_scope ?_ | ((first | refine awp_skip ?_ | refine awp_exit ?_ | refine awp_ret ?_ | refine awp_label ?_); try simp only [xthen_n, xthen_x, xthen_r, xthen_g, xblock_n, xblock_r, xblock_g, xblock_x, xscope_n, xscope_r, xscope_x, ↓reduceIte, Nat.reduceEqDiff])))
      (refine x_ret0 (by first | exact .inl rfl | exact .inr rfl) ?_; intro r hr; simp (maxSteps := 2000000) (disch := omega) only [push_cast, Nat.reduceAdd, Nat.reduceSub, Nat.reduceMul, Nat.reduceMod, Nat.reduceDiv, Int.reduceToNat, Int.reduceNeg, reduceCtorEq, ↓reduceIte, ↓Int.cast_ofNat_Int, Int.reduceAdd, Int.reduceSub, Int.reduceMul, Int.reduceDiv, Int.reduceMod, ↓Nat.reduceEqDiff, ↓Nat.reduceLT, ↓Nat.reduceLeDiff, ↓Nat.reduceBEq, ↓Int.reduceLT, ↓Int.reduceLE, ↓Int.reduceEq, Try.results39] at hr; subst hr; refine ⟨_, by with_reducible rfl, ?_⟩; simp only [renV, renVs])
      (first | exact ⟨trivial, trivial⟩ | exact ⟨trivial, rfl⟩ | exact ⟨rfl, trivial⟩ | exact ⟨rfl, rfl⟩)
  · have hx : recvX l = (4, []) := by
      unfold recvX; rw [if_neg]
      intro he
      have := congrArg List.length he
      simp at this; omega
    rw [hx]
    (repeat (first | ((first | refine x_seqX hov ?_ | refine x_regX hov ?_ | refine x_condB ?_); intro r hr; simp (maxSteps := 2000000) (disch := omega) only [push_cast, Nat.reduceAdd, Nat.reduceSub, Nat.reduceMul, Nat.reduceMod, Nat.reduceDiv, Int.reduceToNat, Int.reduceNeg, reduceCtorEq, ↓reduceIte, ↓Int.cast_ofNat_Int, Int.reduceAdd, Int.reduceSub, Int.reduceMul, Int.reduceDiv, Int.reduceMod, ↓Nat.reduceEqDiff, ↓Nat.reduceLT, ↓Nat.reduceLeDiff, ↓Nat.reduceBEq, ↓Int.reduceLT, ↓Int.reduceLE, ↓Int.reduceEq] at hr; subst hr; (first | refine ⟨_, by with_reducible rfl, ?_⟩ | refine .inl ⟨by with_reducible rfl, ?_⟩ | refine .inr ⟨by with_reducible rfl, ?_⟩); try simp only [xthen_n, xthen_x, xthen_r, xthen_g, xblock_n, xblock_r, xblock_g, xblock_x, xscope_n, xscope_r, xscope_x, ↓reduceIte, Nat.reduceEqDiff]) | refine awp_seq ?_ | refine awp_block ?_ | refine awp_scope ?_ | ((first | refine awp_skip ?_ | refine awp_exit ?_ | refine awp_ret ?_ | refine awp_label ?_); try simp only [xthen_n, xthen_x, xthen_r, xthen_g, xblock_n, xblock_r, xblock_g, xblock_x, xscope_n, xscope_r, xscope_x, ↓reduceIte, Nat.reduceEqDiff])))
    (refine x_ret0 (by first | exact .inl rfl | exact .inr rfl) ?_; intro r hr; simp (maxSteps := 2000000) (disch := omega) only [push_cast, Nat.reduceAdd, Nat.reduceSub, Nat.reduceMul, Nat.reduceMod, Nat.reduceDiv, Int.reduceToNat, Int.reduceNeg, reduceCtorEq, ↓reduceIte, ↓Int.cast_ofNat_Int, Int.reduceAdd, Int.reduceSub, Int.reduceMul, Int.reduceDiv, Int.reduceMod, ↓Nat.reduceEqDiff, ↓Nat.reduceLT, ↓Nat.reduceLeDiff, ↓Nat.reduceBEq, ↓Int.reduceLT, ↓Int.reduceLE, ↓Int.reduceEq, Try.results39] at hr; subst hr; refine ⟨_, by with_reducible rfl, ?_⟩; simp only [renV, renVs])
    (first | exact ⟨trivial, trivial⟩ | exact ⟨trivial, rfl⟩ | exact ⟨rfl, trivial⟩ | exact ⟨rfl, rfl⟩)

def receive_F (us : List AV) : Option (AV × List Blk) := match us with
  | [.d (.ints .u8 xs c)] => if xs.length ≤ 100000 ∧ c = none ∧ u8s xs then (if (recvX xs).1 = 0 then some (.tup [.own 0, .d (.v (.int .i64 0))], [.ints 5 .u8 (recvX xs).2 (some (recvX xs).2.length)]) else some (nilE (recvX xs).1, [])) else none
  | _ => none
theorem receive_t : TellOk Try.prog 35 receive_F := by
  intro us R BS h
  unfold receive_F at h
  split at h
  · rename_i xs c
    split at h
    · rename_i hc
      split at h
      · rename_i hv
        simp only [Option.some.injEq, Prod.mk.injEq] at h
        obtain ⟨rfl, rfl⟩ := h
        exact (by obtain ⟨h1, rfl, h2⟩ := hc; exact receiveOk_a xs _ h1 h2 (Prod.ext hv rfl))
      · rename_i hv
        simp only [Option.some.injEq, Prod.mk.injEq] at h
        obtain ⟨rfl, rfl⟩ := h
        exact (by obtain ⟨h1, rfl, h2⟩ := hc; exact receiveNo_a xs h1 h2 hv)
    · cases h
  · cases h
attribute [push_cast] receive_F

def refReceive_F (us : List AV) : Option (AV × List Blk) := match us with
  | [.d (.ints .u8 xs c)] => if xs.length ≤ 100000 ∧ c = none ∧ u8s xs then (if (recvX xs).1 = 0 then some (.tup [.own 0, .d (.v (.int .i64 0))], [.ints 5 .u8 (recvX xs).2 (some (recvX xs).2.length)]) else some (nilE (recvX xs).1, [])) else none
  | _ => none
theorem refReceive_t : TellOk Try.prog 39 refReceive_F := by
  intro us R BS h
  unfold refReceive_F at h
  split at h
  · rename_i xs c
    split at h
    · rename_i hc
      split at h
      · rename_i hv
        simp only [Option.some.injEq, Prod.mk.injEq] at h
        obtain ⟨rfl, rfl⟩ := h
        exact (by obtain ⟨h1, rfl, h2⟩ := hc; exact refReceiveOk_a xs _ h1 h2 (Prod.ext hv rfl))
      · rename_i hv
        simp only [Option.some.injEq, Prod.mk.injEq] at h
        obtain ⟨rfl, rfl⟩ := h
        exact (by obtain ⟨h1, rfl, h2⟩ := hc; exact refReceiveNo_a xs h1 h2 hv)
    · cases h
  · cases h
attribute [push_cast] refReceive_F

attribute [push_cast] nilE

set_option maxRecDepth 100000 in
theorem sendNo_a (b : List Int) (h8 : u8s b) (h1 : ¬ (1 ≤ b.length ∧ b.length ≤ 1027)) (hl : b.length ≤ 100000) : ARet Try.prog 34 [.ints .u8 b none] (.tup [.d (.v (.slice none 0 0)), .d (.v (.int .i64 (if b.length = 0 then 1 else 3)))]) [] := by
  have hov := tab_nil (P := Try.prog)
  by_cases h0 : b.length = 0
  · rw [if_pos h0]
    refine aret_body (n := 22) Try.func34 rfl Try.ntmps34 rfl (by simp) ?_
    (repeat (first | ((first | refine x_seqX hov ?_ | refine x_regX hov ?_ | refine x_condB ?_); intro r hr; simp (maxSteps := 2000000) (disch := omega) only [push_cast, Nat.reduceAdd, Nat.reduceSub, Nat.reduceMul, Nat.reduceMod, Nat.reduceDiv, Int.reduceToNat, Int.reduceNeg, reduceCtorEq, ↓reduceIte, ↓Int.cast_ofNat_Int, Int.reduceAdd, Int.reduceSub, Int.reduceMul, Int.reduceDiv, Int.reduceMod, ↓Nat.reduceEqDiff, ↓Nat.reduceLT, ↓Nat.reduceLeDiff, ↓Nat.reduceBEq, ↓Int.reduceLT, ↓Int.reduceLE, ↓Int.reduceEq] at hr; subst hr; (first | refine ⟨_, by with_reducible rfl, ?_⟩ | refine .inl ⟨by with_reducible rfl, ?_⟩ | refine .inr ⟨by with_reducible rfl, ?_⟩); try simp only [xthen_n, xthen_x, xthen_r, xthen_g, xblock_n, xblock_r, xblock_g, xblock_x, xscope_n, xscope_r, xscope_x, ↓reduceIte, Nat.reduceEqDiff]) | refine awp_seq ?_ | refine awp_block ?_ | refine awp_scope ?_ | ((first | refine awp_skip ?_ | refine awp_exit ?_ | refine awp_ret ?_ | refine awp_label ?_); try simp only [xthen_n, xthen_x, xthen_r, xthen_g, xblock_n, xblock_r, xblock_g, xblock_x, xscope_n, xscope_r, xscope_x, ↓reduceIte, Nat.reduceEqDiff])))
    (refine x_ret0 (by first | exact .inl rfl | exact .inr rfl) ?_; intro r hr; simp (maxSteps := 2000000) (disch := omega) only [push_cast, Nat.reduceAdd, Nat.reduceSub, Nat.reduceMul, Nat.reduceMod, Nat.reduceDiv, Int.reduceToNat, Int.reduceNeg, reduceCtorEq, ↓reduceIte, ↓Int.cast_ofNat_Int, Int.reduceAdd, Int.reduceSub, Int.reduceMul, Int.reduceDiv, Int.reduceMod, ↓Nat.reduceEqDiff, ↓Nat.reduceLT, ↓Nat.reduceLeDiff, ↓Nat.reduceBEq, ↓Int.reduceLT, ↓Int.reduceLE, ↓Int.reduceEq, Try.results34] at hr; subst hr; refine ⟨_, by with_reducible rfl, ?_⟩; simp only [renV, renVs])
    (first | exact ⟨trivial, trivial⟩ | exact ⟨trivial, rfl⟩ | exact ⟨rfl, trivial⟩ | exact ⟨rfl, rfl⟩)
  · rw [if_neg h0]
    refine aret_body (n := 22) Try.func34 rfl Try.ntmps34 rfl (by simp) ?_
    (repeat (first | ((first | refine x_seqX hov ?_ | refine x_regX hov ?_ | refine x_condB ?_); intro r hr; simp (maxSteps := 2000000) (disch := omega) only [push_cast, Nat.reduceAdd, Nat.reduceSub, Nat.reduceMul, Nat.reduceMod, Nat.reduceDiv, Int.reduceToNat, Int.reduceNeg, reduceCtorEq, ↓reduceIte, ↓Int.cast_ofNat_Int, Int.reduceAdd, Int.reduceSub, Int.reduceMul, Int.reduceDiv, Int.reduceMod, ↓Nat.reduceEqDiff, ↓Nat.reduceLT, ↓Nat.reduceLeDiff, ↓Nat.reduceBEq, ↓Int.reduceLT, ↓Int.reduceLE, ↓Int.reduceEq] at hr; subst hr; (first | refine ⟨_, by with_reducible rfl, ?_⟩ | refine .inl ⟨by with_reducible rfl, ?_⟩ | refine .inr ⟨by with_reducible rfl, ?_⟩); try simp only [xthen_n, xthen_x, xthen_r, xthen_g, xblock_n, xblock_r, xblock_g, xblock_x, xscope_n, xscope_r, xscope_x, ↓reduceIte, Nat.reduceEqDiff]) | refine awp_seq ?_ | refine awp_block ?_ | refine awp_scope ?_ | ((first | refine awp_skip ?_ | refine awp_exit ?_ | refine awp_ret ?_ | refine awp_label ?_); try simp only [xthen_n, xthen_x, xthen_r, xthen_g, xblock_n, xblock_r, xblock_g, xblock_x, xscope_n, xscope_r, xscope_x, ↓reduceIte, Nat.reduceEqDiff])))
    (refine x_ret0 (by first | exact .inl rfl | exact .inr rfl) ?_; intro r hr; simp (maxSteps := 2000000) (disch := omega) only [push_cast, Nat.reduceAdd, Nat.reduceSub, Nat.reduceMul, Nat.reduceMod, Nat.reduceDiv, Int.reduceToNat, Int.reduceNeg, reduceCtorEq, ↓reduceIte, ↓Int.cast_ofNat_Int, Int.reduceAdd, Int.reduceSub, Int.reduceMul, Int.reduceDiv, Int.reduceMod, ↓Nat.reduceEqDiff, ↓Nat.reduceLT, ↓Nat.reduceLeDiff, ↓Nat.reduceBEq, ↓Int.reduceLT, ↓Int.reduceLE, ↓Int.reduceEq, Try.results34] at hr; subst hr; refine ⟨_, by with_reducible rfl, ?_⟩; simp only [renV, renVs])
    (first | exact ⟨trivial, trivial⟩ | exact ⟨trivial, rfl⟩ | exact ⟨rfl, trivial⟩ | exact ⟨rfl, rfl⟩)

def send_F (us : List AV) : Option (AV × List Blk) := match us with
  | [.d (.ints .u8 xs c)] => if xs.length ≤ 100000 ∧ c = none ∧ u8s xs then (if 1 ≤ xs.length ∧ xs.length ≤ 1027 then some (.tup [.own 0, .d (.v (.int .i64 0))], [.ints 63 .u8 (sendL xs) (some (sendL xs).length)]) else some (.tup [.d (.v (.slice none 0 0)), .d (.v (.int .i64 (if xs.length = 0 then 1 else 3)))], [])) else none
  | _ => none
theorem send_t : TellOk Try.prog 34 send_F := by
  intro us R BS h
  unfold send_F at h
  split at h
  · rename_i xs c
    split at h
    · rename_i hc
      split at h
      · rename_i hv
        simp only [Option.some.injEq, Prod.mk.injEq] at h
        obtain ⟨rfl, rfl⟩ := h
        exact (by obtain ⟨h1, rfl, h2⟩ := hc; exact send_a xs h2 (by omega) hv.2)
      · rename_i hv
        simp only [Option.some.injEq, Prod.mk.injEq] at h
        obtain ⟨rfl, rfl⟩ := h
        exact (by obtain ⟨h1, rfl, h2⟩ := hc; exact sendNo_a xs h2 hv h1)
    · cases h
  · cases h
attribute [push_cast] send_F

def refSend_F (us : List AV) : Option (AV × List Blk) := match us with
  | [.d (.ints .u8 xs c)] => if xs.length ≤ 2000 ∧ c = none ∧ u8s xs then some (.own 0, [.ints 5 .u8 (sendL xs) none]) else none
  | _ => none
theorem refSend_t : TellOk Try.prog 37 refSend_F := by
  intro us R BS h
  unfold refSend_F at h
  split at h
  · rename_i xs c
    split at h
    · rename_i hc
      simp only [Option.some.injEq, Prod.mk.injEq] at h
      obtain ⟨rfl, rfl⟩ := h
      exact (by obtain ⟨h1, rfl, h2⟩ := hc; exact refSend_a xs h2 h1)
    · cases h
  · cases h
attribute [push_cast] refSend_F

theorem sendL_le (b : List Int) : (sendL b).length ≤ 16 * b.length + 19 := by
  have h1 := stuffL_len (syncL ++ bitsL b)
  have h2 := encL_len (stuffL (syncL ++ bitsL b))
  have h3 := bitsL_length b
  unfold sendL
  simp only [List.length_append, List.length_cons, List.length_nil, syncL] at h1 h2 h3 ⊢
  omega
theorem sendL_pos (b : List Int) : 3 ≤ (sendL b).length := by
  unfold sendL; simp
end Go.Proofs.Ytolmhlikmjkkfaa
