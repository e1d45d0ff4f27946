/-
  The statement TransactionsCheck: the law's walk.
  Conditions: none.
-/
import Derived.Test.YtpdbekbobkjfgaaTrC2
import Derived.Test.YtpdbekbobkjfgaaTrT
namespace Go.Proofs.Ytpdbekbobkjfgaa
open Go.RowKit
set_option linter.unusedVariables false
set_option linter.unusedSimpArgs false

def refCheck_F (us : List AV) : Option (AV × List Blk) := match us with
  | [.d (.agg [.v (.int .u8 a), .v (.int .u8 e), .v (.int .u8 p), .v (.bool tg), .v (.bool iso), .v (.int .i64 mx), .ints .u8 d c])] => if d.length ≤ 2000 ∧ (0 ≤ a ∧ a < 256) ∧ (0 ≤ e ∧ e < 256) ∧ (0 ≤ p ∧ p < 256) ∧ (-9223372036854775808 ≤ mx ∧ mx ≤ 9223372036854775807) then some (.d (.v (.int .i64 (chk a e p tg iso mx d.length))), []) else none
  | _ => none
theorem refCheck_t : TellOk Try.prog 22 refCheck_F := by
  intro us R BS h
  unfold refCheck_F at h
  split at h
  · split at h
    · rename_i hc
      simp only [Option.some.injEq, Prod.mk.injEq] at h
      obtain ⟨rfl, rfl⟩ := h
      exact refCheck_a _ _ _ _ _ _ _ _ hc.1 hc.2.1 hc.2.2.1 hc.2.2.2.1 hc.2.2.2.2
    · cases h
  · cases h
attribute [push_cast] refCheck_F
theorem check_t : TellOk Try.prog 29 refCheck_F := by
  intro us R BS h
  unfold refCheck_F at h
  split at h
  · split at h
    · rename_i hc
      simp only [Option.some.injEq, Prod.mk.injEq] at h
      obtain ⟨rfl, rfl⟩ := h
      exact check_a _ _ _ _ _ _ _ _ hc.1 hc.2.1 hc.2.2.1 hc.2.2.2.1 hc.2.2.2.2
    · cases h
  · cases h
/-- A wire of two packets that are lost. -/
theorem wire11_x : funcX Try.prog (tabRun [(56, cloneF_F), (74, cloneB_F)]) 200 14 [.d (.ints .u8 [1, 1] none)] [] = some (.ptr 0 0, [.box 82 [.own 1], .ints 77 .u8 [1, 1] none]) := by kernel_rfl

def wire_F (us : List AV) : Option (AV × List Blk) := match us with
  | [.d (.ints .u8 [x, y] none)] => if x = 1 ∧ y = 1 then some (.ptr 0 0, [.box 82 [.own 1], .ints 77 .u8 [1, 1] none]) else none
  | _ => none
theorem wire_t : TellOk Try.prog 14 wire_F := by
  intro us R BS h
  unfold wire_F at h
  split at h
  · split at h
    · rename_i hc
      simp only [Option.some.injEq, Prod.mk.injEq] at h
      obtain ⟨rfl, rfl⟩ := h
      obtain ⟨rfl, rfl⟩ := hc
      exact ((run_sound ty_mixed clones_t 200).2.2 _ _ _ _ _ wire11_x).2
    · cases h
  · cases h
attribute [push_cast] wire_F

set_option maxRecDepth 100000 in
set_option maxHeartbeats 8000000 in
theorem checkWalk_a (a e p : Int) (tg iso : Bool) (mx : Int) (d : List Int) (hl : d.length ≤ 9223372036854775807) (ha0 : 0 ≤ a ∧ a < 256) (he0 : 0 ≤ e ∧ e < 256) (hp0 : 0 ≤ p ∧ p < 256) (hm : -9223372036854775808 ≤ mx ∧ mx ≤ 9223372036854775807) :
    AFun Try.prog 7 [tryD a e p tg iso mx d none] (.v (.bool true)) := by
  have hov := tab_cons refCheck_t (tab_cons check_t (tab_cons lives6_t (tab_cons wire_t (tab_nil (P := Try.prog)))))
  unfold tryD
  by_cases h1 : 1100 < d.length
  · ((first | refine afun_x ty_mixed hov 60 ?_ | refine aret_x ty_mixed hov 60 ?_); intro r hr; simp (maxSteps := 2000000) (disch := omega) only [push_cast, Nat.reduceAdd, Nat.reduceSub, Nat.reduceMul, Nat.reduceMod, Nat.reduceDiv, Int.reduceToNat, Int.reduceNeg, reduceCtorEq, ↓reduceIte, ↓Int.cast_ofNat_Int, Int.reduceAdd, Int.reduceSub, Int.reduceMul, Int.reduceDiv, Int.reduceMod, ↓Nat.reduceEqDiff, ↓Nat.reduceLT, ↓Nat.reduceLeDiff, ↓Nat.reduceBEq, ↓Int.reduceLT, ↓Int.reduceLE, ↓Int.reduceEq, Try.ntmps7, Try.results7, (show Try.f7.body = some _ from rfl)] at hr; subst hr)
    with_reducible rfl
  obtain ⟨v, hv⟩ : ∃ v, chk a e p tg iso mx d.length = v := ⟨_, rfl⟩
  by_cases h0 : v = 0
  · subst h0
    ((first | refine afun_x ty_mixed hov 60 ?_ | refine aret_x ty_mixed hov 60 ?_); intro r hr; simp (maxSteps := 2000000) (disch := omega) only [push_cast, Nat.reduceAdd, Nat.reduceSub, Nat.reduceMul, Nat.reduceMod, Nat.reduceDiv, Int.reduceToNat, Int.reduceNeg, reduceCtorEq, ↓reduceIte, ↓Int.cast_ofNat_Int, Int.reduceAdd, Int.reduceSub, Int.reduceMul, Int.reduceDiv, Int.reduceMod, ↓Nat.reduceEqDiff, ↓Nat.reduceLT, ↓Nat.reduceLeDiff, ↓Nat.reduceBEq, ↓Int.reduceLT, ↓Int.reduceLE, ↓Int.reduceEq, Try.ntmps7, Try.results7, (show Try.f7.body = some _ from rfl), hv] at hr; subst hr)
    with_reducible rfl
  ((first | refine afun_x ty_mixed hov 60 ?_ | refine aret_x ty_mixed hov 60 ?_); intro r hr; simp (maxSteps := 2000000) (disch := omega) only [push_cast, Nat.reduceAdd, Nat.reduceSub, Nat.reduceMul, Nat.reduceMod, Nat.reduceDiv, Int.reduceToNat, Int.reduceNeg, reduceCtorEq, ↓reduceIte, ↓Int.cast_ofNat_Int, Int.reduceAdd, Int.reduceSub, Int.reduceMul, Int.reduceDiv, Int.reduceMod, ↓Nat.reduceEqDiff, ↓Nat.reduceLT, ↓Nat.reduceLeDiff, ↓Nat.reduceBEq, ↓Int.reduceLT, ↓Int.reduceLE, ↓Int.reduceEq, Try.ntmps7, Try.results7, (show Try.f7.body = some _ from rfl), hv, Try.ntmps23, Try.results23, (show Try.f23.body = some _ from rfl), Try.ntmps26, Try.results26, (show Try.f26.body = some _ from rfl)] at hr; subst hr)
  with_reducible rfl
end Go.Proofs.Ytpdbekbobkjfgaa
