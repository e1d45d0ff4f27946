/-
  Layer 6: Check, of the program and of the reference, and what it says; a wire of two faults.
  Conditions: none.
-/
import Derived.Test.YtpdbekbobkjfgaaTrA
namespace Go.Proofs.Ytpdbekbobkjfgaa
open Go.RowKit
set_option linter.unusedVariables false
set_option linter.unusedSimpArgs false

/-- The error of a transaction. -/
def chk (a e p : Int) (tg iso : Bool) (mx : Int) (n : Nat) : Int :=
  if a > 127 ∨ e > 15 then 1
  else if p = 9 then (if mx < 0 ∨ mx > 1024 ∨ 0 < n then 1 else if iso = true ∧ tg = true then 1 else 0)
  else if p = 13 then (if mx ≠ 0 then 1 else if iso = true ∨ tg = true then 1 else if n ≠ 8 then 5 else 0)
  else if p = 1 then (if mx ≠ 0 then 1 else if iso = true ∧ tg = true then 1 else if 1024 < n then 3 else 0)
  else 1

def tryD (a e p : Int) (tg iso : Bool) (mx : Int) (d : List Int) (c : Option Nat) : D := .agg [.v (.int .u8 a), .v (.int .u8 e), .v (.int .u8 p), .v (.bool tg), .v (.bool iso), .v (.int .i64 mx), .ints .u8 d c]

set_option maxRecDepth 100000 in
set_option maxHeartbeats 8000000 in
theorem refCheck_a (a e p : Int) (tg iso : Bool) (mx : Int) (d : List Int) (c : Option Nat) (hl : d.length ≤ 2000) (ha0 : 0 ≤ a ∧ a < 256) (he0 : 0 ≤ e ∧ e < 256) (hp0 : 0 ≤ p ∧ p < 256) (hm : -9223372036854775808 ≤ mx ∧ mx ≤ 9223372036854775807) :
    AFun Try.prog 22 [tryD a e p tg iso mx d c] (.v (.int .i64 (chk a e p tg iso mx d.length))) := by
  have hov := tab_nil (P := Try.prog)
  unfold tryD
  by_cases ha : 127 < a
  · skip
    ((first | refine afun_x ty_mixed hov 60 ?_ | refine aret_x ty_mixed hov 60 ?_); intro r hr; simp (maxSteps := 2000000) (disch := omega) only [push_cast, Nat.reduceAdd, Nat.reduceSub, Nat.reduceMul, Nat.reduceMod, Nat.reduceDiv, Int.reduceToNat, Int.reduceNeg, reduceCtorEq, ↓reduceIte, ↓Int.cast_ofNat_Int, Int.reduceAdd, Int.reduceSub, Int.reduceMul, Int.reduceDiv, Int.reduceMod, ↓Nat.reduceEqDiff, ↓Nat.reduceLT, ↓Nat.reduceLeDiff, ↓Nat.reduceBEq, ↓Int.reduceLT, ↓Int.reduceLE, ↓Int.reduceEq, Try.ntmps22, Try.results22, (show Try.f22.body = some _ from rfl)] at hr; subst hr)
    ((unfold chk; repeat' split) <;> first | rfl | (exfalso; first | omega | simp_all | (simp_all; omega)))
  by_cases he : 15 < e
  · skip
    ((first | refine afun_x ty_mixed hov 60 ?_ | refine aret_x ty_mixed hov 60 ?_); intro r hr; simp (maxSteps := 2000000) (disch := omega) only [push_cast, Nat.reduceAdd, Nat.reduceSub, Nat.reduceMul, Nat.reduceMod, Nat.reduceDiv, Int.reduceToNat, Int.reduceNeg, reduceCtorEq, ↓reduceIte, ↓Int.cast_ofNat_Int, Int.reduceAdd, Int.reduceSub, Int.reduceMul, Int.reduceDiv, Int.reduceMod, ↓Nat.reduceEqDiff, ↓Nat.reduceLT, ↓Nat.reduceLeDiff, ↓Nat.reduceBEq, ↓Int.reduceLT, ↓Int.reduceLE, ↓Int.reduceEq, Try.ntmps22, Try.results22, (show Try.f22.body = some _ from rfl)] at hr; subst hr)
    ((unfold chk; repeat' split) <;> first | rfl | (exfalso; first | omega | simp_all | (simp_all; omega)))
  by_cases hp : p = 9
  · skip
    subst hp
    by_cases h1 : mx < 0
    · skip
      ((first | refine afun_x ty_mixed hov 60 ?_ | refine aret_x ty_mixed hov 60 ?_); intro r hr; simp (maxSteps := 2000000) (disch := omega) only [push_cast, Nat.reduceAdd, Nat.reduceSub, Nat.reduceMul, Nat.reduceMod, Nat.reduceDiv, Int.reduceToNat, Int.reduceNeg, reduceCtorEq, ↓reduceIte, ↓Int.cast_ofNat_Int, Int.reduceAdd, Int.reduceSub, Int.reduceMul, Int.reduceDiv, Int.reduceMod, ↓Nat.reduceEqDiff, ↓Nat.reduceLT, ↓Nat.reduceLeDiff, ↓Nat.reduceBEq, ↓Int.reduceLT, ↓Int.reduceLE, ↓Int.reduceEq, Try.ntmps22, Try.results22, (show Try.f22.body = some _ from rfl)] at hr; subst hr)
      ((unfold chk; repeat' split) <;> first | rfl | (exfalso; first | omega | simp_all | (simp_all; omega)))
    by_cases h2 : 1024 < mx
    · skip
      ((first | refine afun_x ty_mixed hov 60 ?_ | refine aret_x ty_mixed hov 60 ?_); intro r hr; simp (maxSteps := 2000000) (disch := omega) only [push_cast, Nat.reduceAdd, Nat.reduceSub, Nat.reduceMul, Nat.reduceMod, Nat.reduceDiv, Int.reduceToNat, Int.reduceNeg, reduceCtorEq, ↓reduceIte, ↓Int.cast_ofNat_Int, Int.reduceAdd, Int.reduceSub, Int.reduceMul, Int.reduceDiv, Int.reduceMod, ↓Nat.reduceEqDiff, ↓Nat.reduceLT, ↓Nat.reduceLeDiff, ↓Nat.reduceBEq, ↓Int.reduceLT, ↓Int.reduceLE, ↓Int.reduceEq, Try.ntmps22, Try.results22, (show Try.f22.body = some _ from rfl)] at hr; subst hr)
      ((unfold chk; repeat' split) <;> first | rfl | (exfalso; first | omega | simp_all | (simp_all; omega)))
    by_cases h3 : 0 < d.length
    · skip
      ((first | refine afun_x ty_mixed hov 60 ?_ | refine aret_x ty_mixed hov 60 ?_); intro r hr; simp (maxSteps := 2000000) (disch := omega) only [push_cast, Nat.reduceAdd, Nat.reduceSub, Nat.reduceMul, Nat.reduceMod, Nat.reduceDiv, Int.reduceToNat, Int.reduceNeg, reduceCtorEq, ↓reduceIte, ↓Int.cast_ofNat_Int, Int.reduceAdd, Int.reduceSub, Int.reduceMul, Int.reduceDiv, Int.reduceMod, ↓Nat.reduceEqDiff, ↓Nat.reduceLT, ↓Nat.reduceLeDiff, ↓Nat.reduceBEq, ↓Int.reduceLT, ↓Int.reduceLE, ↓Int.reduceEq, Try.ntmps22, Try.results22, (show Try.f22.body = some _ from rfl)] at hr; subst hr)
      ((unfold chk; repeat' split) <;> first | rfl | (exfalso; first | omega | simp_all | (simp_all; omega)))
    cases iso with
    | false =>
      ((first | refine afun_x ty_mixed hov 60 ?_ | refine aret_x ty_mixed hov 60 ?_); intro r hr; simp (maxSteps := 2000000) (disch := omega) only [push_cast, Nat.reduceAdd, Nat.reduceSub, Nat.reduceMul, Nat.reduceMod, Nat.reduceDiv, Int.reduceToNat, Int.reduceNeg, reduceCtorEq, ↓reduceIte, ↓Int.cast_ofNat_Int, Int.reduceAdd, Int.reduceSub, Int.reduceMul, Int.reduceDiv, Int.reduceMod, ↓Nat.reduceEqDiff, ↓Nat.reduceLT, ↓Nat.reduceLeDiff, ↓Nat.reduceBEq, ↓Int.reduceLT, ↓Int.reduceLE, ↓Int.reduceEq, Try.ntmps22, Try.results22, (show Try.f22.body = some _ from rfl)] at hr; subst hr)
      ((unfold chk; repeat' split) <;> first | rfl | (exfalso; first | omega | simp_all | (simp_all; omega)))
    | true =>
      cases tg with
      | false =>
        ((first | refine afun_x ty_mixed hov 60 ?_ | refine aret_x ty_mixed hov 60 ?_); intro r hr; simp (maxSteps := 2000000) (disch := omega) only [push_cast, Nat.reduceAdd, Nat.reduceSub, Nat.reduceMul, Nat.reduceMod, Nat.reduceDiv, Int.reduceToNat, Int.reduceNeg, reduceCtorEq, ↓reduceIte, ↓Int.cast_ofNat_Int, Int.reduceAdd, Int.reduceSub, Int.reduceMul, Int.reduceDiv, Int.reduceMod, ↓Nat.reduceEqDiff, ↓Nat.reduceLT, ↓Nat.reduceLeDiff, ↓Nat.reduceBEq, ↓Int.reduceLT, ↓Int.reduceLE, ↓Int.reduceEq, Try.ntmps22, Try.results22, (show Try.f22.body = some _ from rfl)] at hr; subst hr)
        ((unfold chk; repeat' split) <;> first | rfl | (exfalso; first | omega | simp_all | (simp_all; omega)))
      | true =>
        ((first | refine afun_x ty_mixed hov 60 ?_ | refine aret_x ty_mixed hov 60 ?_); intro r hr; simp (maxSteps := 2000000) (disch := omega) only [push_cast, Nat.reduceAdd, Nat.reduceSub, Nat.reduceMul, Nat.reduceMod, Nat.reduceDiv, Int.reduceToNat, Int.reduceNeg, reduceCtorEq, ↓reduceIte, ↓Int.cast_ofNat_Int, Int.reduceAdd, Int.reduceSub, Int.reduceMul, Int.reduceDiv, Int.reduceMod, ↓Nat.reduceEqDiff, ↓Nat.reduceLT, ↓Nat.reduceLeDiff, ↓Nat.reduceBEq, ↓Int.reduceLT, ↓Int.reduceLE, ↓Int.reduceEq, Try.ntmps22, Try.results22, (show Try.f22.body = some _ from rfl)] at hr; subst hr)
        ((unfold chk; repeat' split) <;> first | rfl | (exfalso; first | omega | simp_all | (simp_all; omega)))
  by_cases hp2 : p = 13
  · skip
    subst hp2
    rcases (show mx < 0 ∨ mx = 0 ∨ 0 < mx by omega) with h1 | h1 | h1
    · skip
      ((first | refine afun_x ty_mixed hov 60 ?_ | refine aret_x ty_mixed hov 60 ?_); intro r hr; simp (maxSteps := 2000000) (disch := omega) only [push_cast, Nat.reduceAdd, Nat.reduceSub, Nat.reduceMul, Nat.reduceMod, Nat.reduceDiv, Int.reduceToNat, Int.reduceNeg, reduceCtorEq, ↓reduceIte, ↓Int.cast_ofNat_Int, Int.reduceAdd, Int.reduceSub, Int.reduceMul, Int.reduceDiv, Int.reduceMod, ↓Nat.reduceEqDiff, ↓Nat.reduceLT, ↓Nat.reduceLeDiff, ↓Nat.reduceBEq, ↓Int.reduceLT, ↓Int.reduceLE, ↓Int.reduceEq, Try.ntmps22, Try.results22, (show Try.f22.body = some _ from rfl)] at hr; subst hr)
      ((unfold chk; repeat' split) <;> first | rfl | (exfalso; first | omega | simp_all | (simp_all; omega)))
    · subst h1
      cases iso with
      | true => cases tg with
        | true =>
          ((first | refine afun_x ty_mixed hov 60 ?_ | refine aret_x ty_mixed hov 60 ?_); intro r hr; simp (maxSteps := 2000000) (disch := omega) only [push_cast, Nat.reduceAdd, Nat.reduceSub, Nat.reduceMul, Nat.reduceMod, Nat.reduceDiv, Int.reduceToNat, Int.reduceNeg, reduceCtorEq, ↓reduceIte, ↓Int.cast_ofNat_Int, Int.reduceAdd, Int.reduceSub, Int.reduceMul, Int.reduceDiv, Int.reduceMod, ↓Nat.reduceEqDiff, ↓Nat.reduceLT, ↓Nat.reduceLeDiff, ↓Nat.reduceBEq, ↓Int.reduceLT, ↓Int.reduceLE, ↓Int.reduceEq, Try.ntmps22, Try.results22, (show Try.f22.body = some _ from rfl)] at hr; subst hr)
          ((unfold chk; repeat' split) <;> first | rfl | (exfalso; first | omega | simp_all | (simp_all; omega)))
        | false =>
          ((first | refine afun_x ty_mixed hov 60 ?_ | refine aret_x ty_mixed hov 60 ?_); intro r hr; simp (maxSteps := 2000000) (disch := omega) only [push_cast, Nat.reduceAdd, Nat.reduceSub, Nat.reduceMul, Nat.reduceMod, Nat.reduceDiv, Int.reduceToNat, Int.reduceNeg, reduceCtorEq, ↓reduceIte, ↓Int.cast_ofNat_Int, Int.reduceAdd, Int.reduceSub, Int.reduceMul, Int.reduceDiv, Int.reduceMod, ↓Nat.reduceEqDiff, ↓Nat.reduceLT, ↓Nat.reduceLeDiff, ↓Nat.reduceBEq, ↓Int.reduceLT, ↓Int.reduceLE, ↓Int.reduceEq, Try.ntmps22, Try.results22, (show Try.f22.body = some _ from rfl)] at hr; subst hr)
          ((unfold chk; repeat' split) <;> first | rfl | (exfalso; first | omega | simp_all | (simp_all; omega)))
      | false =>
        cases tg with
        | true =>
          ((first | refine afun_x ty_mixed hov 60 ?_ | refine aret_x ty_mixed hov 60 ?_); intro r hr; simp (maxSteps := 2000000) (disch := omega) only [push_cast, Nat.reduceAdd, Nat.reduceSub, Nat.reduceMul, Nat.reduceMod, Nat.reduceDiv, Int.reduceToNat, Int.reduceNeg, reduceCtorEq, ↓reduceIte, ↓Int.cast_ofNat_Int, Int.reduceAdd, Int.reduceSub, Int.reduceMul, Int.reduceDiv, Int.reduceMod, ↓Nat.reduceEqDiff, ↓Nat.reduceLT, ↓Nat.reduceLeDiff, ↓Nat.reduceBEq, ↓Int.reduceLT, ↓Int.reduceLE, ↓Int.reduceEq, Try.ntmps22, Try.results22, (show Try.f22.body = some _ from rfl)] at hr; subst hr)
          ((unfold chk; repeat' split) <;> first | rfl | (exfalso; first | omega | simp_all | (simp_all; omega)))
        | false =>
          by_cases h5 : d.length = 8
          · skip
            ((first | refine afun_x ty_mixed hov 60 ?_ | refine aret_x ty_mixed hov 60 ?_); intro r hr; simp (maxSteps := 2000000) (disch := omega) only [push_cast, Nat.reduceAdd, Nat.reduceSub, Nat.reduceMul, Nat.reduceMod, Nat.reduceDiv, Int.reduceToNat, Int.reduceNeg, reduceCtorEq, ↓reduceIte, ↓Int.cast_ofNat_Int, Int.reduceAdd, Int.reduceSub, Int.reduceMul, Int.reduceDiv, Int.reduceMod, ↓Nat.reduceEqDiff, ↓Nat.reduceLT, ↓Nat.reduceLeDiff, ↓Nat.reduceBEq, ↓Int.reduceLT, ↓Int.reduceLE, ↓Int.reduceEq, Try.ntmps22, Try.results22, (show Try.f22.body = some _ from rfl)] at hr; subst hr)
            ((unfold chk; repeat' split) <;> first | rfl | (exfalso; first | omega | simp_all | (simp_all; omega)))
          ((first | refine afun_x ty_mixed hov 60 ?_ | refine aret_x ty_mixed hov 60 ?_); intro r hr; simp (maxSteps := 2000000) (disch := omega) only [push_cast, Nat.reduceAdd, Nat.reduceSub, Nat.reduceMul, Nat.reduceMod, Nat.reduceDiv, Int.reduceToNat, Int.reduceNeg, reduceCtorEq, ↓reduceIte, ↓Int.cast_ofNat_Int, Int.reduceAdd, Int.reduceSub, Int.reduceMul, Int.reduceDiv, Int.reduceMod, ↓Nat.reduceEqDiff, ↓Nat.reduceLT, ↓Nat.reduceLeDiff, ↓Nat.reduceBEq, ↓Int.reduceLT, ↓Int.reduceLE, ↓Int.reduceEq, Try.ntmps22, Try.results22, (show Try.f22.body = some _ from rfl)] at hr; subst hr)
          ((unfold chk; repeat' split) <;> first | rfl | (exfalso; first | omega | simp_all | (simp_all; omega)))
    · skip
      ((first | refine afun_x ty_mixed hov 60 ?_ | refine aret_x ty_mixed hov 60 ?_); intro r hr; simp (maxSteps := 2000000) (disch := omega) only [push_cast, Nat.reduceAdd, Nat.reduceSub, Nat.reduceMul, Nat.reduceMod, Nat.reduceDiv, Int.reduceToNat, Int.reduceNeg, reduceCtorEq, ↓reduceIte, ↓Int.cast_ofNat_Int, Int.reduceAdd, Int.reduceSub, Int.reduceMul, Int.reduceDiv, Int.reduceMod, ↓Nat.reduceEqDiff, ↓Nat.reduceLT, ↓Nat.reduceLeDiff, ↓Nat.reduceBEq, ↓Int.reduceLT, ↓Int.reduceLE, ↓Int.reduceEq, Try.ntmps22, Try.results22, (show Try.f22.body = some _ from rfl)] at hr; subst hr)
      ((unfold chk; repeat' split) <;> first | rfl | (exfalso; first | omega | simp_all | (simp_all; omega)))
  by_cases hp3 : p = 1
  · skip
    subst hp3
    rcases (show mx < 0 ∨ mx = 0 ∨ 0 < mx by omega) with h1 | h1 | h1
    · skip
      ((first | refine afun_x ty_mixed hov 60 ?_ | refine aret_x ty_mixed hov 60 ?_); intro r hr; simp (maxSteps := 2000000) (disch := omega) only [push_cast, Nat.reduceAdd, Nat.reduceSub, Nat.reduceMul, Nat.reduceMod, Nat.reduceDiv, Int.reduceToNat, Int.reduceNeg, reduceCtorEq, ↓reduceIte, ↓Int.cast_ofNat_Int, Int.reduceAdd, Int.reduceSub, Int.reduceMul, Int.reduceDiv, Int.reduceMod, ↓Nat.reduceEqDiff, ↓Nat.reduceLT, ↓Nat.reduceLeDiff, ↓Nat.reduceBEq, ↓Int.reduceLT, ↓Int.reduceLE, ↓Int.reduceEq, Try.ntmps22, Try.results22, (show Try.f22.body = some _ from rfl)] at hr; subst hr)
      ((unfold chk; repeat' split) <;> first | rfl | (exfalso; first | omega | simp_all | (simp_all; omega)))
    · subst h1
      cases iso with
      | false =>
        by_cases h5 : 1024 < d.length
        · skip
          ((first | refine afun_x ty_mixed hov 60 ?_ | refine aret_x ty_mixed hov 60 ?_); intro r hr; simp (maxSteps := 2000000) (disch := omega) only [push_cast, Nat.reduceAdd, Nat.reduceSub, Nat.reduceMul, Nat.reduceMod, Nat.reduceDiv, Int.reduceToNat, Int.reduceNeg, reduceCtorEq, ↓reduceIte, ↓Int.cast_ofNat_Int, Int.reduceAdd, Int.reduceSub, Int.reduceMul, Int.reduceDiv, Int.reduceMod, ↓Nat.reduceEqDiff, ↓Nat.reduceLT, ↓Nat.reduceLeDiff, ↓Nat.reduceBEq, ↓Int.reduceLT, ↓Int.reduceLE, ↓Int.reduceEq, Try.ntmps22, Try.results22, (show Try.f22.body = some _ from rfl)] at hr; subst hr)
          ((unfold chk; repeat' split) <;> first | rfl | (exfalso; first | omega | simp_all | (simp_all; omega)))
        ((first | refine afun_x ty_mixed hov 60 ?_ | refine aret_x ty_mixed hov 60 ?_); intro r hr; simp (maxSteps := 2000000) (disch := omega) only [push_cast, Nat.reduceAdd, Nat.reduceSub, Nat.reduceMul, Nat.reduceMod, Nat.reduceDiv, Int.reduceToNat, Int.reduceNeg, reduceCtorEq, ↓reduceIte, ↓Int.cast_ofNat_Int, Int.reduceAdd, Int.reduceSub, Int.reduceMul, Int.reduceDiv, Int.reduceMod, ↓Nat.reduceEqDiff, ↓Nat.reduceLT, ↓Nat.reduceLeDiff, ↓Nat.reduceBEq, ↓Int.reduceLT, ↓Int.reduceLE, ↓Int.reduceEq, Try.ntmps22, Try.results22, (show Try.f22.body = some _ from rfl)] at hr; subst hr)
        ((unfold chk; repeat' split) <;> first | rfl | (exfalso; first | omega | simp_all | (simp_all; omega)))
      | true =>
        cases tg with
        | false =>
          by_cases h5 : 1024 < d.length
          · skip
            ((first | refine afun_x ty_mixed hov 60 ?_ | refine aret_x ty_mixed hov 60 ?_); intro r hr; simp (maxSteps := 2000000) (disch := omega) only [push_cast, Nat.reduceAdd, Nat.reduceSub, Nat.reduceMul, Nat.reduceMod, Nat.reduceDiv, Int.reduceToNat, Int.reduceNeg, reduceCtorEq, ↓reduceIte, ↓Int.cast_ofNat_Int, Int.reduceAdd, Int.reduceSub, Int.reduceMul, Int.reduceDiv, Int.reduceMod, ↓Nat.reduceEqDiff, ↓Nat.reduceLT, ↓Nat.reduceLeDiff, ↓Nat.reduceBEq, ↓Int.reduceLT, ↓Int.reduceLE, ↓Int.reduceEq, Try.ntmps22, Try.results22, (show Try.f22.body = some _ from rfl)] at hr; subst hr)
            ((unfold chk; repeat' split) <;> first | rfl | (exfalso; first | omega | simp_all | (simp_all; omega)))
          ((first | refine afun_x ty_mixed hov 60 ?_ | refine aret_x ty_mixed hov 60 ?_); intro r hr; simp (maxSteps := 2000000) (disch := omega) only [push_cast, Nat.reduceAdd, Nat.reduceSub, Nat.reduceMul, Nat.reduceMod, Nat.reduceDiv, Int.reduceToNat, Int.reduceNeg, reduceCtorEq, ↓reduceIte, ↓Int.cast_ofNat_Int, Int.reduceAdd, Int.reduceSub, Int.reduceMul, Int.reduceDiv, Int.reduceMod, ↓Nat.reduceEqDiff, ↓Nat.reduceLT, ↓Nat.reduceLeDiff, ↓Nat.reduceBEq, ↓Int.reduceLT, ↓Int.reduceLE, ↓Int.reduceEq, Try.ntmps22, Try.results22, (show Try.f22.body = some _ from rfl)] at hr; subst hr)
          ((unfold chk; repeat' split) <;> first | rfl | (exfalso; first | omega | simp_all | (simp_all; omega)))
        | true =>
          ((first | refine afun_x ty_mixed hov 60 ?_ | refine aret_x ty_mixed hov 60 ?_); intro r hr; simp (maxSteps := 2000000) (disch := omega) only [push_cast, Nat.reduceAdd, Nat.reduceSub, Nat.reduceMul, Nat.reduceMod, Nat.reduceDiv, Int.reduceToNat, Int.reduceNeg, reduceCtorEq, ↓reduceIte, ↓Int.cast_ofNat_Int, Int.reduceAdd, Int.reduceSub, Int.reduceMul, Int.reduceDiv, Int.reduceMod, ↓Nat.reduceEqDiff, ↓Nat.reduceLT, ↓Nat.reduceLeDiff, ↓Nat.reduceBEq, ↓Int.reduceLT, ↓Int.reduceLE, ↓Int.reduceEq, Try.ntmps22, Try.results22, (show Try.f22.body = some _ from rfl)] at hr; subst hr)
          ((unfold chk; repeat' split) <;> first | rfl | (exfalso; first | omega | simp_all | (simp_all; omega)))
    · skip
      ((first | refine afun_x ty_mixed hov 60 ?_ | refine aret_x ty_mixed hov 60 ?_); intro r hr; simp (maxSteps := 2000000) (disch := omega) only [push_cast, Nat.reduceAdd, Nat.reduceSub, Nat.reduceMul, Nat.reduceMod, Nat.reduceDiv, Int.reduceToNat, Int.reduceNeg, reduceCtorEq, ↓reduceIte, ↓Int.cast_ofNat_Int, Int.reduceAdd, Int.reduceSub, Int.reduceMul, Int.reduceDiv, Int.reduceMod, ↓Nat.reduceEqDiff, ↓Nat.reduceLT, ↓Nat.reduceLeDiff, ↓Nat.reduceBEq, ↓Int.reduceLT, ↓Int.reduceLE, ↓Int.reduceEq, Try.ntmps22, Try.results22, (show Try.f22.body = some _ from rfl)] at hr; subst hr)
      ((unfold chk; repeat' split) <;> first | rfl | (exfalso; first | omega | simp_all | (simp_all; omega)))
  ((first | refine afun_x ty_mixed hov 60 ?_ | refine aret_x ty_mixed hov 60 ?_); intro r hr; simp (maxSteps := 2000000) (disch := omega) only [push_cast, Nat.reduceAdd, Nat.reduceSub, Nat.reduceMul, Nat.reduceMod, Nat.reduceDiv, Int.reduceToNat, Int.reduceNeg, reduceCtorEq, ↓reduceIte, ↓Int.cast_ofNat_Int, Int.reduceAdd, Int.reduceSub, Int.reduceMul, Int.reduceDiv, Int.reduceMod, ↓Nat.reduceEqDiff, ↓Nat.reduceLT, ↓Nat.reduceLeDiff, ↓Nat.reduceBEq, ↓Int.reduceLT, ↓Int.reduceLE, ↓Int.reduceEq, Try.ntmps22, Try.results22, (show Try.f22.body = some _ from rfl)] at hr; subst hr)
  ((unfold chk; repeat' split) <;> first | rfl | (exfalso; first | omega | simp_all | (simp_all; omega)))

end Go.Proofs.Ytpdbekbobkjfgaa
