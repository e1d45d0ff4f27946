/-
  The statements LevelsChange and LevelsReceive: the laws' walks.
  Conditions: none.
-/
import Derived.Test.YtolmhlikmjkkfaaLvZ
namespace Go.Proofs.Ytolmhlikmjkkfaa
open Go.RowKit
set_option linter.unusedVariables false
set_option linter.unusedSimpArgs false

/-- The last part of the law on a row: what is received of z, and sent again. -/
theorem recv_resend {z : List Int} (h8 : u8s z) (hk : (recvX z).1 = 0) : sendL (recvX z).2 = z ∧ u8s (recvX z).2 ∧ (recvX z).2.length ≤ 1027 := by
  have := send_recv h8 (Prod.ext hk rfl : recvX z = (0, (recvX z).2))
  exact ⟨this.1, this.2.1, this.2.2.2⟩

set_option maxRecDepth 100000 in
set_option maxHeartbeats 8000000 in
theorem changeWalk_a (b : List Int) (t : Nat) (x : Int) (hb8 : u8s b) (ht : t ≤ 65535) (hx8 : 0 ≤ x ∧ x < 256) (hbl : b.length ≤ 9223372036854775807) : AFun Try.prog 12 [.ints .u8 b none, .v (.int .u16 t), .v (.int .u8 x)] (.v (.bool true)) := by
  have hov := tab_cons send_t (tab_cons receive_t (tab_cons lives_t (tab_nil (P := Try.prog))))
  by_cases h1 : 300 < b.length
  · ((first | refine afun_x ty_mixed hov 60 ?_ | refine aret_x ty_mixed hov 60 ?_); intro r hr; simp (maxSteps := 2000000) (disch := omega) only [push_cast, Nat.reduceEqDiff, Nat.reduceLT, Nat.reduceAdd, Nat.reduceSub, Nat.reduceMul, Nat.reduceMod, Nat.reduceDiv, Nat.reduceBEq, Nat.reduceLeDiff, Int.reduceLT, Int.reduceLE, Int.reduceToNat, Int.reduceNeg, Int.reduceEq, reduceCtorEq, ↓reduceIte, ↓Int.cast_ofNat_Int, Int.reduceAdd, Int.reduceSub, Int.reduceMul, Int.reduceDiv, Int.reduceMod, ↓Nat.reduceEqDiff, ↓Nat.reduceLT, ↓Nat.reduceLeDiff, ↓Nat.reduceBEq, ↓Int.reduceLT, ↓Int.reduceLE, ↓Int.reduceEq, Try.ntmps12, Try.results12, (show Try.f12.body = some _ from rfl)] at hr; subst hr)
    with_reducible rfl
  by_cases h0 : b.length = 0
  · have hv : ¬ (1 ≤ b.length ∧ b.length ≤ 1027) := by omega
    ((first | refine afun_x ty_mixed hov 60 ?_ | refine aret_x ty_mixed hov 60 ?_); intro r hr; simp (maxSteps := 2000000) (disch := omega) only [push_cast, Nat.reduceEqDiff, Nat.reduceLT, Nat.reduceAdd, Nat.reduceSub, Nat.reduceMul, Nat.reduceMod, Nat.reduceDiv, Nat.reduceBEq, Nat.reduceLeDiff, Int.reduceLT, Int.reduceLE, Int.reduceToNat, Int.reduceNeg, Int.reduceEq, reduceCtorEq, ↓reduceIte, ↓Int.cast_ofNat_Int, Int.reduceAdd, Int.reduceSub, Int.reduceMul, Int.reduceDiv, Int.reduceMod, ↓Nat.reduceEqDiff, ↓Nat.reduceLT, ↓Nat.reduceLeDiff, ↓Nat.reduceBEq, ↓Int.reduceLT, ↓Int.reduceLE, ↓Int.reduceEq, hb8, hv, h0, Try.ntmps12, Try.results12, (show Try.f12.body = some _ from rfl)] at hr; subst hr)
    with_reducible rfl
  have hv : 1 ≤ b.length ∧ b.length ≤ 1027 := by omega
  have hs8 := sendL_u8 b
  have hsl := sendL_le b
  have hsp := sendL_pos b
  have hsr : ∀ (i : Nat) (hi : i < (sendL b).length), (sendL b)[i] ≠ x → recvX ((sendL b).set i x) ≠ (0, b) := fun i hi hne => recv_change hs8 hx8 hi hne
  have hset : ∀ i, u8s ((sendL b).set i x) := fun i y hy => by
    rcases List.mem_or_eq_of_mem_set hy with h | h
    · exact hs8 y h
    · rw [h]; exact hx8
  obtain ⟨s, hs⟩ : ∃ s, sendL b = s := ⟨_, rfl⟩
  have hm0 : 0 ≤ (t : Int) % (s.length : Int) := by rw [← hs]; omega
  have hm1 : (t : Int) % (s.length : Int) < s.length := by rw [← hs]; exact Int.emod_lt_of_pos _ (by omega)
  have hmt : ((t : Int) % (s.length : Int)).toNat = t % s.length := by omega
  have hml : t % s.length < s.length := Nat.mod_lt _ (by rw [← hs]; omega)
  have hs0 : ¬ s.length = 0 := by rw [← hs]; omega
  rw [hs] at hs8 hsl hsp hsr hset
  by_cases he : s[t % s.length] = x
  · ((first | refine afun_x ty_mixed hov 60 ?_ | refine aret_x ty_mixed hov 60 ?_); intro r hr; simp (maxSteps := 2000000) (disch := omega) only [push_cast, Nat.reduceEqDiff, Nat.reduceLT, Nat.reduceAdd, Nat.reduceSub, Nat.reduceMul, Nat.reduceMod, Nat.reduceDiv, Nat.reduceBEq, Nat.reduceLeDiff, Int.reduceLT, Int.reduceLE, Int.reduceToNat, Int.reduceNeg, Int.reduceEq, reduceCtorEq, ↓reduceIte, ↓Int.cast_ofNat_Int, Int.reduceAdd, Int.reduceSub, Int.reduceMul, Int.reduceDiv, Int.reduceMod, ↓Nat.reduceEqDiff, ↓Nat.reduceLT, ↓Nat.reduceLeDiff, ↓Nat.reduceBEq, ↓Int.reduceLT, ↓Int.reduceLE, ↓Int.reduceEq, hb8, hv, h0, hs, hmt, he, Try.ntmps12, Try.results12, (show Try.f12.body = some _ from rfl)] at hr; subst hr)
    with_reducible rfl
  have hrv := hsr (t % s.length) hml he
  have h8 := hset (t % s.length)
  have hsl2 : (s.set (t % s.length) x).length ≤ 100000 := by rw [List.length_set]; omega
  obtain ⟨z, hz⟩ : ∃ z, s.set (t % s.length) x = z := ⟨_, rfl⟩
  rw [hz] at hrv h8 hsl2
  by_cases hk : (recvX z).1 = 0
  · have hne := strNe (recv_resend h8 hk).2.1 hb8 fun h => hrv (Prod.ext hk h)
    ((first | refine afun_x ty_mixed hov 60 ?_ | refine aret_x ty_mixed hov 60 ?_); intro r hr; simp (maxSteps := 2000000) (disch := omega) only [push_cast, Nat.reduceEqDiff, Nat.reduceLT, Nat.reduceAdd, Nat.reduceSub, Nat.reduceMul, Nat.reduceMod, Nat.reduceDiv, Nat.reduceBEq, Nat.reduceLeDiff, Int.reduceLT, Int.reduceLE, Int.reduceToNat, Int.reduceNeg, Int.reduceEq, reduceCtorEq, ↓reduceIte, ↓Int.cast_ofNat_Int, Int.reduceAdd, Int.reduceSub, Int.reduceMul, Int.reduceDiv, Int.reduceMod, ↓Nat.reduceEqDiff, ↓Nat.reduceLT, ↓Nat.reduceLeDiff, ↓Nat.reduceBEq, ↓Int.reduceLT, ↓Int.reduceLE, ↓Int.reduceEq, hb8, hv, h0, hs, hmt, he, hz, h8, hk, hne, Try.ntmps12, Try.results12, (show Try.f12.body = some _ from rfl)] at hr; subst hr)
    with_reducible rfl
  · ((first | refine afun_x ty_mixed hov 60 ?_ | refine aret_x ty_mixed hov 60 ?_); intro r hr; simp (maxSteps := 2000000) (disch := omega) only [push_cast, Nat.reduceEqDiff, Nat.reduceLT, Nat.reduceAdd, Nat.reduceSub, Nat.reduceMul, Nat.reduceMod, Nat.reduceDiv, Nat.reduceBEq, Nat.reduceLeDiff, Int.reduceLT, Int.reduceLE, Int.reduceToNat, Int.reduceNeg, Int.reduceEq, reduceCtorEq, ↓reduceIte, ↓Int.cast_ofNat_Int, Int.reduceAdd, Int.reduceSub, Int.reduceMul, Int.reduceDiv, Int.reduceMod, ↓Nat.reduceEqDiff, ↓Nat.reduceLT, ↓Nat.reduceLeDiff, ↓Nat.reduceBEq, ↓Int.reduceLT, ↓Int.reduceLE, ↓Int.reduceEq, hb8, hv, h0, hs, hmt, he, hz, h8, hk, Try.ntmps12, Try.results12, (show Try.f12.body = some _ from rfl)] at hr; subst hr)
    with_reducible rfl

set_option maxRecDepth 100000 in
set_option maxHeartbeats 8000000 in
theorem receiveWalk_a (l : List Int) (t : Nat) (x : Int) (hb8 : u8s l) (ht : t ≤ 65535) (hx8 : 0 ≤ x ∧ x < 256) (hbl : l.length ≤ 9223372036854775807) : AFun Try.prog 11 [.ints .u8 l none, .v (.int .u16 t), .v (.int .u8 x)] (.v (.bool true)) := by
  have hov := tab_cons refSend_t (tab_cons lineLaw_t (tab_cons receive_t (tab_cons refReceive_t (tab_cons statesLaw_t (tab_cons lives_t (tab_nil (P := Try.prog)))))))
  by_cases h1 : 1500 < l.length
  · ((first | refine afun_x ty_mixed hov 60 ?_ | refine aret_x ty_mixed hov 60 ?_); intro r hr; simp (maxSteps := 2000000) (disch := omega) only [push_cast, Nat.reduceEqDiff, Nat.reduceLT, Nat.reduceAdd, Nat.reduceSub, Nat.reduceMul, Nat.reduceMod, Nat.reduceDiv, Nat.reduceBEq, Nat.reduceLeDiff, Int.reduceLT, Int.reduceLE, Int.reduceToNat, Int.reduceNeg, Int.reduceEq, reduceCtorEq, ↓reduceIte, ↓Int.cast_ofNat_Int, Int.reduceAdd, Int.reduceSub, Int.reduceMul, Int.reduceDiv, Int.reduceMod, ↓Nat.reduceEqDiff, ↓Nat.reduceLT, ↓Nat.reduceLeDiff, ↓Nat.reduceBEq, ↓Int.reduceLT, ↓Int.reduceLE, ↓Int.reduceEq, Try.ntmps11, Try.results11, (show Try.f11.body = some _ from rfl)] at hr; subst hr)
    with_reducible rfl
  by_cases hc : ¬ (t : Int) % 4 = 0 ∧ 0 < l.length ∧ l.length ≤ 150
  · obtain ⟨c1, c2, c3⟩ := hc
    have hs8 := sendL_u8 l
    have hsl := sendL_le l
    have hsp := sendL_pos l
    have hset : ∀ i, u8s ((sendL l).set i x) := fun i y hy => by
      rcases List.mem_or_eq_of_mem_set hy with h | h
      · exact hs8 y h
      · rw [h]; exact hx8
    obtain ⟨s, hs⟩ : ∃ s, sendL l = s := ⟨_, rfl⟩
    have hq : (t : Int) / 4 = ((t / 4 : Nat) : Int) := by omega
    obtain ⟨q, hqe⟩ : ∃ q, t / 4 = q := ⟨_, rfl⟩
    rw [hqe] at hq
    have hq2 : q ≤ 65535 := by omega
    have hm0 : 0 ≤ (q : Int) % (s.length : Int) := by rw [← hs]; omega
    have hm1 : (q : Int) % (s.length : Int) < s.length := by rw [← hs]; exact Int.emod_lt_of_pos _ (by omega)
    have hmt : ((q : Int) % (s.length : Int)).toNat = q % s.length := by omega
    have hml : q % s.length < s.length := Nat.mod_lt _ (by rw [← hs]; omega)
    have hs0 : ¬ s.length = 0 := by rw [← hs]; omega
    rw [hs] at hs8 hsl hsp hset
    have h8 := hset (q % s.length)
    have hsl2 : (s.set (q % s.length) x).length ≤ 100000 := by rw [List.length_set]; omega
    obtain ⟨z, hz⟩ : ∃ z, s.set (q % s.length) x = z := ⟨_, rfl⟩
    rw [hz] at h8 hsl2
    by_cases hk : (recvX z).1 = 0
    · obtain ⟨r1, r2, r3⟩ := recv_resend h8 hk
      ((first | refine afun_x ty_mixed hov 60 ?_ | refine aret_x ty_mixed hov 60 ?_); intro r hr; simp (maxSteps := 2000000) (disch := omega) only [push_cast, Nat.reduceEqDiff, Nat.reduceLT, Nat.reduceAdd, Nat.reduceSub, Nat.reduceMul, Nat.reduceMod, Nat.reduceDiv, Nat.reduceBEq, Nat.reduceLeDiff, Int.reduceLT, Int.reduceLE, Int.reduceToNat, Int.reduceNeg, Int.reduceEq, reduceCtorEq, ↓reduceIte, ↓Int.cast_ofNat_Int, Int.reduceAdd, Int.reduceSub, Int.reduceMul, Int.reduceDiv, Int.reduceMod, ↓Nat.reduceEqDiff, ↓Nat.reduceLT, ↓Nat.reduceLeDiff, ↓Nat.reduceBEq, ↓Int.reduceLT, ↓Int.reduceLE, ↓Int.reduceEq, hb8, c1, hs, hq, hmt, hz, h8, hk, r1, r2, Try.ntmps11, Try.results11, (show Try.f11.body = some _ from rfl)] at hr; subst hr)
      with_reducible rfl
    · ((first | refine afun_x ty_mixed hov 60 ?_ | refine aret_x ty_mixed hov 60 ?_); intro r hr; simp (maxSteps := 2000000) (disch := omega) only [push_cast, Nat.reduceEqDiff, Nat.reduceLT, Nat.reduceAdd, Nat.reduceSub, Nat.reduceMul, Nat.reduceMod, Nat.reduceDiv, Nat.reduceBEq, Nat.reduceLeDiff, Int.reduceLT, Int.reduceLE, Int.reduceToNat, Int.reduceNeg, Int.reduceEq, reduceCtorEq, ↓reduceIte, ↓Int.cast_ofNat_Int, Int.reduceAdd, Int.reduceSub, Int.reduceMul, Int.reduceDiv, Int.reduceMod, ↓Nat.reduceEqDiff, ↓Nat.reduceLT, ↓Nat.reduceLeDiff, ↓Nat.reduceBEq, ↓Int.reduceLT, ↓Int.reduceLE, ↓Int.reduceEq, hb8, c1, hs, hq, hmt, hz, h8, hk, Try.ntmps11, Try.results11, (show Try.f11.body = some _ from rfl)] at hr; subst hr)
      with_reducible rfl
  · by_cases c1 : (t : Int) % 4 = 0
    · by_cases hk : (recvX l).1 = 0
      · obtain ⟨r1, r2, r3⟩ := recv_resend hb8 hk
        ((first | refine afun_x ty_mixed hov 60 ?_ | refine aret_x ty_mixed hov 60 ?_); intro r hr; simp (maxSteps := 2000000) (disch := omega) only [push_cast, Nat.reduceEqDiff, Nat.reduceLT, Nat.reduceAdd, Nat.reduceSub, Nat.reduceMul, Nat.reduceMod, Nat.reduceDiv, Nat.reduceBEq, Nat.reduceLeDiff, Int.reduceLT, Int.reduceLE, Int.reduceToNat, Int.reduceNeg, Int.reduceEq, reduceCtorEq, ↓reduceIte, ↓Int.cast_ofNat_Int, Int.reduceAdd, Int.reduceSub, Int.reduceMul, Int.reduceDiv, Int.reduceMod, ↓Nat.reduceEqDiff, ↓Nat.reduceLT, ↓Nat.reduceLeDiff, ↓Nat.reduceBEq, ↓Int.reduceLT, ↓Int.reduceLE, ↓Int.reduceEq, hb8, c1, hk, r1, r2, Try.ntmps11, Try.results11, (show Try.f11.body = some _ from rfl)] at hr; subst hr)
        with_reducible rfl
      · ((first | refine afun_x ty_mixed hov 60 ?_ | refine aret_x ty_mixed hov 60 ?_); intro r hr; simp (maxSteps := 2000000) (disch := omega) only [push_cast, Nat.reduceEqDiff, Nat.reduceLT, Nat.reduceAdd, Nat.reduceSub, Nat.reduceMul, Nat.reduceMod, Nat.reduceDiv, Nat.reduceBEq, Nat.reduceLeDiff, Int.reduceLT, Int.reduceLE, Int.reduceToNat, Int.reduceNeg, Int.reduceEq, reduceCtorEq, ↓reduceIte, ↓Int.cast_ofNat_Int, Int.reduceAdd, Int.reduceSub, Int.reduceMul, Int.reduceDiv, Int.reduceMod, ↓Nat.reduceEqDiff, ↓Nat.reduceLT, ↓Nat.reduceLeDiff, ↓Nat.reduceBEq, ↓Int.reduceLT, ↓Int.reduceLE, ↓Int.reduceEq, hb8, c1, hk, Try.ntmps11, Try.results11, (show Try.f11.body = some _ from rfl)] at hr; subst hr)
        with_reducible rfl
    · by_cases c2 : l.length = 0
      · by_cases hk : (recvX l).1 = 0
        · obtain ⟨r1, r2, r3⟩ := recv_resend hb8 hk
          ((first | refine afun_x ty_mixed hov 60 ?_ | refine aret_x ty_mixed hov 60 ?_); intro r hr; simp (maxSteps := 2000000) (disch := omega) only [push_cast, Nat.reduceEqDiff, Nat.reduceLT, Nat.reduceAdd, Nat.reduceSub, Nat.reduceMul, Nat.reduceMod, Nat.reduceDiv, Nat.reduceBEq, Nat.reduceLeDiff, Int.reduceLT, Int.reduceLE, Int.reduceToNat, Int.reduceNeg, Int.reduceEq, reduceCtorEq, ↓reduceIte, ↓Int.cast_ofNat_Int, Int.reduceAdd, Int.reduceSub, Int.reduceMul, Int.reduceDiv, Int.reduceMod, ↓Nat.reduceEqDiff, ↓Nat.reduceLT, ↓Nat.reduceLeDiff, ↓Nat.reduceBEq, ↓Int.reduceLT, ↓Int.reduceLE, ↓Int.reduceEq, hb8, c1, c2, hk, r1, r2, Try.ntmps11, Try.results11, (show Try.f11.body = some _ from rfl)] at hr; subst hr)
          with_reducible rfl
        · ((first | refine afun_x ty_mixed hov 60 ?_ | refine aret_x ty_mixed hov 60 ?_); intro r hr; simp (maxSteps := 2000000) (disch := omega) only [push_cast, Nat.reduceEqDiff, Nat.reduceLT, Nat.reduceAdd, Nat.reduceSub, Nat.reduceMul, Nat.reduceMod, Nat.reduceDiv, Nat.reduceBEq, Nat.reduceLeDiff, Int.reduceLT, Int.reduceLE, Int.reduceToNat, Int.reduceNeg, Int.reduceEq, reduceCtorEq, ↓reduceIte, ↓Int.cast_ofNat_Int, Int.reduceAdd, Int.reduceSub, Int.reduceMul, Int.reduceDiv, Int.reduceMod, ↓Nat.reduceEqDiff, ↓Nat.reduceLT, ↓Nat.reduceLeDiff, ↓Nat.reduceBEq, ↓Int.reduceLT, ↓Int.reduceLE, ↓Int.reduceEq, hb8, c1, c2, hk, Try.ntmps11, Try.results11, (show Try.f11.body = some _ from rfl)] at hr; subst hr)
          with_reducible rfl
      · have c3 : 150 < l.length := by
          rcases Nat.lt_or_ge 150 l.length with h | h
          · exact h
          · exact absurd ⟨c1, by omega, h⟩ hc
        by_cases hk : (recvX l).1 = 0
        · obtain ⟨r1, r2, r3⟩ := recv_resend hb8 hk
          ((first | refine afun_x ty_mixed hov 60 ?_ | refine aret_x ty_mixed hov 60 ?_); intro r hr; simp (maxSteps := 2000000) (disch := omega) only [push_cast, Nat.reduceEqDiff, Nat.reduceLT, Nat.reduceAdd, Nat.reduceSub, Nat.reduceMul, Nat.reduceMod, Nat.reduceDiv, Nat.reduceBEq, Nat.reduceLeDiff, Int.reduceLT, Int.reduceLE, Int.reduceToNat, Int.reduceNeg, Int.reduceEq, reduceCtorEq, ↓reduceIte, ↓Int.cast_ofNat_Int, Int.reduceAdd, Int.reduceSub, Int.reduceMul, Int.reduceDiv, Int.reduceMod, ↓Nat.reduceEqDiff, ↓Nat.reduceLT, ↓Nat.reduceLeDiff, ↓Nat.reduceBEq, ↓Int.reduceLT, ↓Int.reduceLE, ↓Int.reduceEq, hb8, c1, hk, r1, r2, Try.ntmps11, Try.results11, (show Try.f11.body = some _ from rfl)] at hr; subst hr)
          with_reducible rfl
        · ((first | refine afun_x ty_mixed hov 60 ?_ | refine aret_x ty_mixed hov 60 ?_); intro r hr; simp (maxSteps := 2000000) (disch := omega) only [push_cast, Nat.reduceEqDiff, Nat.reduceLT, Nat.reduceAdd, Nat.reduceSub, Nat.reduceMul, Nat.reduceMod, Nat.reduceDiv, Nat.reduceBEq, Nat.reduceLeDiff, Int.reduceLT, Int.reduceLE, Int.reduceToNat, Int.reduceNeg, Int.reduceEq, reduceCtorEq, ↓reduceIte, ↓Int.cast_ofNat_Int, Int.reduceAdd, Int.reduceSub, Int.reduceMul, Int.reduceDiv, Int.reduceMod, ↓Nat.reduceEqDiff, ↓Nat.reduceLT, ↓Nat.reduceLeDiff, ↓Nat.reduceBEq, ↓Int.reduceLT, ↓Int.reduceLE, ↓Int.reduceEq, hb8, c1, hk, Try.ntmps11, Try.results11, (show Try.f11.body = some _ from rfl)] at hr; subst hr)
          with_reducible rfl
end Go.Proofs.Ytolmhlikmjkkfaa
