/-
  A host's transactions with a device, the plain law: what a device hears, and what comes back.
  Conditions: none.
-/
import Derived.Test.YtjibodklckppfaaO6r
import Derived.Test.YtjibodklckppfaaDoA
namespace Go.Proofs.Ytjibodklckppfaa
set_option linter.unusedVariables false
set_option linter.unusedSimpArgs false
set_option maxRecDepth 100000
set_option maxHeartbeats 4000000

theorem spkR_lost (m : Nat) (p : Pkt) (s : (Bool × List (List Int) × Bool × Unit)) (w : List Int) (hc : pkChk_D m p = some (0, ())) (hl : p.2.2.2.2.2.2.2.2.2.1.length ≤ 1000000) (hf : ¬ hdF w = 0) :
    ∃ snt : List SntT, 0 < snt.length ∧ snt.length ≤ 2 ∧ (snt.getD 0 ftD).2.2.2.2.2.2.2.2.2.2.2.1 = hdF w ∧ spkR_D m p s w = some ((zP, false, snt, ()), s, (w.drop 1, ()), ()) := by
  obtain ⟨e, he, hs⟩ := send6_eq m p true w [] hl (by simp)
  refine ⟨[e], by simp, by simp, by simpa using he, ?_⟩
  unfold spkR_D
  simp only [hc, bnd_some, decide_true, Bool.not_true, cond_false, hs, dF hf, clipT, takeAll, List.nil_append, cond_true]
  all_goals rfl
theorem spkR_mute (m : Nat) (p : Pkt) (s s' : (Bool × List (List Int) × Bool × Unit)) (w : List Int) (a : Pkt) (hc : pkChk_D m p = some (0, ())) (hl : p.2.2.2.2.2.2.2.2.2.1.length ≤ 1000000) (hf : hdF w = 0) (hH : recvH_D m p s = some ((a, false, ()), s', ())) :
    ∃ snt : List SntT, 0 < snt.length ∧ snt.length ≤ 2 ∧ (snt.getD 0 ftD).2.2.2.2.2.2.2.2.2.2.2.1 = hdF w ∧ spkR_D m p s w = some ((zP, false, snt, ()), s', (w.drop 1, ()), ()) := by
  obtain ⟨e, he, hs⟩ := send6_eq m p true w [] hl (by simp)
  refine ⟨[e], by simp, by simp, by simpa using he, ?_⟩
  obtain ⟨p0, p1, p2, p3, p4, p5, p6, p7, p8, b, ⟨⟩⟩ := p
  simp only at hl
  unfold spkR_D
  simp only [hc, bnd_some, decide_true, Bool.not_true, cond_false, hs, dT hf, clipT, takeAll, List.nil_append, cond_true, cloneB_eq m b hl, hH]
  all_goals rfl
theorem spkR_ans (m : Nat) (p : Pkt) (s s' : (Bool × List (List Int) × Bool × Unit)) (w : List Int) (a : Pkt) (hc : pkChk_D m p = some (0, ())) (hl : p.2.2.2.2.2.2.2.2.2.1.length ≤ 1000000) (hf : hdF w = 0) (hH : recvH_D m p s = some ((a, true, ()), s', ())) (hca : pkChk_D m a = some (0, ())) (hla : a.2.2.2.2.2.2.2.2.2.1.length ≤ 1000000) :
    ∃ snt : List SntT, 0 < snt.length ∧ snt.length ≤ 2 ∧ (snt.getD 0 ftD).2.2.2.2.2.2.2.2.2.2.2.1 = hdF w ∧
      spkR_D m p s w = some (((bif decide (hdF (w.drop 1) = 0) then a else zP), decide (hdF (w.drop 1) = 0), snt, ()), s', ((w.drop 1).drop 1, ()), ()) := by
  obtain ⟨e, he, hs⟩ := send6_eq m p true w [] hl (by simp)
  obtain ⟨e2, he2, hs2⟩ := send6_eq m a false (w.drop 1) ([] ++ [e]) hla (by simp)
  refine ⟨[] ++ [e] ++ [e2], by simp, by simp, by simpa using he, ?_⟩
  obtain ⟨p0, p1, p2, p3, p4, p5, p6, p7, p8, b, ⟨⟩⟩ := p
  obtain ⟨a0, a1, a2, a3, a4, a5, a6, a7, a8, ab, ⟨⟩⟩ := a
  simp only at hl hla
  unfold spkR_D
  by_cases h2 : hdF (w.drop 1) = 0
  · simp only [hc, bnd_some, decide_true, Bool.not_true, cond_false, hs, dT hf, clipT, takeAll, cond_true, cloneB_eq m b hl, hH, hca, hs2, dT h2, cloneB_eq m ab hla]
    all_goals rfl
  · simp only [hc, bnd_some, decide_true, Bool.not_true, cond_false, hs, dT hf, clipT, takeAll, cond_true, cloneB_eq m b hl, hH, hca, hs2, dF h2]
    all_goals rfl
theorem spkZR_eq (m : Nat) (p : Pkt) (w : List Int) (hc : pkChk_D m p = some (0, ())) (hl : p.2.2.2.2.2.2.2.2.2.1.length ≤ 1000000) :
    ∃ snt : List SntT, 0 < snt.length ∧ snt.length ≤ 2 ∧ spkZR_D m p w = some ((zP, false, snt, ()), (w.drop 1, ()), ()) := by
  obtain ⟨e, he, hs⟩ := send6_eq m p true w [] hl (by simp)
  refine ⟨[e], by simp, by simp, ?_⟩
  unfold spkZR_D
  by_cases hf : hdF w = 0
  · simp only [hc, bnd_some, decide_true, Bool.not_true, cond_false, hs, dT hf, clipT, takeAll, List.nil_append, cond_true]
    all_goals rfl
  · simp only [hc, bnd_some, decide_true, Bool.not_true, cond_false, hs, dF hf, clipT, takeAll, List.nil_append, cond_true]
    all_goals rfl
theorem sayR_inl (m : Nat) (p : Pkt) (s s' : (Bool × List (List Int) × Bool × Unit)) (w w' : List Int) (sent snt : List SntT) (a : Pkt) (ok : Bool) (hn : sent.length ≤ 1000) (h0 : 0 < snt.length) (h1 : snt.length ≤ 2) (hf : (snt.getD 0 ftD).2.2.2.2.2.2.2.2.2.2.2.1 = 0)
    (h : spkR_D m p s w = some ((a, ok, snt, ()), s', (w', ()), ())) : sayR_D m p s w sent = some (.inl ((a, ok, ()), s', (w', ()), sent ++ snt, ())) := by
  unfold sayR_D sayR_J0
  rw [h]
  simp only [bnd_some]
  rw [gr48 _ (by omega), dT (by omega : (0 : Int) < (snt.length : Nat)), inT (by omega) (by omega : (0 : Int) < (snt.length : Nat))]
  simp only [cond_true]
  rw [show (List.getD snt (Int.toNat 0) (0, 0, 0, 0, 0, 0, false, false, 0, [], false, 0, ())).snd.snd.snd.snd.snd.snd.snd.snd.snd.snd.snd.fst = 0 from hf]
  rfl
theorem sayR_inr (m : Nat) (p : Pkt) (s s' : (Bool × List (List Int) × Bool × Unit)) (w w' : List Int) (sent snt : List SntT) (a : Pkt) (ok : Bool) (hn : sent.length ≤ 1000) (h0 : 0 < snt.length) (h1 : snt.length ≤ 2) (hf : ¬ (snt.getD 0 ftD).2.2.2.2.2.2.2.2.2.2.2.1 = 0)
    (h : spkR_D m p s w = some ((a, ok, snt, ()), s', (w', ()), ())) : sayR_D m p s w sent = some (.inr ((a, ok, ()), s', (w', ()), sent ++ snt, ())) := by
  unfold sayR_D sayR_J0
  rw [h]
  simp only [bnd_some]
  rw [gr48 _ (by omega), dT (by omega : (0 : Int) < (snt.length : Nat)), inT (by omega) (by omega : (0 : Int) < (snt.length : Nat))]
  simp only [cond_true]
  rw [dF (show ¬ (List.getD snt (Int.toNat 0) (0, 0, 0, 0, 0, 0, false, false, 0, [], false, 0, ())).snd.snd.snd.snd.snd.snd.snd.snd.snd.snd.snd.fst = 0 from hf)]
  rfl
theorem sayZR_eq (m : Nat) (p : Pkt) (w : List Int) (sent : List SntT) (hn : sent.length ≤ 1000) (hc : pkChk_D m p = some (0, ())) (hl : p.2.2.2.2.2.2.2.2.2.1.length ≤ 1000000) :
    ∃ sent2 : List SntT, sent2.length ≤ sent.length + 2 ∧ sayZR_D m p w sent = some ((zP, false, ()), (w.drop 1, ()), sent2, ()) := by
  obtain ⟨snt, h0, h1, h⟩ := spkZR_eq m p w hc hl
  refine ⟨sent ++ snt, by simp only [List.length_append]; omega, ?_⟩
  unfold sayZR_D sayZR_J0
  rw [h]
  simp only [bnd_some]
  rw [gr48 _ (by omega), dT (by omega : (0 : Int) < (snt.length : Nat)), inT (by omega) (by omega : (0 : Int) < (snt.length : Nat))]
  simp only [cond_true]
  cases !decide ((List.getD snt (Int.toNat 0) (0, 0, 0, 0, 0, 0, false, false, 0, [], false, 0, ())).snd.snd.snd.snd.snd.snd.snd.snd.snd.snd.snd.fst = 0) <;> rfl
theorem sayR_lost (m : Nat) (p : Pkt) (s : (Bool × List (List Int) × Bool × Unit)) (w : List Int) (sent : List SntT) (hn : sent.length ≤ 900) (hc : pkChk_D m p = some (0, ())) (hl : p.2.2.2.2.2.2.2.2.2.1.length ≤ 1000000) (hf : ¬ hdF w = 0) :
    ∃ sent2 : List SntT, sent2.length ≤ sent.length + 2 ∧ sayR_D m p s w sent = some (.inr ((zP, false, ()), s, (w.drop 1, ()), sent2, ())) := by
  obtain ⟨snt, h0, h1, h2, h⟩ := spkR_lost m p s w hc hl hf
  exact ⟨sent ++ snt, by simp only [List.length_append]; omega, sayR_inr m p s s w _ sent snt _ _ (by omega) h0 h1 (by rw [h2]; exact hf) h⟩
theorem sayR_mute (m : Nat) (p : Pkt) (s s' : (Bool × List (List Int) × Bool × Unit)) (w : List Int) (a : Pkt) (sent : List SntT) (hn : sent.length ≤ 900) (hc : pkChk_D m p = some (0, ())) (hl : p.2.2.2.2.2.2.2.2.2.1.length ≤ 1000000) (hf : hdF w = 0) (hH : recvH_D m p s = some ((a, false, ()), s', ())) :
    ∃ sent2 : List SntT, sent2.length ≤ sent.length + 2 ∧ sayR_D m p s w sent = some (.inl ((zP, false, ()), s', (w.drop 1, ()), sent2, ())) := by
  obtain ⟨snt, h0, h1, h2, h⟩ := spkR_mute m p s s' w a hc hl hf hH
  exact ⟨sent ++ snt, by simp only [List.length_append]; omega, sayR_inl m p s s' w _ sent snt _ _ (by omega) h0 h1 (by rw [h2]; exact hf) h⟩
theorem sayR_ans (m : Nat) (p : Pkt) (s s' : (Bool × List (List Int) × Bool × Unit)) (w : List Int) (a : Pkt) (sent : List SntT) (hn : sent.length ≤ 900) (hc : pkChk_D m p = some (0, ())) (hl : p.2.2.2.2.2.2.2.2.2.1.length ≤ 1000000) (hf : hdF w = 0) (hH : recvH_D m p s = some ((a, true, ()), s', ())) (hca : pkChk_D m a = some (0, ())) (hla : a.2.2.2.2.2.2.2.2.2.1.length ≤ 1000000) :
    ∃ sent2 : List SntT, sent2.length ≤ sent.length + 2 ∧ sayR_D m p s w sent = some (.inl (((bif decide (hdF (w.drop 1) = 0) then a else zP), decide (hdF (w.drop 1) = 0), ()), s', ((w.drop 1).drop 1, ()), sent2, ())) := by
  obtain ⟨snt, h0, h1, h2, h⟩ := spkR_ans m p s s' w a hc hl hf hH hca hla
  exact ⟨sent ++ snt, by simp only [List.length_append]; omega, sayR_inl m p s s' w _ sent snt _ _ (by omega) h0 h1 (by rw [h2]; exact hf) h⟩
theorem doR_out_lost (m : Nat) (ad ep what : Int) (tog : Bool) (b : List Int) (s : (Bool × List (List Int) × Bool × Unit)) (w : List Int) (hk : tchk6_D m (ad, ep, what, tog, false, 0, b, ()) = some (0, ())) (h9 : ¬ what = 9) (hc1 : pkChk_D m (pT what ad ep) = some (0, ())) (hb : b.length ≤ 1024) (hf : ¬ hdF w = 0) :
    ∃ sent : List SntT, doR_D m (ad, ep, what, tog, false, 0, b, ()) s w = some (((4, [], ()), sent, ()), s, ((w.drop 1).drop 1, ()), ()) := by
  obtain ⟨s1, n1, e1⟩ := sayR_lost m (pT what ad ep) s w [] (by simp) hc1 (by simp [pT]) hf
  have n1' : s1.length ≤ 2 := by simpa using n1
  obtain ⟨s2, n2, e2⟩ := sayZR_eq m (pD (bif tog then 11 else 3) b) (w.drop 1) s1 (by omega) (chk_data m _ (by cases tog <;> simp) b hb) (by simp [pD]; omega)
  refine ⟨s2, ?_⟩
  unfold pT at e1
  unfold pD at e2
  unfold doR_D
  simp only [hk, bnd_some, decide_true, Bool.not_true, cond_false, dF h9]
  unfold outR_D
  simp only [e1, bnd_some, sumK_r]
  cases tog
  · simp only [cond_false] at e2 ⊢
    simp only [e2, bnd_some, Bool.not_false, cond_true, sumK_r]
    exact do_fin _ _ _ _
  · simp only [cond_true] at e2 ⊢
    simp only [e2, bnd_some, cond_false, Bool.not_false, cond_true, sumK_r]
    exact do_fin _ _ _ _
theorem doR_out_data (m : Nat) (ad ep what : Int) (tog : Bool) (b : List Int) (s s1 : (Bool × List (List Int) × Bool × Unit)) (a1 : Pkt) (w : List Int) (hk : tchk6_D m (ad, ep, what, tog, false, 0, b, ()) = some (0, ())) (h9 : ¬ what = 9) (hc1 : pkChk_D m (pT what ad ep) = some (0, ())) (hb : b.length ≤ 1024) (hf : hdF w = 0) (hH1 : recvH_D m (pT what ad ep) s = some ((a1, false, ()), s1, ())) (hf2 : ¬ hdF (w.drop 1) = 0) :
    ∃ sent : List SntT, doR_D m (ad, ep, what, tog, false, 0, b, ()) s w = some (((4, [], ()), sent, ()), s1, ((w.drop 1).drop 1, ()), ()) := by
  obtain ⟨t1, n1, e1⟩ := sayR_mute m (pT what ad ep) s s1 w a1 [] (by simp) hc1 (by simp [pT]) hf hH1
  have n1' : t1.length ≤ 2 := by simpa using n1
  obtain ⟨t2, n2, e2⟩ := sayR_lost m (pD (bif tog then 11 else 3) b) s1 (w.drop 1) t1 (by omega) (chk_data m _ (by cases tog <;> simp) b hb) (by simp [pD]; omega) hf2
  refine ⟨t2, ?_⟩
  unfold pT at e1
  unfold pD at e2
  unfold doR_D
  simp only [hk, bnd_some, decide_true, Bool.not_true, cond_false, dF h9]
  unfold outR_D
  simp only [e1, bnd_some, sumK_l]
  cases tog
  · simp only [cond_false] at e2 ⊢
    simp only [e2, bnd_some, sumK_r, sumK_l, Bool.not_false, cond_true]
    exact do_fin _ _ _ _
  · simp only [cond_true] at e2 ⊢
    simp only [e2, bnd_some, sumK_r, sumK_l, cond_false, Bool.not_false, cond_true]
    exact do_fin _ _ _ _
theorem doR_out_hand (m : Nat) (ad ep what : Int) (tog : Bool) (b : List Int) (s s1 s2 : (Bool × List (List Int) × Bool × Unit)) (a1 : Pkt) (q r : Int) (w : List Int) (hk : tchk6_D m (ad, ep, what, tog, false, 0, b, ()) = some (0, ())) (h9 : ¬ what = 9) (hc1 : pkChk_D m (pT what ad ep) = some (0, ())) (hb : b.length ≤ 1024) (hf : hdF w = 0) (hH1 : recvH_D m (pT what ad ep) s = some ((a1, false, ()), s1, ())) (hf2 : hdF (w.drop 1) = 0)
    (hH2 : recvH_D m (pD (bif tog then 11 else 3) b) s1 = some ((pD q [], true, ()), s2, ())) (hq : q = 2 ∨ q = 10 ∨ q = 14) (hr : hands6_D m q true = some (r, ())) :
    ∃ sent : List SntT, doR_D m (ad, ep, what, tog, false, 0, b, ()) s w = some (((bif decide (hdF ((w.drop 1).drop 1) = 0) then outRes what r else 4, [], ()), sent, ()), s2, (((w.drop 1).drop 1).drop 1, ()), ()) := by
  obtain ⟨t1, n1, e1⟩ := sayR_mute m (pT what ad ep) s s1 w a1 [] (by simp) hc1 (by simp [pT]) hf hH1
  have n1' : t1.length ≤ 2 := by simpa using n1
  obtain ⟨t2, n2, e2⟩ := sayR_ans m (pD (bif tog then 11 else 3) b) s1 s2 (w.drop 1) (pD q []) t1 (by omega) (chk_data m _ (by cases tog <;> simp) b hb) (by simp [pD]; omega) hf2 hH2 (chk_hand m q hq) (by simp [pD])
  refine ⟨t2, ?_⟩
  unfold pT at e1
  unfold pD at e2
  unfold doR_D
  simp only [hk, bnd_some, decide_true, Bool.not_true, cond_false, dF h9]
  unfold outR_D
  simp only [e1, bnd_some, sumK_l]
  by_cases hf3 : hdF ((w.drop 1).drop 1) = 0
  · simp only [dT hf3, cond_true] at e2 ⊢
    cases tog
    · simp only [cond_false] at e2 ⊢
      simp only [e2, bnd_some, sumK_l, Bool.not_true, cond_false, hr, outR_J0, outRes]
      by_cases hw : what = 13
      · by_cases hr1 : r = 1
        · subst hr1; simp only [dT hw, cond_true, decide_true, Bool.not_true, cond_false, sumK_l]; exact do_fin _ _ _ _
        · simp only [dT hw, cond_true, dF hr1, Bool.not_false, cond_false, sumK_l]; exact do_fin _ _ _ _
      · simp only [dF hw, cond_false, sumK_l]; exact do_fin _ _ _ _
    · simp only [cond_true] at e2 ⊢
      simp only [e2, bnd_some, sumK_l, Bool.not_true, cond_false, hr, outR_J0, outRes]
      by_cases hw : what = 13
      · by_cases hr1 : r = 1
        · subst hr1; simp only [dT hw, cond_true, decide_true, Bool.not_true, cond_false, sumK_l]; exact do_fin _ _ _ _
        · simp only [dT hw, cond_true, dF hr1, Bool.not_false, cond_false, sumK_l]; exact do_fin _ _ _ _
      · simp only [dF hw, cond_false, sumK_l]; exact do_fin _ _ _ _
  · simp only [dF hf3, cond_false] at e2 ⊢
    cases tog
    · simp only [cond_false] at e2 ⊢
      simp only [e2, bnd_some, sumK_l, Bool.not_false, cond_true]
      exact do_fin _ _ _ _
    · simp only [cond_true] at e2 ⊢
      simp only [e2, bnd_some, sumK_l, cond_false, Bool.not_false, cond_true]
      exact do_fin _ _ _ _
end Go.Proofs.Ytjibodklckppfaa

