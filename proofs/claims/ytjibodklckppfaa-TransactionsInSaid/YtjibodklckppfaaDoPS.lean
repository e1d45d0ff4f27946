/-
  A host's transactions with a device, the plain law: what a device hears, and what comes back.
  Conditions: none.
-/
import Derived.Test.YtjibodklckppfaaO6s
import Derived.Test.YtjibodklckppfaaDoA
namespace Go.Proofs.Ytjibodklckppfaa
set_option linter.unusedVariables false
set_option linter.unusedSimpArgs false
set_option maxRecDepth 100000
set_option maxHeartbeats 4000000

theorem spkS_lost (m : Nat) (p : Pkt) (s : (Bool × List (List Int) × Bool × Unit)) (w : List Int) (hc : pkChk_D m p = some (0, ())) (hl : p.2.2.2.2.2.2.2.2.2.1.length ≤ 1000000) (hf : ¬ hdF w = 0) :
    ∃ snt : List SntT, 0 < snt.length ∧ snt.length ≤ 2 ∧ (snt.getD 0 ftD).2.2.2.2.2.2.2.2.2.2.2.1 = hdF w ∧ spkS_D m p s w = some ((zP, false, snt, ()), s, (w.drop 1, ()), ()) := by
  obtain ⟨e, he, hs⟩ := send6_eq m p true w [] hl (by simp)
  refine ⟨[e], by simp, by simp, by simpa using he, ?_⟩
  unfold spkS_D
  simp only [hc, bnd_some, decide_true, Bool.not_true, cond_false, hs, dF hf, clipT, takeAll, List.nil_append, cond_true]
  all_goals rfl
theorem spkS_mute (m : Nat) (p : Pkt) (s s' : (Bool × List (List Int) × Bool × Unit)) (w : List Int) (a : Pkt) (hc : pkChk_D m p = some (0, ())) (hl : p.2.2.2.2.2.2.2.2.2.1.length ≤ 1000000) (hf : hdF w = 0) (hH : sndH_D m p s = some ((a, false, ()), s', ())) :
    ∃ snt : List SntT, 0 < snt.length ∧ snt.length ≤ 2 ∧ (snt.getD 0 ftD).2.2.2.2.2.2.2.2.2.2.2.1 = hdF w ∧ spkS_D m p s w = some ((zP, false, snt, ()), s', (w.drop 1, ()), ()) := by
  obtain ⟨e, he, hs⟩ := send6_eq m p true w [] hl (by simp)
  refine ⟨[e], by simp, by simp, by simpa using he, ?_⟩
  obtain ⟨p0, p1, p2, p3, p4, p5, p6, p7, p8, b, ⟨⟩⟩ := p
  simp only at hl
  unfold spkS_D
  simp only [hc, bnd_some, decide_true, Bool.not_true, cond_false, hs, dT hf, clipT, takeAll, List.nil_append, cond_true, cloneB_eq m b hl, hH]
  all_goals rfl
theorem spkS_ans (m : Nat) (p : Pkt) (s s' : (Bool × List (List Int) × Bool × Unit)) (w : List Int) (a : Pkt) (hc : pkChk_D m p = some (0, ())) (hl : p.2.2.2.2.2.2.2.2.2.1.length ≤ 1000000) (hf : hdF w = 0) (hH : sndH_D m p s = some ((a, true, ()), s', ())) (hca : pkChk_D m a = some (0, ())) (hla : a.2.2.2.2.2.2.2.2.2.1.length ≤ 1000000) :
    ∃ snt : List SntT, 0 < snt.length ∧ snt.length ≤ 2 ∧ (snt.getD 0 ftD).2.2.2.2.2.2.2.2.2.2.2.1 = hdF w ∧
      spkS_D m p s w = some (((bif decide (hdF (w.drop 1) = 0) then a else zP), decide (hdF (w.drop 1) = 0), snt, ()), s', ((w.drop 1).drop 1, ()), ()) := by
  obtain ⟨e, he, hs⟩ := send6_eq m p true w [] hl (by simp)
  obtain ⟨e2, he2, hs2⟩ := send6_eq m a false (w.drop 1) ([] ++ [e]) hla (by simp)
  refine ⟨[] ++ [e] ++ [e2], by simp, by simp, by simpa using he, ?_⟩
  obtain ⟨p0, p1, p2, p3, p4, p5, p6, p7, p8, b, ⟨⟩⟩ := p
  obtain ⟨a0, a1, a2, a3, a4, a5, a6, a7, a8, ab, ⟨⟩⟩ := a
  simp only at hl hla
  unfold spkS_D
  by_cases h2 : hdF (w.drop 1) = 0
  · simp only [hc, bnd_some, decide_true, Bool.not_true, cond_false, hs, dT hf, clipT, takeAll, cond_true, cloneB_eq m b hl, hH, hca, hs2, dT h2, cloneB_eq m ab hla]
    all_goals rfl
  · simp only [hc, bnd_some, decide_true, Bool.not_true, cond_false, hs, dT hf, clipT, takeAll, cond_true, cloneB_eq m b hl, hH, hca, hs2, dF h2]
    all_goals rfl
theorem sayS_inl (m : Nat) (p : Pkt) (s s' : (Bool × List (List Int) × Bool × Unit)) (w w' : List Int) (sent snt : List SntT) (a : Pkt) (ok : Bool) (hn : sent.length ≤ 1000) (h0 : 0 < snt.length) (h1 : snt.length ≤ 2) (hf : (snt.getD 0 ftD).2.2.2.2.2.2.2.2.2.2.2.1 = 0)
    (h : spkS_D m p s w = some ((a, ok, snt, ()), s', (w', ()), ())) : sayS_D m p s w sent = some (.inl ((a, ok, ()), s', (w', ()), sent ++ snt, ())) := by
  unfold sayS_D sayS_J0
  rw [h]
  simp only [bnd_some]
  rw [gr48 _ (by omega), dT (by omega : (0 : Int) < (snt.length : Nat)), inT (by omega) (by omega : (0 : Int) < (snt.length : Nat))]
  simp only [cond_true]
  rw [show (List.getD snt (Int.toNat 0) (0, 0, 0, 0, 0, 0, false, false, 0, [], false, 0, ())).snd.snd.snd.snd.snd.snd.snd.snd.snd.snd.snd.fst = 0 from hf]
  rfl
theorem sayS_inr (m : Nat) (p : Pkt) (s s' : (Bool × List (List Int) × Bool × Unit)) (w w' : List Int) (sent snt : List SntT) (a : Pkt) (ok : Bool) (hn : sent.length ≤ 1000) (h0 : 0 < snt.length) (h1 : snt.length ≤ 2) (hf : ¬ (snt.getD 0 ftD).2.2.2.2.2.2.2.2.2.2.2.1 = 0)
    (h : spkS_D m p s w = some ((a, ok, snt, ()), s', (w', ()), ())) : sayS_D m p s w sent = some (.inr ((a, ok, ()), s', (w', ()), sent ++ snt, ())) := by
  unfold sayS_D sayS_J0
  rw [h]
  simp only [bnd_some]
  rw [gr48 _ (by omega), dT (by omega : (0 : Int) < (snt.length : Nat)), inT (by omega) (by omega : (0 : Int) < (snt.length : Nat))]
  simp only [cond_true]
  rw [dF (show ¬ (List.getD snt (Int.toNat 0) (0, 0, 0, 0, 0, 0, false, false, 0, [], false, 0, ())).snd.snd.snd.snd.snd.snd.snd.snd.snd.snd.snd.fst = 0 from hf)]
  rfl
theorem sayS_lost (m : Nat) (p : Pkt) (s : (Bool × List (List Int) × Bool × Unit)) (w : List Int) (sent : List SntT) (hn : sent.length ≤ 900) (hc : pkChk_D m p = some (0, ())) (hl : p.2.2.2.2.2.2.2.2.2.1.length ≤ 1000000) (hf : ¬ hdF w = 0) :
    ∃ sent2 : List SntT, sent2.length ≤ sent.length + 2 ∧ sayS_D m p s w sent = some (.inr ((zP, false, ()), s, (w.drop 1, ()), sent2, ())) := by
  obtain ⟨snt, h0, h1, h2, h⟩ := spkS_lost m p s w hc hl hf
  exact ⟨sent ++ snt, by simp only [List.length_append]; omega, sayS_inr m p s s w _ sent snt _ _ (by omega) h0 h1 (by rw [h2]; exact hf) h⟩
theorem sayS_mute (m : Nat) (p : Pkt) (s s' : (Bool × List (List Int) × Bool × Unit)) (w : List Int) (a : Pkt) (sent : List SntT) (hn : sent.length ≤ 900) (hc : pkChk_D m p = some (0, ())) (hl : p.2.2.2.2.2.2.2.2.2.1.length ≤ 1000000) (hf : hdF w = 0) (hH : sndH_D m p s = some ((a, false, ()), s', ())) :
    ∃ sent2 : List SntT, sent2.length ≤ sent.length + 2 ∧ sayS_D m p s w sent = some (.inl ((zP, false, ()), s', (w.drop 1, ()), sent2, ())) := by
  obtain ⟨snt, h0, h1, h2, h⟩ := spkS_mute m p s s' w a hc hl hf hH
  exact ⟨sent ++ snt, by simp only [List.length_append]; omega, sayS_inl m p s s' w _ sent snt _ _ (by omega) h0 h1 (by rw [h2]; exact hf) h⟩
theorem sayS_ans (m : Nat) (p : Pkt) (s s' : (Bool × List (List Int) × Bool × Unit)) (w : List Int) (a : Pkt) (sent : List SntT) (hn : sent.length ≤ 900) (hc : pkChk_D m p = some (0, ())) (hl : p.2.2.2.2.2.2.2.2.2.1.length ≤ 1000000) (hf : hdF w = 0) (hH : sndH_D m p s = some ((a, true, ()), s', ())) (hca : pkChk_D m a = some (0, ())) (hla : a.2.2.2.2.2.2.2.2.2.1.length ≤ 1000000) :
    ∃ sent2 : List SntT, sent2.length ≤ sent.length + 2 ∧ sayS_D m p s w sent = some (.inl (((bif decide (hdF (w.drop 1) = 0) then a else zP), decide (hdF (w.drop 1) = 0), ()), s', ((w.drop 1).drop 1, ()), sent2, ())) := by
  obtain ⟨snt, h0, h1, h2, h⟩ := spkS_ans m p s s' w a hc hl hf hH hca hla
  exact ⟨sent ++ snt, by simp only [List.length_append]; omega, sayS_inl m p s s' w _ sent snt _ _ (by omega) h0 h1 (by rw [h2]; exact hf) h⟩
theorem doS_in_lost (m : Nat) (ad ep : Int) (tog : Bool) (mx : Int) (s : (Bool × List (List Int) × Bool × Unit)) (w : List Int) (hk : tchk6_D m (ad, ep, 9, tog, false, mx, [], ()) = some (0, ())) (hc1 : pkChk_D m (pT 9 ad ep) = some (0, ())) (hf : ¬ hdF w = 0) :
    ∃ sent : List SntT, doS_D m (ad, ep, 9, tog, false, mx, [], ()) s w = some (((4, [], ()), sent, ()), s, (w.drop 1, ()), ()) := by
  obtain ⟨t1, n1, e1⟩ := sayS_lost m (pT 9 ad ep) s w [] (by simp) hc1 (by simp [pT]) hf
  refine ⟨t1, ?_⟩
  unfold pT at e1
  unfold doS_D
  simp only [hk, bnd_some, decide_true, Bool.not_true, cond_false, cond_true]
  unfold inS_D
  simp only [e1, bnd_some, sumK_r, Bool.not_false, cond_true]
  exact do_fin _ _ _ _
theorem doS_in_late (m : Nat) (ad ep : Int) (tog : Bool) (mx : Int) (s s1 : (Bool × List (List Int) × Bool × Unit)) (a1 : Pkt) (w : List Int) (hk : tchk6_D m (ad, ep, 9, tog, false, mx, [], ()) = some (0, ())) (hc1 : pkChk_D m (pT 9 ad ep) = some (0, ())) (hf : hdF w = 0) (hH1 : sndH_D m (pT 9 ad ep) s = some ((a1, true, ()), s1, ())) (hca : pkChk_D m a1 = some (0, ())) (hla : a1.2.2.2.2.2.2.2.2.2.1.length ≤ 1000000) (hf2 : ¬ hdF (w.drop 1) = 0) :
    ∃ sent : List SntT, doS_D m (ad, ep, 9, tog, false, mx, [], ()) s w = some (((4, [], ()), sent, ()), s1, ((w.drop 1).drop 1, ()), ()) := by
  obtain ⟨t1, n1, e1⟩ := sayS_ans m (pT 9 ad ep) s s1 w a1 [] (by simp) hc1 (by simp [pT]) hf hH1 hca hla
  refine ⟨t1, ?_⟩
  unfold pT at e1
  unfold doS_D
  simp only [dF hf2, cond_false] at e1
  simp only [hk, bnd_some, decide_true, Bool.not_true, cond_false, cond_true]
  unfold inS_D
  simp only [e1, bnd_some, sumK_l, Bool.not_false, cond_true]
  exact do_fin _ _ _ _
theorem doS_in_hand (m : Nat) (ad ep : Int) (tog : Bool) (mx : Int) (s s1 : (Bool × List (List Int) × Bool × Unit)) (q r : Int) (w : List Int) (hk : tchk6_D m (ad, ep, 9, tog, false, mx, [], ()) = some (0, ())) (hc1 : pkChk_D m (pT 9 ad ep) = some (0, ())) (hf : hdF w = 0) (hH1 : sndH_D m (pT 9 ad ep) s = some ((pD q [], true, ()), s1, ())) (hq : q = 2 ∨ q = 10 ∨ q = 14) (hr : hands6_D m q false = some (r, ())) (hf2 : hdF (w.drop 1) = 0) :
    ∃ sent : List SntT, doS_D m (ad, ep, 9, tog, false, mx, [], ()) s w = some (((r, [], ()), sent, ()), s1, ((w.drop 1).drop 1, ()), ()) := by
  obtain ⟨t1, n1, e1⟩ := sayS_ans m (pT 9 ad ep) s s1 w (pD q []) [] (by simp) hc1 (by simp [pT]) hf hH1 (chk_hand m q hq) (by simp [pD])
  refine ⟨t1, ?_⟩
  unfold pT at e1
  unfold pD at e1
  unfold doS_D
  simp only [dT hf2, cond_true] at e1
  simp only [hk, bnd_some, decide_true, Bool.not_true, cond_false, cond_true]
  unfold inS_D
  have q3 : ¬ q = 3 := by omega
  have q11 : ¬ q = 11 := by omega
  simp only [e1, bnd_some, sumK_l, Bool.not_true, cond_false, inS_J0, dF q3, dF q11, Bool.not_false, cond_true, hr]
  exact do_fin _ _ _ _
theorem doS_in_data (m : Nat) (ad ep : Int) (tog : Bool) (mx : Int) (s s1 s2 : (Bool × List (List Int) × Bool × Unit)) (a2 : Pkt) (q : Int) (b : List Int) (w : List Int) (hk : tchk6_D m (ad, ep, 9, tog, false, mx, [], ()) = some (0, ())) (hc1 : pkChk_D m (pT 9 ad ep) = some (0, ())) (hf : hdF w = 0) (hH1 : sndH_D m (pT 9 ad ep) s = some ((pD q b, true, ()), s1, ())) (hq : q = 3 ∨ q = 11) (hb : b.length ≤ 1024) (hmx : (b.length : Int) ≤ mx) (hf2 : hdF (w.drop 1) = 0) (hH2 : sndH_D m (pD 2 []) s1 = some ((a2, false, ()), s2, ())) :
    ∃ sent : List SntT, doS_D m (ad, ep, 9, tog, false, mx, [], ()) s w = some (((bif decide (decide (q = 11) = tog) then (1, b, ()) else (6, [], ())), sent, ()), (bif decide (hdF ((w.drop 1).drop 1) = 0) then s2 else s1), (((w.drop 1).drop 1).drop 1, ()), ()) := by
  obtain ⟨t1, n1, e1⟩ := sayS_ans m (pT 9 ad ep) s s1 w (pD q b) [] (by simp) hc1 (by simp [pT]) hf hH1 (chk_data m q hq b hb) (by simp [pD]; omega)
  have n1' : t1.length ≤ 2 := by simpa using n1
  have key : ∃ t2 : List SntT, t2.length ≤ 4 ∧ (sayS_D m (pD 2 []) s1 ((w.drop 1).drop 1) t1 = some (.inl ((zP, false, ()), s2, (((w.drop 1).drop 1).drop 1, ()), t2, ())) ∧ hdF ((w.drop 1).drop 1) = 0 ∨ sayS_D m (pD 2 []) s1 ((w.drop 1).drop 1) t1 = some (.inr ((zP, false, ()), s1, (((w.drop 1).drop 1).drop 1, ()), t2, ())) ∧ ¬ hdF ((w.drop 1).drop 1) = 0) := by
    by_cases hf3 : hdF ((w.drop 1).drop 1) = 0
    · obtain ⟨t2, n2, e2⟩ := sayS_mute m (pD 2 []) s1 s2 ((w.drop 1).drop 1) a2 t1 (by omega) (chk_hand m 2 (.inl rfl)) (by simp [pD]) hf3 hH2
      exact ⟨t2, by omega, .inl ⟨e2, hf3⟩⟩
    · obtain ⟨t2, n2, e2⟩ := sayS_lost m (pD 2 []) s1 ((w.drop 1).drop 1) t1 (by omega) (chk_hand m 2 (.inl rfl)) (by simp [pD]) hf3
      exact ⟨t2, by omega, .inr ⟨e2, hf3⟩⟩
  obtain ⟨t2, n2, e2⟩ := key
  refine ⟨t2, ?_⟩
  unfold pT pD at e1
  unfold pD at e2
  unfold doS_D
  simp only [dT hf2, cond_true] at e1
  simp only [hk, bnd_some, decide_true, Bool.not_true, cond_false, cond_true]
  unfold inS_D
  have hnm : ¬ mx < (b.length : Int) := by omega
  have hj : ∀ {R : Type} (k : Bool → Option R) a b' c d e, inS_J0 m a b' c d e (q, 0, 0, 0, 0, 0, false, false, 0, b, ()) k = k false := by
    intro R k a b' c d e
    unfold inS_J0
    rcases hq with rfl | rfl <;> rfl
  simp only [e1, bnd_some, sumK_l, Bool.not_true, cond_false, hj, dF hnm]
  rcases e2 with ⟨e2, hf3⟩ | ⟨e2, hf3⟩
  · simp only [e2, bnd_some, sumK_l, dT hf3, cond_true]
    cases hx : decide (decide (q = 11) = tog) <;> simp only [Bool.not_true, Bool.not_false, cond_true, cond_false, sumK_l] <;> exact do_fin _ _ _ _
  · simp only [e2, bnd_some, sumK_r, dF hf3, cond_false]
    cases hx : decide (decide (q = 11) = tog) <;> simp only [Bool.not_true, Bool.not_false, cond_true, cond_false, sumK_r] <;> exact do_fin _ _ _ _
end Go.Proofs.Ytjibodklckppfaa

