/-
  The statement TransactionsOut: the plain law.
  Conditions: none.
-/
import Derived.Test.YtjibodklckppfaaO6L
import Derived.Test.YtjibodklckppfaaDoPR
import Derived.Test.YtjibodklckppfaaOuA
namespace Go.Proofs.Ytjibodklckppfaa
set_option linter.unusedVariables false
set_option linter.unusedSimpArgs false
set_option maxRecDepth 100000
set_option maxHeartbeats 4000000

theorem tk_out (m : Nat) (tog : Bool) (b : List Int) (hb : b.length ≤ 1024) : tchk6_D m (0, 0, 1, tog, false, 0, b, ()) = some (0, ()) := by
  have h : ¬ 1024 < (b.length : Int) := by omega
  unfold tchk6_D tchk6_J0 tchk6_J1 tchk6_J2 tchk6_J3
  cases tog <;> simp [h]
theorem chk_t1 (m : Nat) : pkChk_D m (pT 1 0 0) = some (0, ()) := by kernel_rfl
theorem recv_tok (m : Nat) (t : Bool) (got : List (List Int)) (k : Bool) : recvH_D m (pT 1 0 0) (t, got, k, ()) = some ((zP, false, ()), (t, got, true, ()), ()) := by rfl
theorem recv_data (m : Nat) (t tog : Bool) (got : List (List Int)) (b : List Int) (hg : got.length ≤ 100) (hb : ∀ x ∈ got, x.length ≤ 100000) (hb2 : b.length ≤ 100000) (hm : 200 ≤ m) :
    recvH_D m (pD (bif tog then 11 else 3) b) (t, got, true, ()) = some ((pD 2 [], true, ()), (bif decide (tog = t) then (!t, got ++ [b], false, ()) else (t, got, false, ())), ()) := by
  obtain ⟨f, hf⟩ := tbeg_eq m t tog got b hg hb hb2 hm
  unfold recvH_D recvH_J0 pD
  cases tog
  · simp only [cond_false]
    have q1 : decide ((3 : Int) = 1) = false := by decide
    have q2 : decide ((3 : Int) = 11) = false := by decide
    simp only [q1, q2, decide_true, Bool.not_true, Bool.not_false, cond_true, cond_false, hf, bnd_some]
    cases decide (false = t) <;> rfl
  · simp only [cond_true]
    have q1 : decide ((11 : Int) = 1) = false := by decide
    have q2 : decide ((11 : Int) = 3) = false := by decide
    simp only [q1, q2, decide_true, Bool.not_true, Bool.not_false, cond_true, cond_false, hf, bnd_some]
    cases decide (true = t) <;> rfl
def par (n : Nat) : Bool := decide (n % 2 = 1)
theorem par_succ (n : Nat) : par (n + 1) = !par n := by
  unfold par
  by_cases h : n % 2 = 1
  · rw [dT h, dF (by omega : ¬ (n + 1) % 2 = 1)]; rfl
  · rw [dF h, dT (by omega : (n + 1) % 2 = 1)]; rfl
theorem hd_pos {w : List Int} (h : ¬ hdF w = 0) : 0 < w.length := by
  cases w with
  | nil => exact absurd rfl h
  | cons a w => simp
theorem out_do (m : Nat) (hm : 200 ≤ m) (l : List (List Int)) (hl : l.length ≤ 20) (hb : ∀ b ∈ l, b.length ≤ 64) (dn k : Nat) (hk : dn ≤ k ∧ k ≤ dn + 1) (hd : dn < l.length) (hkl : k ≤ l.length) (tok : Bool) (w : List Int) :
    ∃ (r : Int) (k2 : Nat) (tok2 : Bool) (w2 : List Int) (sent : List SntT), doR_D m (0, 0, 1, par dn, false, 0, l.getD dn [], ()) (par k, l.take k, tok, ()) w = some (((r, [], ()), sent, ()), (par k2, l.take k2, tok2, ()), (w2, ()), ()) ∧ k2 ≤ l.length ∧ w2.length ≤ w.length ∧
      ((r = 1 ∧ k2 = dn + 1) ∨ (r = 4 ∧ (k2 = k ∨ k2 = dn + 1) ∧ w2.length < w.length)) := by
  have hx := hb _ (getD_mem (d := []) hd)
  have hgl : (l.take k).length ≤ 100 := by simp; omega
  have hgb : ∀ x ∈ l.take k, x.length ≤ 100000 := fun x hx => by have := hb x (List.mem_of_mem_take hx); omega
  have hd1 : (w.drop 1).length = w.length - 1 := by simp
  have hd2 : ((w.drop 1).drop 1).length = w.length - 2 := by simp only [List.length_drop]; omega
  have hd3 : (((w.drop 1).drop 1).drop 1).length = w.length - 3 := by simp only [List.length_drop]; omega
  by_cases f1 : hdF w = 0
  · by_cases f2 : hdF (w.drop 1) = 0
    · obtain ⟨snt, h⟩ := doR_out_hand m 0 0 1 (par dn) (l.getD dn []) (par k, l.take k, tok, ()) (par k, l.take k, true, ()) _ zP 2 1 w (tk_out m _ _ (by omega)) (by decide) (chk_t1 m) (by omega) f1 (recv_tok m _ _ _) f2 (recv_data m (par k) (par dn) (l.take k) (l.getD dn []) hgl hgb (by omega) hm) (.inl rfl) (hands_ack m)
      have hs : (bif decide (par dn = par k) then (!par k, l.take k ++ [l.getD dn []], false, ()) else (par k, l.take k, false, ())) = (par (dn + 1), l.take (dn + 1), false, ()) := by
        by_cases hkd : k = dn
        · subst hkd
          rw [dT rfl, par_succ, List.take_succ_eq_append_getElem hd, getD_lt hd]; rfl
        · have : k = dn + 1 := by omega
          subst this
          rw [dF (by rw [par_succ]; cases par dn <;> simp)]; rfl
      rw [hs] at h
      by_cases f3 : hdF ((w.drop 1).drop 1) = 0
      · rw [dT f3] at h
        exact ⟨1, dn + 1, false, _, snt, h, by omega, by omega, .inl ⟨rfl, rfl⟩⟩
      · have := hd_pos f3
        rw [dF f3] at h
        exact ⟨4, dn + 1, false, _, snt, h, by omega, by omega, .inr ⟨rfl, .inr rfl, by omega⟩⟩
    · have := hd_pos f2
      obtain ⟨snt, h⟩ := doR_out_data m 0 0 1 (par dn) (l.getD dn []) (par k, l.take k, tok, ()) (par k, l.take k, true, ()) zP w (tk_out m _ _ (by omega)) (by decide) (chk_t1 m) (by omega) f1 (recv_tok m _ _ _) f2
      exact ⟨4, k, true, _, snt, h, by omega, by omega, .inr ⟨rfl, .inl rfl, by omega⟩⟩
  · have := hd_pos f1
    obtain ⟨snt, h⟩ := doR_out_lost m 0 0 1 (par dn) (l.getD dn []) (par k, l.take k, tok, ()) w (tk_out m _ _ (by omega)) (by decide) (chk_t1 m) (by omega) f1
    exact ⟨4, k, tok, _, snt, h, by omega, by omega, .inr ⟨rfl, .inl rfl, by omega⟩⟩
theorem out_L0 (m : Nat) (hm : 200 ≤ m) (l : List (List Int)) (x1 : List Int) (hl : l.length ≤ 20) (hx1 : x1.length ≤ 120) (hb : ∀ b ∈ l, b.length ≤ 64) : ∀ (f i dn k : Nat) (tok : Bool) (w : List Int), dn ≤ k ∧ k ≤ dn + 1 → k ≤ l.length → w.length ≤ x1.length → i + w.length ≤ dn + x1.length → l.length + x1.length + 1 - i ≤ f → 0 < f →
    ∃ t2 t3 tok2, ∃ g : List (List Int), g.length = l.length ∧ outLaw_L0 m f l x1 (i : Int) (par dn, l.drop dn, ()) (par k, l.take k, tok, ()) w = some (.inl ((l, ()), ((t2, [], ()), ((t3, g, tok2, ()), ())))) := by
  intro f
  induction f with
  | zero => intro i dn k tok w h1 h2 h3 h4 h5 h6; omega
  | succ f ih =>
    intro i dn k tok w h1 h2 h3 h4 h5 _
    have ew : Go.IntKind.wrap .i64 ((l.length : Int) + (x1.length : Int)) = ((l.length + x1.length : Nat) : Int) := by rw [wi64 (by omega) (by omega)]; omega
    rw [outLaw_L0, ew]
    by_cases hi : i < l.length + x1.length
    · rw [dT (by omega : (i : Int) < ((l.length + x1.length : Nat) : Int))]
      simp only [cond_true]
      unfold outLaw_J2
      by_cases hd : dn < l.length
      · have hx := hb _ (getD_mem (d := []) hd)
        have hdr : l.drop dn = l.getD dn [] :: l.drop (dn + 1) := drop_cons hd
        have hoff : toff_D m (par dn, l.drop dn, ()) = some ((l.getD dn [], par dn, true, ()), ()) := by rw [hdr]; exact toff_some m _ _ _ (by omega) (by omega)
        have hack : tack_D m (par dn, l.drop dn, ()) = some (((par (dn + 1), l.drop (dn + 1), ()), 0, ()), ()) := by
          rw [hdr, par_succ]
          exact tack_eq m _ _ _ (by simp; omega) (fun x hx => by have := hb x (List.mem_of_mem_drop hx); omega) (by simp; omega)
        obtain ⟨r, k2, tok2, w2, sent, e1, e2, e3, e4⟩ := out_do m hm l hl hb dn k h1 hd h2 tok w
        have hj : ∀ {R : Type} (d : Nat) (S : Bool × (List (List Int)) × Unit) (V : Bool × (List (List Int)) × Bool × Unit) (q : List Int) (j : Bool → Option R), d ≤ k2 → k2 ≤ d + 1 → d ≤ 20 → outLaw_J1 m l x1 (i : Int) (d : Int) (k2 : Int) S V q j = j false := by
          intro R d S V q j g1 g2 g3
          unfold outLaw_J1
          rw [dF (by omega : ¬ (k2 : Int) < (d : Int)), wS d (by omega), dF (by omega : ¬ ((d + 1 : Nat) : Int) < (k2 : Int))]
          rfl
        have el : ∀ d : Nat, d ≤ l.length → Go.IntKind.wrap .i64 ((l.length : Int) - ((l.drop d).length : Int)) = (d : Int) := by
          intro d hd; rw [List.length_drop, wi64 (by omega) (by omega)]; omega
        simp only [hoff, bnd_some, Bool.not_true, cond_false, e1]
        rcases e4 with ⟨rfl, rfl⟩ | ⟨rfl, hk2, hw⟩
        · simp only [decide_true, cond_true, hack, bnd_some, lists6_eq m l (dn + 1) e2 (by omega) (by omega), el (dn + 1) (by omega)]
          rw [hj (dn + 1) _ _ _ _ (by omega) (by omega) (by omega)]
          simp only [cond_false]
          rw [wS i (by omega)]
          exact ih (i + 1) (dn + 1) (dn + 1) tok2 w2 ⟨by omega, by omega⟩ e2 (by omega) (by omega) (by omega) (by omega)
        · have h41 : decide ((4 : Int) = 1) = false := by decide
          have h44 : decide ((4 : Int) = 4) = true := by decide
          simp only [h41, h44, Bool.not_true, cond_false, bnd_some, lists6_eq m l k2 e2 (by omega) (by omega), el dn (by omega)]
          rw [hj dn _ _ _ _ (by omega) (by omega) (by omega)]
          simp only [cond_false]
          rw [wS i (by omega)]
          exact ih (i + 1) dn k2 tok2 w2 ⟨by omega, by omega⟩ e2 (by omega) (by omega) (by omega) (by omega)
      · have hdl : dn = l.length := by omega
        have hdr : l.drop dn = [] := by rw [hdl]; simp
        rw [hdr]
        simp only [toff_none, bnd_some, Bool.not_false, cond_true]
        exact ⟨_, _, _, _, by simp; omega, rfl⟩
    · have hdl : dn = l.length := by omega
      have hdr : l.drop dn = [] := by rw [hdl]; simp
      rw [dF (by omega : ¬ (i : Int) < ((l.length + x1.length : Nat) : Int)), hdr]
      exact ⟨_, _, _, _, by simp; omega, rfl⟩
theorem outLaw_true (l : List (List Int)) (x1 : List Int) : outLaw_D 400 l x1 = some (true, ()) := by
  unfold outLaw_D outLaw_J0
  rcases few6_eq 400 l (by omega) with h | ⟨h, hl, hb⟩
  · rw [h]; rfl
  rw [h]
  simp only [bnd_some, Bool.not_true, cond_false]
  by_cases hx : 120 < (x1.length : Int)
  · rw [dT hx]; rfl
  rw [dF hx]
  simp only [cond_false]
  obtain ⟨w, hw, hwire⟩ := wire6_eq 400 x1 (by omega) (by omega)
  rw [tnew_eq 400 l (by omega) (by omega) (fun b h => by have := hb b h; omega)]
  simp only [bnd_some, decide_true, Bool.not_true, cond_false, hwire]
  obtain ⟨t2, t3, tok2, g, hg, e⟩ := out_L0 400 (by omega) l x1 hl (by omega) hb 400 0 0 0 false w ⟨by omega, by omega⟩ (by omega) (by omega) (by omega) (by omega) (by omega)
  have e' : outLaw_L0 400 400 l x1 0 (false, l, ()) (false, [], false, ()) w = some (.inl ((l, ()), ((t2, [], ()), ((t3, g, tok2, ()), ())))) := by simpa [par] using e
  rw [e']
  simp only [bnd_some, sumK_l]
  unfold outLaw_J3
  simp only [List.length_nil, hg]
  rfl
end Go.Proofs.Ytjibodklckppfaa

