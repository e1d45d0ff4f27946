/-
  The statement TransactionsIn: the plain law.
  Conditions: none.
-/
import Derived.Test.YtjibodklckppfaaO6M
import Derived.Test.YtjibodklckppfaaDoPS
import Derived.Test.YtjibodklckppfaaOuA
namespace Go.Proofs.Ytjibodklckppfaa
set_option linter.unusedVariables false
set_option linter.unusedSimpArgs false
set_option maxRecDepth 100000
set_option maxHeartbeats 4000000

theorem tk_in (m : Nat) (tog : Bool) : tchk6_D m (0, 0, 9, tog, false, 64, [], ()) = some (0, ()) := by
  cases tog <;> kernel_rfl
theorem chk_t9 (m : Nat) : pkChk_D m (pT 9 0 0) = some (0, ()) := by kernel_rfl
def par (n : Nat) : Bool := decide (n % 2 = 1)
theorem par_succ (n : Nat) : par (n + 1) = !par n := by
  unfold par
  by_cases h : n % 2 = 1
  · rw [dT h, dF (by omega : ¬ (n + 1) % 2 = 1)]; rfl
  · rw [dF h, dT (by omega : (n + 1) % 2 = 1)]; rfl
theorem hd_pos {w : List Int} (h : ¬ hdF w = 0) : 0 < w.length := by
  cases w with
  | nil => exact absurd rfl h
  | cons a w => simp
theorem snd_in_nil (m : Nat) (t sn : Bool) : sndH_D m (pT 9 0 0) (t, [], sn, ()) = some ((pD 10 [], true, ()), (t, [], false, ()), ()) := by rfl
theorem snd_in (m : Nat) (t sn : Bool) (b : List Int) (r : List (List Int)) (hb : b.length ≤ 100000) (hm : 2 ≤ m) : sndH_D m (pT 9 0 0) (t, b :: r, sn, ()) = some ((pD (bif t then 11 else 3) b, true, ()), (t, b :: r, true, ()), ()) := by
  unfold sndH_D sndH_J0 sndH_J1 pT
  have q1 : decide ((9 : Int) = 2) = false := by decide
  have q2 : decide ((9 : Int) = 9) = true := by decide
  simp only [q1, q2, cond_false, toff_some m t b r hb hm, bnd_some, Bool.not_true]
  cases t <;> rfl
theorem snd_ack (m : Nat) (t : Bool) (b : List Int) (r : List (List Int)) (hr : r.length ≤ 1000) (hb : ∀ x ∈ r, x.length ≤ 100000) (hm : r.length < m) (hm2 : 2 ≤ m) : sndH_D m (pD 2 []) (t, b :: r, true, ()) = some ((pD 10 [], false, ()), (!t, r, false, ()), ()) := by
  unfold sndH_D sndH_J0 sndH_J1 pD
  have q2 : decide ((2 : Int) = 9) = false := by decide
  simp only [decide_true, q2, cond_true, tack_eq m t b r hr hb hm, bnd_some, Bool.not_false]
  cases r with
  | nil => simp only [toff_none, bnd_some, cond_true, decide_true]
  | cons c r => simp only [toff_some m (!t) c r (hb c (by simp)) hm2, bnd_some, cond_true, decide_true]
theorem in_do (m : Nat) (hm : 200 ≤ m) (l : List (List Int)) (hl : l.length ≤ 20) (hb : ∀ b ∈ l, b.length ≤ 64) (dn k : Nat) (hk : dn ≤ k ∧ k ≤ dn + 1) (hd : dn < l.length) (sn : Bool) (w : List Int) :
    ∃ (r : Int) (b : List Int) (dn2 : Nat) (sn2 : Bool) (w2 : List Int) (sent : List SntT), doS_D m (0, 0, 9, par k, false, 64, [], ()) (par dn, l.drop dn, sn, ()) w = some (((r, b, ()), sent, ()), (par dn2, l.drop dn2, sn2, ()), (w2, ()), ()) ∧ w2.length ≤ w.length ∧ (dn2 = dn ∧ w2.length < w.length ∨ dn2 = dn + 1) ∧
      ((r = 1 ∧ b = l.getD dn [] ∧ k = dn) ∨ ((r = 4 ∧ dn2 = dn ∨ r = 6 ∧ k = dn + 1))) := by
  have hx := hb _ (getD_mem (d := []) hd)
  have hdr : l.drop dn = l.getD dn [] :: l.drop (dn + 1) := drop_cons hd
  have hd1 : (w.drop 1).length = w.length - 1 := by simp
  have hd2 : ((w.drop 1).drop 1).length = w.length - 2 := by simp only [List.length_drop]; omega
  have hd3 : (((w.drop 1).drop 1).drop 1).length = w.length - 3 := by simp only [List.length_drop]; omega
  have hH1 : sndH_D m (pT 9 0 0) (par dn, l.drop dn, sn, ()) = some ((pD (bif par dn then 11 else 3) (l.getD dn []), true, ()), (par dn, l.drop dn, true, ()), ()) := by
    rw [hdr]; exact snd_in m _ _ _ _ (by omega) (by omega)
  have hH2 : sndH_D m (pD 2 []) (par dn, l.drop dn, true, ()) = some ((pD 10 [], false, ()), (par (dn + 1), l.drop (dn + 1), false, ()), ()) := by
    rw [hdr, par_succ]; exact snd_ack m _ _ _ (by simp; omega) (fun x hx => by have := hb x (List.mem_of_mem_drop hx); omega) (by simp; omega) (by omega)
  by_cases f1 : hdF w = 0
  · by_cases f2 : hdF (w.drop 1) = 0
    · obtain ⟨snt, h⟩ := doS_in_data m 0 0 (par k) 64 (par dn, l.drop dn, sn, ()) _ _ _ (bif par dn then 11 else 3) (l.getD dn []) w (tk_in m _) (chk_t9 m) f1 hH1 (by cases par dn <;> simp) (by omega) (by omega) f2 hH2
      have ht : decide (decide ((bif par dn then (11 : Int) else 3) = 11) = par k) = decide (par dn = par k) := by cases par dn <;> rfl
      rw [ht] at h
      have hres : (k = dn ∧ (bif decide (par dn = par k) then ((1 : Int), l.getD dn [], ()) else (6, [], ())) = (1, l.getD dn [], ())) ∨ (k = dn + 1 ∧ (bif decide (par dn = par k) then ((1 : Int), l.getD dn [], ()) else (6, [], ())) = (6, [], ())) := by
        by_cases hkd : k = dn
        · subst hkd; exact .inl ⟨rfl, by rw [dT rfl]; rfl⟩
        · have : k = dn + 1 := by omega
          subst this
          exact .inr ⟨rfl, by rw [dF (by rw [par_succ]; cases par dn <;> simp)]; rfl⟩
      by_cases f3 : hdF ((w.drop 1).drop 1) = 0
      · rw [dT f3] at h
        rcases hres with ⟨h1, h2⟩ | ⟨h1, h2⟩
        · rw [h2] at h; exact ⟨1, _, dn + 1, false, _, snt, h, by omega, .inr rfl, .inl ⟨rfl, rfl, h1⟩⟩
        · rw [h2] at h; exact ⟨6, _, dn + 1, false, _, snt, h, by omega, .inr rfl, .inr (.inr ⟨rfl, h1⟩)⟩
      · have := hd_pos f3
        rw [dF f3] at h
        rcases hres with ⟨h1, h2⟩ | ⟨h1, h2⟩
        · rw [h2] at h; exact ⟨1, _, dn, true, _, snt, h, by omega, .inl ⟨rfl, by omega⟩, .inl ⟨rfl, rfl, h1⟩⟩
        · rw [h2] at h; exact ⟨6, _, dn, true, _, snt, h, by omega, .inl ⟨rfl, by omega⟩, .inr (.inr ⟨rfl, h1⟩)⟩
    · have := hd_pos f2
      obtain ⟨snt, h⟩ := doS_in_late m 0 0 (par k) 64 (par dn, l.drop dn, sn, ()) _ _ w (tk_in m _) (chk_t9 m) f1 hH1 (chk_data m _ (by cases par dn <;> simp) _ (by omega)) (by simp only [pD]; omega) f2
      exact ⟨4, [], dn, true, _, snt, h, by omega, .inl ⟨rfl, by omega⟩, .inr (.inl ⟨rfl, rfl⟩)⟩
  · have := hd_pos f1
    obtain ⟨snt, h⟩ := doS_in_lost m 0 0 (par k) 64 (par dn, l.drop dn, sn, ()) w (tk_in m _) (chk_t9 m) f1
    exact ⟨4, [], dn, sn, _, snt, h, by omega, .inl ⟨rfl, by omega⟩, .inr (.inl ⟨rfl, rfl⟩)⟩
theorem in_do_nil (m : Nat) (tog t sn : Bool) (w : List Int) :
    ∃ (r : Int) (sn2 : Bool) (w2 : List Int) (sent : List SntT), doS_D m (0, 0, 9, tog, false, 64, [], ()) (t, [], sn, ()) w = some (((r, [], ()), sent, ()), (t, [], sn2, ()), (w2, ()), ()) ∧ w2.length ≤ w.length ∧ (r = 2 ∨ r = 4) := by
  by_cases f1 : hdF w = 0
  · by_cases f2 : hdF (w.drop 1) = 0
    · obtain ⟨snt, h⟩ := doS_in_hand m 0 0 tog 64 (t, [], sn, ()) _ 10 2 w (tk_in m _) (chk_t9 m) f1 (snd_in_nil m t sn) (.inr (.inl rfl)) (hands_nak m _) f2
      exact ⟨2, _, _, snt, h, by simp only [List.length_drop]; omega, .inl rfl⟩
    · obtain ⟨snt, h⟩ := doS_in_late m 0 0 tog 64 (t, [], sn, ()) _ _ w (tk_in m _) (chk_t9 m) f1 (snd_in_nil m t sn) (chk_hand m 10 (.inr (.inl rfl))) (by simp [pD]) f2
      exact ⟨4, _, _, snt, h, by simp only [List.length_drop]; omega, .inr rfl⟩
  · obtain ⟨snt, h⟩ := doS_in_lost m 0 0 tog 64 (t, [], sn, ()) w (tk_in m _) (chk_t9 m) f1
    exact ⟨4, _, _, snt, h, by simp only [List.length_drop]; omega, .inr rfl⟩
theorem in_L0 (m : Nat) (hm : 200 ≤ m) (l : List (List Int)) (x1 : List Int) (hl : l.length ≤ 20) (hx1 : x1.length ≤ 120) (hb : ∀ b ∈ l, b.length ≤ 64) : ∀ (f i dn k : Nat) (sn : Bool) (w : List Int), dn ≤ k ∧ k ≤ dn + 1 → k ≤ l.length → w.length ≤ x1.length → (dn < l.length → i + w.length ≤ dn + x1.length) → l.length + x1.length + 2 - i ≤ f → 0 < f →
    ∃ t2 sn2, ∃ g : List (List Int), g.length = l.length ∧ inLaw_L0 m f l x1 (par k) (i : Int) (par dn, l.drop dn, sn, ()) w (l.take k) = some (.inr ((l, ()), ((t2, [], sn2, ()), (g, ())))) := by
  intro f
  induction f with
  | zero => intro i dn k sn w h1 h2 h3 h4 h5 h6; omega
  | succ f ih =>
    intro i dn k sn w h1 h2 h3 h4 h5 _
    have ew : Go.IntKind.wrap .i64 (Go.IntKind.wrap .i64 ((l.length : Int) + (x1.length : Int)) + 1) = ((l.length + x1.length + 1 : Nat) : Int) := by
      have e1 : Go.IntKind.wrap .i64 ((l.length : Int) + (x1.length : Int)) = ((l.length + x1.length : Nat) : Int) := by rw [wi64 (by omega) (by omega)]; omega
      rw [e1, wS _ (by omega)]
    have hlk : (l.take k).length = k := by simp; omega
    have el : ∀ d : Nat, d ≤ l.length → Go.IntKind.wrap .i64 ((l.length : Int) - ((l.drop d).length : Int)) = (d : Int) := by
      intro d hd; rw [List.length_drop, wi64 (by omega) (by omega)]; omega
    have hj : ∀ {R : Type} (d k : Nat) (T : Bool) (V : Bool × (List (List Int)) × Bool × Unit) (q : List Int) (G : List (List Int)) (j : Bool → Option R), d ≤ k → k ≤ d + 1 → d ≤ 20 → inLaw_J1 m l x1 T (i : Int) (d : Int) (k : Int) V q G j = j false := by
      intro R d k T V q G j g1 g2 g3
      unfold inLaw_J1
      rw [dF (by omega : ¬ (k : Int) < (d : Int)), wS d (by omega), dF (by omega : ¬ ((d + 1 : Nat) : Int) < (k : Int))]
      rfl
    rw [inLaw_L0, ew]
    by_cases hi : i < l.length + x1.length + 1
    · rw [dT (by omega : (i : Int) < ((l.length + x1.length + 1 : Nat) : Int))]
      simp only [cond_true]
      unfold inLaw_J3
      have h31 : decide ((1 : Int) = 1) = true := by decide
      have h41 : decide ((4 : Int) = 1) = false := by decide
      have h42 : decide ((4 : Int) = 2) = false := by decide
      have h43 : decide ((4 : Int) = 3) = false := by decide
      have h45 : decide ((4 : Int) = 5) = false := by decide
      have h61 : decide ((6 : Int) = 1) = false := by decide
      have h62 : decide ((6 : Int) = 2) = false := by decide
      have h63 : decide ((6 : Int) = 3) = false := by decide
      have h65 : decide ((6 : Int) = 5) = false := by decide
      have h21 : decide ((2 : Int) = 1) = false := by decide
      have h22 : decide ((2 : Int) = 2) = true := by decide
      have h23 : decide ((2 : Int) = 3) = false := by decide
      have h25 : decide ((2 : Int) = 5) = false := by decide
      by_cases hd : dn < l.length
      · have h4' := h4 hd
        obtain ⟨r, b, dn2, sn2, w2, sent, e1, e2, e3, e4⟩ := in_do m hm l hl hb dn k h1 hd sn w
        rw [e1]
        simp only [bnd_some]
        rcases e4 with ⟨rfl, rfl, hkd⟩ | hr
        · subst hkd
          have eg : l.take k ++ [l.getD k []] = l.take (k + 1) := by rw [List.take_succ_eq_append_getElem hd, getD_lt hd]
          have hg : growOb 24 ((l.take k).length + [l.getD k []].length) = true := gr24 _ (by simp; omega)
          rw [hg, eg]
          simp only [h31, cond_true, lists6_eq m l (k + 1) (by omega) (by omega) (by omega), bnd_some, el dn2 (by omega)]
          rw [hj dn2 (k + 1) _ _ _ _ _ (by omega) (by omega) (by omega)]
          simp only [cond_false]
          rw [wS i (by omega), ← par_succ]
          exact ih (i + 1) dn2 (k + 1) sn2 w2 ⟨by omega, by omega⟩ (by omega) (by omega) (fun _ => by omega) (by omega) (by omega)
        · have hr46 : (r = 4 ∨ r = 6) := by rcases hr with ⟨h, _⟩ | ⟨h, _⟩ <;> simp [h]
          have hk2 : dn2 ≤ k ∧ k ≤ dn2 + 1 := by rcases hr with ⟨_, h⟩ | ⟨_, h⟩ <;> omega
          have hj2 : ∀ {R : Type} (o : Int × List Int × Unit) V q G (k0 k1 : Bool → Option R), o.1 = r → inLaw_J2 m l x1 (par k) (i : Int) o V q G k0 k1 = k1 false := by
            intro R o V q G k0 k1 ho
            unfold inLaw_J2
            rw [ho]
            rcases hr46 with rfl | rfl
            · simp only [h42, h43, h45, cond_false]
            · simp only [h62, h63, h65, cond_false]
          have hr1 : decide (r = 1) = false := by rcases hr46 with rfl | rfl <;> decide
          rw [hr1]
          simp only [cond_false]
          rw [hj2 _ _ _ _ _ _ rfl]
          simp only [cond_false, lists6_eq m l k (by omega) (by omega) (by omega), bnd_some, el dn2 (by omega)]
          rw [hj dn2 k _ _ _ _ _ (by omega) (by omega) (by omega)]
          simp only [cond_false]
          rw [wS i (by omega)]
          exact ih (i + 1) dn2 k sn2 w2 hk2 (by omega) (by omega) (fun _ => by omega) (by omega) (by omega)
      · have hdl : dn = l.length := by omega
        have hkl : k = l.length := by omega
        have hdr : l.drop dn = [] := by rw [hdl]; simp
        rw [hdr]
        obtain ⟨r, sn2, w2, sent, e1, e2, e3⟩ := in_do_nil m (par k) (par dn) sn w
        rw [e1]
        simp only [bnd_some]
        have el0 : Go.IntKind.wrap .i64 ((l.length : Int) - ((([] : List (List Int)).length : Nat) : Int)) = (dn : Int) := by simp only [List.length_nil]; rw [wi64 (by omega) (by omega)]; omega
        rcases e3 with rfl | rfl
        · simp only [h21, cond_false]
          have hj2 : ∀ {R : Type} V0 s0 q G (k0 k1 : Bool → Option R), inLaw_J2 m l x1 (par k) (i : Int) (2, [], ()) (V0, [], s0, ()) q G k0 k1 = k0 false := by
            intro R V0 s0 q G k0 k1
            unfold inLaw_J2
            simp only [h22, h23, h25, cond_true, cond_false, List.length_nil]
            rfl
          rw [hj2]
          simp only [cond_false, lists6_eq m l k (by omega) (by omega) (by omega), bnd_some]
          rw [el0, hj dn k _ _ _ _ _ (by omega) (by omega) (by omega)]
          simp only [cond_false]
          rw [wS i (by omega)]
          have hih := ih (i + 1) dn k sn2 w2 h1 h2 (by omega) (fun h => absurd h hd) (by omega) (by omega)
          rw [hdr] at hih
          exact hih
        · simp only [h41, cond_false]
          have hj2 : ∀ {R : Type} V q G (k0 k1 : Bool → Option R), inLaw_J2 m l x1 (par k) (i : Int) (4, [], ()) V q G k0 k1 = k1 false := by
            intro R V q G k0 k1
            unfold inLaw_J2
            simp only [h42, h43, h45, cond_false]
          rw [hj2]
          simp only [cond_false, lists6_eq m l k (by omega) (by omega) (by omega), bnd_some]
          rw [el0, hj dn k _ _ _ _ _ (by omega) (by omega) (by omega)]
          simp only [cond_false]
          rw [wS i (by omega)]
          have hih := ih (i + 1) dn k sn2 w2 h1 h2 (by omega) (fun h => absurd h hd) (by omega) (by omega)
          rw [hdr] at hih
          exact hih
    · have hdl : ¬ dn < l.length := fun h => by have := h4 h; omega
      have hdr : l.drop dn = [] := by rw [show dn = l.length by omega]; simp
      rw [dF (by omega : ¬ (i : Int) < ((l.length + x1.length + 1 : Nat) : Int)), hdr]
      exact ⟨_, _, l.take k, by rw [hlk]; omega, rfl⟩
theorem inLaw_true (l : List (List Int)) (x1 : List Int) : inLaw_D 400 l x1 = some (true, ()) := by
  unfold inLaw_D inLaw_J0
  rcases few6_eq 400 l (by omega) with h | ⟨h, hl, hb⟩
  · rw [h]; rfl
  rw [h]
  simp only [bnd_some, Bool.not_true, cond_false]
  by_cases hx : 120 < (x1.length : Int)
  · rw [dT hx]; rfl
  rw [dF hx]
  simp only [cond_false]
  obtain ⟨w, hw, hwire⟩ := wire6_eq 400 x1 (by omega) (by omega)
  rw [tnew_eq 400 l (by omega) (by omega) (fun b h => by have := hb b h; omega)]
  simp only [bnd_some, decide_true, Bool.not_true, cond_false, hwire]
  obtain ⟨t2, sn2, g, hg, e⟩ := in_L0 400 (by omega) l x1 hl (by omega) hb 400 0 0 0 false w ⟨by omega, by omega⟩ (by omega) (by omega) (fun _ => by omega) (by omega) (by omega)
  have e' : inLaw_L0 400 400 l x1 false 0 (false, l, false, ()) w [] = some (.inr ((l, ()), ((t2, [], sn2, ()), (g, ())))) := by simpa [par] using e
  rw [e']
  simp only [bnd_some, sumK_r]
  unfold inLaw_J4
  simp only [List.length_nil, hg]
  rfl
end Go.Proofs.Ytjibodklckppfaa

