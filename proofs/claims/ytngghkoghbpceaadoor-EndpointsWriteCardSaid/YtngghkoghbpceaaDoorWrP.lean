/-
  The statement EndpointsWrite: the plain law.
  Conditions: none.
-/
import Derived.Test.YtngghkoghbpceaaDoorE7L
import Derived.Test.YtngghkoghbpceaaDoorDoSW
namespace Go.Proofs.YtngghkoghbpceaaDoor
set_option linter.unusedVariables false
set_option linter.unusedSimpArgs false
set_option maxRecDepth 100000
set_option maxHeartbeats 4000000

theorem few7_L0_eq (m : Nat) (l : List (List Int)) (hl : l.length ≤ 20) : ∀ (f i : Nat), i ≤ l.length → l.length - i < f → (few7_L0 m f l (i : Int) = some (.inl ((false, ()), ())) ∨ (few7_L0 m f l (i : Int) = some (.inr ((), ())) ∧ ∀ j, i ≤ j → j < l.length → (l.getD j []).length ≤ 8)) := by
  intro f
  induction f with
  | zero => intro i h1 h2; omega
  | succ f ih =>
    intro i h1 h2
    rw [few7_L0]
    by_cases h : i < l.length
    · rw [dT (by omega : (i : Int) < (l.length : Nat)), inT (by omega) (by omega : (i : Int) < (l.length : Nat)), toNatC, wS i (by omega)]
      simp only [cond_true]
      by_cases hx : 8 < ((l.getD i []).length : Int)
      · rw [dT hx]; exact .inl rfl
      · rw [dF hx]
        simp only [cond_false]
        rcases ih (i + 1) (by omega) (by omega) with h3 | ⟨h3, h4⟩
        · exact .inl h3
        · refine .inr ⟨h3, fun j hj1 hj2 => ?_⟩
          by_cases hij : j = i
          · subst hij; omega
          · exact h4 j (by omega) hj2
    · rw [dF (by omega : ¬ (i : Int) < (l.length : Nat))]
      exact .inr ⟨rfl, fun j hj1 hj2 => by omega⟩
theorem few7_eq (m : Nat) (l : List (List Int)) (hm : 21 ≤ m) : few7_D m l = some (false, ()) ∨ (few7_D m l = some (true, ()) ∧ l.length ≤ 20 ∧ ∀ b ∈ l, b.length ≤ 8) := by
  unfold few7_D
  by_cases h : 20 < (l.length : Int)
  · rw [dT h]; exact .inl rfl
  · rw [dF h]
    rcases few7_L0_eq m l (by omega) m 0 (by omega) (by omega) with h3 | ⟨h3, h4⟩
    · rw [show ((0 : Nat) : Int) = 0 from rfl] at h3; rw [h3]; exact .inl rfl
    · rw [show ((0 : Nat) : Int) = 0 from rfl] at h3; rw [h3]
      refine .inr ⟨rfl, by omega, fun b hb => ?_⟩
      obtain ⟨j, hj, rfl⟩ := List.mem_iff_getElem.1 hb
      have := h4 j (by omega) hj
      rwa [getD_lt hj] at this
theorem lists7_L0_eq (m : Nat) (a : List (List Int)) (hl : a.length ≤ 1000) : ∀ (f i : Nat), i ≤ a.length → a.length - i < f → lists7_L0 m f a a (i : Int) = some (.inr ((), ())) := by
  intro f
  induction f with
  | zero => intro i h1 h2; omega
  | succ f ih =>
    intro i h1 h2
    rw [lists7_L0]
    by_cases h : i < a.length
    · rw [dT (by omega : (i : Int) < (a.length : Nat)), inT (by omega) (by omega : (i : Int) < (a.length : Nat)), wS i (by omega), dT rfl]
      exact ih (i + 1) (by omega) (by omega)
    · rw [dF (by omega : ¬ (i : Int) < (a.length : Nat))]; rfl
theorem lists7_self (m : Nat) (a : List (List Int)) (hl : a.length ≤ 1000) (hm : a.length < m) : lists7_D m a a = some (0, ()) := by
  unfold lists7_D
  have := lists7_L0_eq m a hl m 0 (by omega) (by omega)
  rw [show ((0 : Nat) : Int) = 0 from rfl] at this
  rw [dT rfl, this]
  rfl
theorem faults6_L0_eq (m : Nat) (x : List Int) (hx : x.length ≤ 1000) : ∀ (f i : Nat) (acc : List Int), i ≤ x.length → acc.length = i → x.length - i < f → ∃ w : List Int, w.length = x.length ∧ faults6_L0 m f x (i : Int) acc = some ((), (w, ())) := by
  intro f
  induction f with
  | zero => intro i acc h1 h2 h3; omega
  | succ f ih =>
    intro i acc h1 h2 h3
    rw [faults6_L0]
    by_cases h : i < x.length
    · rw [dT (by omega : (i : Int) < (x.length : Nat)), inT (by omega) (by omega : (i : Int) < (x.length : Nat)), gr1 _ (by simp; omega), wS i (by omega)]
      exact ih (i + 1) _ (by omega) (by simp; omega) (by omega)
    · rw [dF (by omega : ¬ (i : Int) < (x.length : Nat))]
      exact ⟨acc, by omega, rfl⟩
theorem cloneF_eq (m : Nat) (xs : List Int) (h : xs.length ≤ 1000000) : cloneF_D m xs = some ((), xs, ()) := by
  unfold cloneF_D; rw [dT h]; rfl
theorem wire6_eq (m : Nat) (x : List Int) (hx : x.length ≤ 1000) (hm : x.length < m) : ∃ w : List Int, w.length = x.length ∧ wire6_D m x = some ((), (w, ()), ()) := by
  obtain ⟨w, h1, h2⟩ := faults6_L0_eq m x hx m 0 [] (by omega) rfl (by omega)
  refine ⟨w, h1, ?_⟩
  rw [show ((0 : Nat) : Int) = 0 from rfl] at h2
  unfold wire6_D faults6_D
  rw [h2]
  simp only [bnd_some, cloneF_eq m w (by omega)]
theorem tkn7_eq (m : Nat) (room : Int) (tk : List (List Int)) (t : Bool) : tkn7_D m room tk 1 false 2 8 t false = some (tk, (room, 1, false, 2, 8, t, false, ()), ()) := by
  unfold tkn7_D
  rw [dF (by decide : ¬ (8 : Int) = 0), clipT, takeAll]
  rfl
def par (n : Nat) : Bool := decide (n % 2 = 1)
theorem par_succ (n : Nat) : par (n + 1) = !par n := by
  unfold par
  by_cases h : n % 2 = 1
  · rw [dT h, dF (by omega : ¬ (n + 1) % 2 = 1)]; rfl
  · rw [dF h, dT (by omega : (n + 1) % 2 = 1)]; rfl
theorem tk_w (m : Nat) (tog : Bool) (b : List Int) (hb : b.length ≤ 1024) : tchk6_D m (5, 1, 1, tog, false, 0, b, ()) = some (0, ()) := by
  have h : ¬ 1024 < (b.length : Int) := by omega
  unfold tchk6_D tchk6_J0 tchk6_J1 tchk6_J2 tchk6_J3
  cases tog <;> simp [h]
theorem chk_w (m : Nat) : pkChk_D m (pT 1 5 1) = some (0, ()) := by kernel_rfl
theorem w_do (m : Nat) (l : List (List Int)) (hl : l.length ≤ 20) (hb : ∀ b ∈ l, b.length ≤ 8) (d k : Nat) (hk : d ≤ k ∧ k ≤ d + 1) (hd : d < l.length) (hkl : k ≤ l.length) (n : Int) (hn : 0 ≤ n) (w : List Int) :
    ∃ (r : Int) (rm : Int) (k2 : Nat) (tk : List (List Int)) (w2 : List Int) (sent : List SntT), doWW_D m 5 1 (par d) false 0 (l.getD d []) true 5 1 true 1 false 0 1 true 2 8 false false n 1 false 2 8 (par k) false w = some (((r, [], ()), sent, ()), (true, 5, ()), ky, (0, 1, true, 2, 8, false, false, ()), (rm, tk, 1, false, 2, 8, par k2, false, ()), (w2, ()), ()) ∧
      l.take k ++ tk = l.take k2 ∧ tk.length ≤ 1 ∧ k ≤ k2 ∧ k2 ≤ l.length ∧ d ≤ k2 ∧ k2 ≤ d + 1 ∧ w2.length ≤ w.length ∧ ((r = 1 ∧ k2 = d + 1) ∨ (r = 2 ∧ n = 0) ∨ (r = 4 ∧ w2.length < w.length)) := by
  have hx := hb _ (getD_mem (d := []) hd)
  obtain ⟨r, w2, sent, hit, e, h1, h2, h3⟩ := doW_eq m 5 (chk_w m) (par d) (l.getD d []) hx (tk_w m _ _ (by omega)) 0 1 true 2 8 false false n (par k) w
  cases hit with
  | false =>
    obtain ⟨hr, hw⟩ := h2 rfl
    refine ⟨r, n, k, [], w2, sent, e, by simp, by simp, by omega, hkl, hk.1, hk.2, h1, .inr (.inr ⟨hr, hw⟩)⟩
  | true =>
    have h3 := h3 rfl
    simp only [cond_true] at e
    by_cases hkd : k = d
    · subst hkd
      by_cases hn0 : n = 0
      · have hw : wr (par k) (par k) n (l.getD k []) = (10, n, [], par k) := by unfold wr; rw [dT rfl, dT hn0]; rfl
        rw [hw] at e h3
        refine ⟨r, n, k, [], w2, sent, e, by simp, by simp, by omega, hkl, by omega, by omega, h1, ?_⟩
        rcases h3 with h3 | h3
        · exact .inr (.inr h3)
        · exact .inr (.inl ⟨h3, hn0⟩)
      · have hw : wr (par k) (par k) n (l.getD k []) = (2, Go.IntKind.wrap .i64 (n - 1), [l.getD k []], par (k + 1)) := by unfold wr; rw [dT rfl, dF hn0, par_succ]; rfl
        rw [hw] at e h3
        refine ⟨r, _, k + 1, [l.getD k []], w2, sent, e, ?_, by simp, by omega, by omega, by omega, by omega, h1, ?_⟩
        · rw [List.take_succ_eq_append_getElem hd, getD_lt hd]
        rcases h3 with h3 | h3
        · exact .inr (.inr h3)
        · exact .inl ⟨h3, rfl⟩
    · have hkd : k = d + 1 := by omega
      subst hkd
      have hw : wr (par d) (par (d + 1)) n (l.getD d []) = (2, n, [], par (d + 1)) := by
        unfold wr; rw [dF (by rw [par_succ]; cases par d <;> simp)]; rfl
      rw [hw] at e h3
      refine ⟨r, n, d + 1, [], w2, sent, e, by simp, by simp, by omega, hkl, by omega, by omega, h1, ?_⟩
      rcases h3 with h3 | h3
      · exact .inr (.inr h3)
      · exact .inl ⟨h3, rfl⟩
theorem w_L0 (m : Nat) (hm : 200 ≤ m) (l : List (List Int)) (x1 x2 : List Int) (hl : l.length ≤ 20) (hx1 : x1.length ≤ 120) (hx2 : x2.length ≤ 40) (hr2 : ∀ x ∈ x2, 0 ≤ x ∧ x ≤ 255) (hb : ∀ b ∈ l, b.length ≤ 8) : ∀ (f i d k : Nat) (rm : Int) (w : List Int), d ≤ k ∧ k ≤ d + 1 → k ≤ l.length → w.length ≤ x1.length → i + w.length ≤ d + x1.length + min i x2.length → l.length + x1.length + x2.length + 1 - i ≤ f → 0 < f →
    wLaw_L0 m f l x1 x2 (d : Int) (par d) (i : Int) true 5 1 true 1 false 0 1 true 2 8 false false rm 1 false 2 8 (par k) false w (l.take k) = some (.inr ((l, ((l.length : Nat) : Int), ()), (l, ()))) := by
  intro f
  induction f with
  | zero => intro i d k rm w h1 h2 h3 h4 h5 h6; omega
  | succ f ih =>
    intro i d k rm w h1 h2 h3 h4 h5 _
    have ew : Go.IntKind.wrap .i64 (Go.IntKind.wrap .i64 ((x2.length : Int) + (l.length : Int)) + (x1.length : Int)) = ((x2.length + l.length + x1.length : Nat) : Int) := by
      rw [wi64 (x := (x2.length : Int) + (l.length : Int)) (by omega) (by omega), wi64 (by omega) (by omega)]; omega
    have e80 : decide ((8 : Int) = 0) = false := by decide
    have e21 : decide ((2 : Int) = 1) = false := by decide
    have e41 : decide ((4 : Int) = 1) = false := by decide
    have e42 : decide ((4 : Int) = 2) = false := by decide
    have fin : d = l.length → (l, ((d : Nat) : Int), ()) = (l, ((l.length : Nat) : Int), ()) := fun h => by rw [h]
    rw [wLaw_L0]
    unfold wLaw_J1
    rw [ew]
    by_cases hi : i < x2.length + l.length + x1.length
    · rw [dT (by omega : (i : Int) < ((x2.length + l.length + x1.length : Nat) : Int))]
      simp only [cond_true]
      by_cases hd : d < l.length
      · rw [dT (by omega : (d : Int) < (l.length : Nat))]
        simp only [cond_true]
        -- what is seen of what was taken
        have hj : ∀ (d2 k2 : Nat), d2 ≤ k2 → k2 ≤ d2 + 1 → d2 ≤ 20 → k2 ≤ l.length → decide ((((l.take k2).length : Nat) : Int) < (d2 : Int)) = false ∧ decide (Go.IntKind.wrap .i64 ((d2 : Int) + 1) < (((l.take k2).length : Nat) : Int)) = false ∧ decide ((((l.take k2).length : Nat) : Int) ≤ ((l.length : Nat) : Int)) = true ∧ (decide ((0 : Int) ≤ (((l.take k2).length : Nat) : Int)) && decide (Int.toNat (((l.take k2).length : Nat) : Int) ≤ l.length)) = true ∧ lists7_D m (List.take (Int.toNat (((l.take k2).length : Nat) : Int)) l) (l.take k2) = some (0, ()) := by
          intro d2 k2 g1 g2 g3 g4
          have hlk : (l.take k2).length = k2 := by simp; omega
          refine ⟨dF (by omega), ?_, dT (by omega), ?_, ?_⟩
          · rw [wS d2 (by omega)]; exact dF (by omega)
          · rw [toNatC, dT (by omega : (0 : Int) ≤ _), dT (by omega)]; rfl
          · rw [toNatC, hlk]; exact lists7_self m _ (by omega) (by omega)
        unfold wLaw_J4
        by_cases hri : i < x2.length
        · rw [dT (by omega : (i : Int) < (x2.length : Nat)), inT (by omega) (by omega : (i : Int) < (x2.length : Nat)), toNatC]
          simp only [cond_true]
          obtain ⟨g1, g2⟩ := hr2 _ (getD_mem (d := (0 : Int)) hri)
          have hn0 : 0 ≤ Int.tmod (Go.IntKind.wrap .i64 (x2.getD i 0)) 3 ∧ Int.tmod (Go.IntKind.wrap .i64 (x2.getD i 0)) 3 ≤ 2 := by
            rw [wi64 (by omega) (by omega), Int.tmod_eq_emod_of_nonneg g1]; omega
          generalize Int.tmod (Go.IntKind.wrap .i64 (x2.getD i 0)) 3 = n at hn0 ⊢
          unfold wLaw_J2
          obtain ⟨r, rm2, k2, tk, w2, sent, e, q1, q2, q3, q4, q5, q6, q7, q8⟩ := w_do m l hl hb d k h1 hd h2 n hn0.1 w
          simp only [e80, cond_false, dF (by omega : ¬ n < 0), dF (by omega : ¬ 4096 < n), decide_true, Bool.not_true, inT (by omega : (0 : Int) ≤ (d : Int)) (by omega : (d : Int) < (l.length : Nat)), cond_true, toNatC, e, bnd_some]
          have hlk : (l.take k).length ≤ 20 := by simp; omega
          have hgr : growOb 24 ((l.take k).length + tk.length) = true := gr24 _ (by omega)
          rcases q8 with ⟨rfl, rfl⟩ | ⟨rfl, hn⟩ | ⟨rfl, hw⟩
          · simp only [decide_true, cond_true, tkn7_eq, bnd_some, hgr, q1]
            unfold wLaw_J3
            obtain ⟨j1, j2, j3, j4, j5⟩ := hj (d + 1) (d + 1) (by omega) (by omega) (by omega) q4
            rw [wS d (by omega)]
            simp only [j1, j2, j3, j4, j5, cond_false, cond_true, bnd_some, decide_true, Bool.not_true]
            rw [wS i (by omega), ← par_succ]
            exact ih (i + 1) (d + 1) (d + 1) rm2 w2 ⟨by omega, by omega⟩ q4 (by omega) (by omega) (by omega) (by omega)
          · simp only [e21, cond_false, decide_true, cond_true, dF (by omega : ¬ 0 < n), tkn7_eq, bnd_some, hgr, q1]
            unfold wLaw_J3
            obtain ⟨j1, j2, j3, j4, j5⟩ := hj d k2 (by omega) (by omega) (by omega) q4
            simp only [j1, j2, j3, j4, j5, cond_false, cond_true, bnd_some, decide_true, Bool.not_true]
            rw [wS i (by omega)]
            exact ih (i + 1) d k2 rm2 w2 ⟨by omega, by omega⟩ q4 (by omega) (by omega) (by omega) (by omega)
          · simp only [e41, e42, cond_false, decide_true, cond_true, tkn7_eq, bnd_some, hgr, q1]
            unfold wLaw_J3
            obtain ⟨j1, j2, j3, j4, j5⟩ := hj d k2 (by omega) (by omega) (by omega) q4
            simp only [j1, j2, j3, j4, j5, cond_false, cond_true, bnd_some, decide_true, Bool.not_true]
            rw [wS i (by omega)]
            exact ih (i + 1) d k2 rm2 w2 ⟨by omega, by omega⟩ q4 (by omega) (by omega) (by omega) (by omega)
        · rw [dF (by omega : ¬ (i : Int) < (x2.length : Nat))]
          simp only [cond_false]
          unfold wLaw_J2
          obtain ⟨r, rm2, k2, tk, w2, sent, e, q1, q2, q3, q4, q5, q6, q7, q8⟩ := w_do m l hl hb d k h1 hd h2 1 (by omega) w
          simp only [e80, cond_false, dF (by omega : ¬ (1 : Int) < 0), dF (by omega : ¬ 4096 < (1 : Int)), decide_true, Bool.not_true, inT (by omega : (0 : Int) ≤ (d : Int)) (by omega : (d : Int) < (l.length : Nat)), cond_true, toNatC, e, bnd_some]
          have hlk : (l.take k).length ≤ 20 := by simp; omega
          have hgr : growOb 24 ((l.take k).length + tk.length) = true := gr24 _ (by omega)
          rcases q8 with ⟨rfl, rfl⟩ | ⟨rfl, hn⟩ | ⟨rfl, hw⟩
          · simp only [decide_true, cond_true, tkn7_eq, bnd_some, hgr, q1]
            unfold wLaw_J3
            obtain ⟨j1, j2, j3, j4, j5⟩ := hj (d + 1) (d + 1) (by omega) (by omega) (by omega) q4
            rw [wS d (by omega)]
            simp only [j1, j2, j3, j4, j5, cond_false, cond_true, bnd_some, decide_true, Bool.not_true]
            rw [wS i (by omega), ← par_succ]
            exact ih (i + 1) (d + 1) (d + 1) rm2 w2 ⟨by omega, by omega⟩ q4 (by omega) (by omega) (by omega) (by omega)
          · omega
          · simp only [e41, e42, cond_false, decide_true, cond_true, tkn7_eq, bnd_some, hgr, q1]
            unfold wLaw_J3
            obtain ⟨j1, j2, j3, j4, j5⟩ := hj d k2 (by omega) (by omega) (by omega) q4
            simp only [j1, j2, j3, j4, j5, cond_false, cond_true, bnd_some, decide_true, Bool.not_true]
            rw [wS i (by omega)]
            exact ih (i + 1) d k2 rm2 w2 ⟨by omega, by omega⟩ q4 (by omega) (by omega) (by omega) (by omega)
      · have hdl : d = l.length := by omega
        have hkl : k = l.length := by omega
        rw [dF (by omega : ¬ (d : Int) < (l.length : Nat)), hdl, hkl, List.take_length]
        rfl
    · have hdl : d = l.length := by omega
      have hkl : k = l.length := by omega
      rw [dF (by omega : ¬ (i : Int) < ((x2.length + l.length + x1.length : Nat) : Int)), hdl, hkl, List.take_length]
      rfl
theorem wLaw_true (l : List (List Int)) (x1 x2 : List Int) (hr2 : ∀ x ∈ x2, 0 ≤ x ∧ x ≤ 255) : wLaw_D 400 l x1 x2 = some (true, ()) := by
  unfold wLaw_D wLaw_J0
  rcases few7_eq 400 l (by omega) with h | ⟨h, hl, hb⟩
  · rw [h]; rfl
  rw [h]
  simp only [bnd_some, Bool.not_true, cond_false]
  by_cases hx : 120 < (x1.length : Int)
  · rw [dT hx]; rfl
  rw [dF hx]
  simp only [cond_false]
  by_cases hx2 : 40 < (x2.length : Int)
  · rw [dT hx2]; rfl
  rw [dF hx2]
  simp only [cond_false]
  obtain ⟨w, hw, hwire⟩ := wire6_eq 400 x1 (by omega) (by omega)
  simp only [hwire, bnd_some]
  have e := w_L0 400 (by omega) l x1 x2 hl (by omega) (by omega) hr2 hb 400 0 0 0 0 w ⟨by omega, by omega⟩ (by omega) (by omega) (by omega) (by omega) (by omega)
  have c1 : Go.IntKind.wrap .u8 (1 + Int.tmod 0 15) = 1 := by decide
  have c2 : Go.IntKind.wrap .u8 (1 + Int.tmod 1 3) = 2 := by decide
  have c3 : Go.IntKind.wrap .i64 (1 + Int.tmod (Go.IntKind.wrap .i64 7) 1024) = 8 := by decide
  have e' : wLaw_L0 400 400 l x1 x2 0 false 0 true 5 1 true 1 false 0 1 true 2 8 false false 0 1 false 2 8 false false w [] = some (.inr ((l, ((l.length : Nat) : Int), ()), (l, ()))) := by simpa [par] using e
  simp only [c1, c2, c3]
  rw [e']
  simp only [bnd_some, sumK_r]
  unfold wLaw_J5
  rw [dT rfl, lists7_self 400 l (by omega) (by omega)]
  rfl
end Go.Proofs.YtngghkoghbpceaaDoor

