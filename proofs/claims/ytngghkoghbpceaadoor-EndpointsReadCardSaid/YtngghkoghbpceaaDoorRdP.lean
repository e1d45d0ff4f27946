/-
  The statement EndpointsRead: the plain law.
  Conditions: none.
-/
import Derived.Test.YtngghkoghbpceaaDoorE7R
import Derived.Test.YtngghkoghbpceaaDoorDoSR
import Derived.Test.YtngghkoghbpceaaDoorWrA
namespace Go.Proofs.YtngghkoghbpceaaDoor
set_option linter.unusedVariables false
set_option linter.unusedSimpArgs false
set_option maxRecDepth 100000
set_option maxHeartbeats 4000000

def sl (l : List (List Int)) (a g : Nat) : List (List Int) := (l.take g).drop a
theorem sl_len {l : List (List Int)} {a g : Nat} (hg : g ≤ l.length) : (sl l a g).length = g - a := by simp [sl]; omega
theorem sl_nil {l : List (List Int)} {a g : Nat} (hg : g ≤ a) : sl l a g = [] := by unfold sl; apply List.drop_eq_nil_of_le; simp; omega
theorem sl_snoc {l : List (List Int)} {a g : Nat} (ha : a ≤ g) (hg : g < l.length) : sl l a g ++ [l.getD g []] = sl l a (g + 1) := by
  unfold sl
  rw [List.take_succ_eq_append_getElem hg, getD_lt hg, List.drop_append_of_le_length (by simp; omega)]
theorem sl_cons {l : List (List Int)} {a g : Nat} (ha : a < g) (hg : g ≤ l.length) : sl l a g = l.getD a [] :: sl l (a + 1) g := by
  unfold sl
  have h : a < (l.take g).length := by simp; omega
  rw [drop_cons (d := ([] : List Int)) h]
  congr 1
  rw [getD_lt h, getD_lt (by omega : a < l.length)]
  simp
theorem sl_mem {l : List (List Int)} {a g : Nat} {b : List Int} (h : b ∈ sl l a g) : b ∈ l := List.mem_of_mem_take (List.mem_of_mem_drop h)
theorem offO_eq (m : Nat) (b : List Int) (hb : b.length ≤ 8) (t : Bool) (q : List (List Int)) (hq : q.length < 2) : offO_D m b 0 1 true 2 8 t false q = some (.inl ((), (0, 1, true, 2, 8, t, false, ()), q ++ [b], ())) := by
  unfold offO_D
  rw [dF (by decide : ¬ (8 : Int) = 0), dF (by omega : ¬ 8 < (b.length : Int)), dF (by omega : ¬ 2 ≤ (q.length : Int)), eclone_eq m b (by omega)]
  simp only [cond_false, Bool.not_true, bnd_some]
  rw [gr24 _ (by simp; omega), dT (by decide : (41 : Nat) < nat_lit 45)]
  rfl
theorem r_L1 (m : Nat) (l : List (List Int)) (hl : l.length ≤ 20) (hb : ∀ b ∈ l, b.length ≤ 8) (x1 : List Int) (many : Int) (c : Nat) (hc : Go.IntKind.wrap .i64 (1 + Int.tmod (Go.IntKind.wrap .i64 many) 2) = (c : Int)) (hc1 : 1 ≤ c) (hc2 : c ≤ 2) (a : Nat) (t tog : Bool) (i : Int) (w : List Int) (got : List (List Int)) : ∀ (f j g : Nat), a ≤ g → g ≤ l.length → g - a ≤ 2 → j ≤ c → c + 1 - j ≤ f →
    ∃ g2 : Nat, g ≤ g2 ∧ g2 ≤ l.length ∧ g2 - a ≤ 2 ∧ (j = 0 → g = a → g < l.length → a < g2) ∧ rLaw_L1 m f l x1 many (g : Int) tog i (j : Int) true 5 1 true 1 false 0 1 true 2 8 t false 0 1 false 2 8 false false w got (sl l a g) = some (.inr ((l, x1, many, (g2 : Int), tog, i, ()), (true, 5, ()), ky, (0, 1, true, 2, 8, t, false, ()), (0, 1, false, 2, 8, false, false, ()), (w, ()), got, sl l a g2, ())) := by
  intro f
  induction f with
  | zero => intro j g h1 h2 h3 h4 h5; omega
  | succ f ih =>
    intro j g h1 h2 h3 h4 h5
    have hs := sl_len (l := l) (a := a) h2
    have e80 : decide ((8 : Int) = 0) = false := by decide
    rw [rLaw_L1]
    unfold rLaw_J1
    rw [hc]
    by_cases hj : j < c
    · rw [dT (by omega : (j : Int) < (c : Int))]
      simp only [cond_true]
      by_cases hg : g < l.length
      · rw [dT (by omega : (g : Int) < (l.length : Nat))]
        simp only [cond_true, e80, cond_false]
        by_cases hq : (sl l a g).length < 2
        · rw [dT (by omega : (((sl l a g).length : Nat) : Int) < 2)]
          simp only [cond_true]
          unfold rLaw_J2
          have hx := hb _ (getD_mem (d := ([] : List Int)) hg)
          rw [inT (by omega : (0 : Int) ≤ (g : Int)) (by omega : (g : Int) < (l.length : Nat)), toNatC, offO_eq m _ hx t _ hq, sl_snoc h1 hg]
          simp only [cond_true, bnd_some, sumK_l, decide_true, Bool.not_true, cond_false]
          rw [wS g (by omega), wS j (by omega)]
          obtain ⟨g2, q1, q2, q3, q4, q5⟩ := ih (j + 1) (g + 1) (by omega) (by omega) (by omega) (by omega) (by omega)
          exact ⟨g2, by omega, q2, q3, fun _ _ _ => by omega, q5⟩
        · rw [dF (by omega : ¬ (((sl l a g).length : Nat) : Int) < 2)]
          exact ⟨g, Nat.le_refl _, h2, h3, fun _ h _ => by omega, rfl⟩
      · rw [dF (by omega : ¬ (g : Int) < (l.length : Nat))]
        exact ⟨g, Nat.le_refl _, h2, h3, fun _ _ h => by omega, rfl⟩
    · rw [dF (by omega : ¬ (j : Int) < (c : Int))]
      exact ⟨g, Nat.le_refl _, h2, h3, fun h _ _ => by omega, rfl⟩
theorem tk_r (m : Nat) (tog : Bool) : tchk6_D m (5, 1, 9, tog, false, 8, [], ()) = some (0, ()) := by cases tog <;> kernel_rfl
theorem chk_r (m : Nat) : pkChk_D m (pT 9 5 1) = some (0, ()) := by kernel_rfl
theorem r_L0 (m : Nat) (hm : 200 ≤ m) (l : List (List Int)) (x1 : List Int) (many : Int) (hmany : 0 ≤ many ∧ many ≤ 255) (hl : l.length ≤ 20) (hx1 : x1.length ≤ 120) (hb : ∀ b ∈ l, b.length ≤ 8) : ∀ (f i a gt g : Nat) (w : List Int), a ≤ gt ∧ gt ≤ a + 1 → gt ≤ g → g ≤ l.length → g - a ≤ 2 → w.length ≤ x1.length → (i + w.length ≤ a + x1.length ∨ a = l.length) → 2 * l.length + x1.length + 3 - i ≤ f → 0 < f →
    ∃ t2, rLaw_L0 m f l x1 many (g : Int) (par gt) (i : Int) true 5 1 true 1 false 0 1 true 2 8 (par a) false 0 1 false 2 8 false false w (l.take gt) (sl l a g) = some (.inr ((l, ()), (0, 1, true, 2, 8, t2, false, ()), (0, 1, false, 2, 8, false, false, ()), l, [], ())) := by
  intro f
  induction f with
  | zero => intro i a gt g w h1 h2 h3 h4 h5 h6 h7 h8; omega
  | succ f ih =>
    intro i a gt g w h1 h2 h3 h4 h5 h6 h7 _
    have ew : Go.IntKind.wrap .i64 (Go.IntKind.wrap .i64 (Go.IntKind.wrap .i64 (2 * (l.length : Int)) + (x1.length : Int)) + 2) = ((2 * l.length + x1.length + 2 : Nat) : Int) := by
      rw [wi64 (x := 2 * (l.length : Int)) (by omega) (by omega), wi64 (x := 2 * (l.length : Int) + (x1.length : Int)) (by omega) (by omega), wi64 (by omega) (by omega)]; omega
    have e80 : decide ((8 : Int) = 0) = false := by decide
    have e41 : decide ((4 : Int) = 1) = false := by decide
    have e46 : decide ((4 : Int) = 6) = false := by decide
    have e42 : decide ((4 : Int) = 2) = false := by decide
    have e21 : decide ((2 : Int) = 1) = false := by decide
    have e26 : decide ((2 : Int) = 6) = false := by decide
    have e61 : decide ((6 : Int) = 1) = false := by decide
    rw [rLaw_L0, ew]
    by_cases hi : i < 2 * l.length + x1.length + 2
    · rw [dT (by omega : (i : Int) < ((2 * l.length + x1.length + 2 : Nat) : Int))]
      simp only [cond_true]
      unfold rLaw_J5
      obtain ⟨c, hc, hc1, hc2⟩ : ∃ c : Nat, Go.IntKind.wrap .i64 (1 + Int.tmod (Go.IntKind.wrap .i64 many) 2) = (c : Int) ∧ 1 ≤ c ∧ c ≤ 2 := by
        rw [wi64 (x := many) (by omega) (by omega), Int.tmod_eq_emod_of_nonneg hmany.1, wi64 (by omega) (by omega)]
        exact ⟨(1 + many % 2).toNat, by omega, by omega, by omega⟩
      obtain ⟨g2, p1, p2, p3, p4, p5⟩ := r_L1 m l hl hb x1 many c hc hc1 hc2 a (par a) (par gt) (i : Int) w (l.take gt) m 0 g (by omega) h3 h4 (by omega) (by omega)
      have hag : a < l.length → a < g2 := fun h => by
        by_cases hga : g = a
        · exact p4 rfl hga (by omega)
        · omega
      rw [show ((0 : Nat) : Int) = 0 from rfl] at p5
      rw [p5]
      simp only [bnd_some, sumK_r]
      obtain ⟨r, dt, t2, q2, w2, sent, e, d1, d2⟩ := doR_eq m 5 (chk_r m) (par gt) (tk_r m _) 0 (par a) 0 1 false 2 8 false false (sl l a g2) (fun b h => hb b (sl_mem h)) w
      simp only [e, bnd_some]
      -- what the law looks at
      have hj : ∀ (a2 k2 : Nat), a2 ≤ k2 → k2 ≤ a2 + 1 → a2 ≤ g2 → k2 ≤ l.length → Go.IntKind.wrap .i64 ((g2 : Int) - (((sl l a2 g2).length : Nat) : Int)) = (a2 : Int) ∧ decide ((((l.take k2).length : Nat) : Int) < (a2 : Int)) = false ∧ decide (Go.IntKind.wrap .i64 ((a2 : Int) + 1) < (((l.take k2).length : Nat) : Int)) = false ∧ decide ((((l.take k2).length : Nat) : Int) ≤ ((l.length : Nat) : Int)) = true ∧ (decide ((0 : Int) ≤ (((l.take k2).length : Nat) : Int)) && decide (Int.toNat (((l.take k2).length : Nat) : Int) ≤ l.length)) = true ∧ lists7_D m (List.take (Int.toNat (((l.take k2).length : Nat) : Int)) l) (l.take k2) = some (0, ()) := by
        intro a2 k2 g1 g2' g3 g4
        have hlk : (l.take k2).length = k2 := by simp; omega
        have hls := sl_len (l := l) (a := a2) p2
        refine ⟨?_, dF (by omega), ?_, dT (by omega), ?_, ?_⟩
        · rw [hls, wi64 (by omega) (by omega)]; omega
        · rw [wS a2 (by omega)]; exact dF (by omega)
        · rw [toNatC, dT (by omega : (0 : Int) ≤ _), dT (by omega)]; rfl
        · rw [toNatC, hlk]; exact lists7_self m _ (by omega) (by omega)
      rcases d2 with ⟨rfl, rfl, rfl, hw⟩ | ⟨hq, rfl, rfl, rfl⟩ | ⟨b, q0, hq, hr, hs⟩
      · obtain ⟨j0, j1, j2, j3, j4, j5⟩ := hj a gt h1.1 h1.2 (by omega) (by omega)
        simp only [e41, e46, e42, cond_false, decide_true, cond_true]
        unfold rLaw_J3
        simp only [e80, cond_false, j0]
        unfold rLaw_J4
        simp only [j1, j2, j3, j4, j5, cond_false, cond_true, bnd_some, decide_true, Bool.not_true]
        rw [wS i (by omega)]
        exact ih (i + 1) a gt g2 w2 h1 (by omega) p2 p3 (by omega) (by omega) (by omega) (by omega)
      · have hg2 : g2 ≤ a := by
          have := sl_len (l := l) (a := a) p2
          rw [hq] at this; simp only [List.length_nil] at this; omega
        have hal : a = l.length := by
          by_cases h : a < l.length
          · have := hag h; omega
          · omega
        obtain ⟨j0, j1, j2, j3, j4, j5⟩ := hj a gt h1.1 h1.2 (by omega) (by omega)
        rw [hq] at j0
        simp only [e21, e26, cond_false, decide_true, cond_true]
        unfold rLaw_J3
        simp only [e80, cond_false, j0]
        unfold rLaw_J4
        simp only [j1, j2, j3, j4, j5, cond_false, cond_true, bnd_some, decide_true, Bool.not_true]
        rw [wS i (by omega)]
        have hih := ih (i + 1) a gt g2 w2 h1 (by omega) p2 p3 (by omega) (.inr hal) (by omega) (by omega)
        rw [hq] at hih
        exact hih
      · have hg2 : a < g2 := by
          have := sl_len (l := l) (a := a) p2
          rw [hq] at this; simp only [List.length_cons] at this; omega
        have hcons := sl_cons (l := l) hg2 p2
        rw [hq] at hcons
        simp only [List.cons.injEq] at hcons
        obtain ⟨rfl, rfl⟩ := hcons
        have hal : a < l.length := by omega
        rcases hr with ⟨htt, rfl, rfl⟩ | ⟨htt, rfl⟩
        · have hga : gt = a := by
            by_cases h : gt = a
            · exact h
            · have : gt = a + 1 := by omega
              subst this
              rw [par_succ] at htt
              cases hp : par a <;> rw [hp] at htt <;> cases htt
          subst hga
          have htk : l.take gt ++ [l.getD gt []] = l.take (gt + 1) := by rw [List.take_succ_eq_append_getElem hal, getD_lt hal]
          have hgr : growOb 24 ((l.take gt).length + [l.getD gt []].length) = true := gr24 _ (by simp; omega)
          simp only [decide_true, cond_true, hgr, htk]
          unfold rLaw_J3
          rcases hs with ⟨rfl, rfl⟩ | ⟨rfl, rfl, hw⟩
          · obtain ⟨j0, j1, j2, j3, j4, j5⟩ := hj (gt + 1) (gt + 1) (by omega) (by omega) (by omega) (by omega)
            simp only [e80, cond_false, j0]
            unfold rLaw_J4
            simp only [j1, j2, j3, j4, j5, cond_false, cond_true, bnd_some, decide_true, Bool.not_true]
            rw [wS i (by omega), ← par_succ]
            exact ih (i + 1) (gt + 1) (gt + 1) g2 w2 ⟨by omega, by omega⟩ (by omega) p2 (by omega) (by omega) (by omega) (by omega) (by omega)
          · obtain ⟨j0, j1, j2, j3, j4, j5⟩ := hj gt (gt + 1) (by omega) (by omega) (by omega) (by omega)
            simp only [e80, cond_false, j0]
            unfold rLaw_J4
            simp only [j1, j2, j3, j4, j5, cond_false, cond_true, bnd_some, decide_true, Bool.not_true]
            rw [wS i (by omega), ← par_succ]
            exact ih (i + 1) gt (gt + 1) g2 w2 ⟨by omega, by omega⟩ (by omega) p2 (by omega) (by omega) (by omega) (by omega) (by omega)
        · have hga : gt = a + 1 := by
            by_cases h : gt = a
            · subst h; exact absurd rfl htt
            · omega
          subst hga
          simp only [e61, cond_false, decide_true, cond_true]
          unfold rLaw_J3
          rcases hs with ⟨rfl, rfl⟩ | ⟨rfl, rfl, hw⟩
          · obtain ⟨j0, j1, j2, j3, j4, j5⟩ := hj (a + 1) (a + 1) (by omega) (by omega) (by omega) (by omega)
            simp only [e80, cond_false, j0]
            unfold rLaw_J4
            simp only [j1, j2, j3, j4, j5, cond_false, cond_true, bnd_some, decide_true, Bool.not_true]
            rw [wS i (by omega), ← par_succ]
            exact ih (i + 1) (a + 1) (a + 1) g2 w2 ⟨by omega, by omega⟩ (by omega) p2 (by omega) (by omega) (by omega) (by omega) (by omega)
          · obtain ⟨j0, j1, j2, j3, j4, j5⟩ := hj a (a + 1) (by omega) (by omega) (by omega) (by omega)
            simp only [e80, cond_false, j0]
            unfold rLaw_J4
            simp only [j1, j2, j3, j4, j5, cond_false, cond_true, bnd_some, decide_true, Bool.not_true]
            rw [wS i (by omega)]
            exact ih (i + 1) a (a + 1) g2 w2 ⟨by omega, by omega⟩ (by omega) p2 (by omega) (by omega) (by omega) (by omega) (by omega)
    · have hal : a = l.length := by omega
      have hgl : gt = l.length := by omega
      rw [dF (by omega : ¬ (i : Int) < ((2 * l.length + x1.length + 2 : Nat) : Int)), hgl, List.take_length, sl_nil (by omega : g ≤ a)]
      exact ⟨_, rfl⟩
theorem rLaw_true (l : List (List Int)) (x1 : List Int) (many : Int) (hmany : 0 ≤ many ∧ many ≤ 255) : rLaw_D 400 l x1 many = some (true, ()) := by
  unfold rLaw_D rLaw_J0
  rcases few7_eq 400 l (by omega) with h | ⟨h, hl, hb⟩
  · rw [h]; rfl
  rw [h]
  simp only [bnd_some, Bool.not_true, cond_false]
  by_cases hx : 120 < (x1.length : Int)
  · rw [dT hx]; rfl
  rw [dF hx]
  simp only [cond_false]
  obtain ⟨w, hw, hwire⟩ := wire6_eq 400 x1 (by omega) (by omega)
  simp only [hwire, bnd_some]
  obtain ⟨t2, e⟩ := r_L0 400 (by omega) l x1 many hmany hl (by omega) hb 400 0 0 0 0 w ⟨by omega, by omega⟩ (by omega) (by omega) (by omega) (by omega) (by omega) (by omega) (by omega)
  have c1 : Go.IntKind.wrap .u8 (1 + Int.tmod 0 15) = 1 := by decide
  have c2 : Go.IntKind.wrap .u8 (1 + Int.tmod 1 3) = 2 := by decide
  have c3 : Go.IntKind.wrap .i64 (1 + Int.tmod (Go.IntKind.wrap .i64 7) 1024) = 8 := by decide
  have e' : rLaw_L0 400 400 l x1 many 0 false 0 true 5 1 true 1 false 0 1 true 2 8 false false 0 1 false 2 8 false false w [] [] = some (.inr ((l, ()), (0, 1, true, 2, 8, t2, false, ()), (0, 1, false, 2, 8, false, false, ()), l, [], ())) := by simpa [par, sl] using e
  simp only [c1, c2, c3]
  rw [e']
  simp only [bnd_some, sumK_r]
  unfold rLaw_J6
  have e80 : decide ((8 : Int) = 0) = false := by decide
  simp only [lists7_self 400 l (by omega) (by omega), bnd_some, decide_true, cond_true, e80, cond_false, List.length_nil]
  rfl
end Go.Proofs.YtngghkoghbpceaaDoor

