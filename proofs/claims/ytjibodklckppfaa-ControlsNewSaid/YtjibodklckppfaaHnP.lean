/-
  The statement ControlsNew: the plain law.
  Conditions: none.
-/
import Derived.Test.YtjibodklckppfaaH8n
import Derived.Test.YtjibodklckppfaaHoP
namespace Go.Proofs.Ytjibodklckppfaa
set_option linter.unusedVariables false
set_option linter.unusedSimpArgs false
set_option maxRecDepth 100000
set_option maxHeartbeats 4000000

theorem over8_zero (m : Nat) : over8_D m (0, 0, 0, 0, 0, 0, [], 0, false, 0, [], 0, 0, ()) = some (true, ()) := by kernel_rfl
theorem fits8_no (m : Nat) (x : Int) (h : ¬ isMx x) : fits8_D m x = some (false, ()) := by
  unfold isMx at h
  unfold fits8_D fits8_J0
  rw [dF (by omega : ¬ x = 8), dF (by omega : ¬ x = 16), dF (by omega : ¬ x = 32), dF (by omega : ¬ x = 64)]
  rfl
theorem start_no (m : Nat) (r : Int × Int × Int × Int × Int × Unit) (o : List Int) (x : Int) (h : ¬ isMx x) : start_D m r o x = some ((((0, 0, 0, 0, 0, 0, [], 0, false, 0, [], 0, 0, ()), 1, ()), ())) := by
  unfold start_D
  rw [fits8_no m x h]; rfl
theorem start_yes (m : Nat) (r1 r2 r3 r4 r5 : Int) (o : List Int) (x : Int) (h1 : 0 ≤ r1 ∧ r1 < 256) (h5 : 0 ≤ r5 ∧ r5 < 65536) (h : isMx x) (ho : o.length ≤ 300) :
    start_D m (r1, r2, r3, r4, r5, ()) o x = some (bif decide ((o.length : Int) = if wrB r1 r5 = true then r5 else 0) then (((1, r1, r2, r3, r4, r5, o, x, true, 0, [], 0, 0, ()), 0, ()), ()) else (((0, 0, 0, 0, 0, 0, [], 0, false, 0, [], 0, 0, ()), 5, ()), ())) := by
  have w5 : Go.IntKind.wrap .i64 r5 = r5 := wi64 (by omega) (by omega)
  unfold start_D
  rw [fits8_eq m x h]
  simp only [bnd_some, Bool.not_true, cond_false, writes_eq m _ _ _ _ _ h1.1 h1.2, w5]
  cases hw : wrB r1 r5 with
  | true =>
    rw [if_pos rfl]
    by_cases hl : (o.length : Int) = r5
    · simp only [cond_true, dT hl, Bool.not_true, cond_false, clone8_eq m o (by omega), bnd_some]
    · simp only [cond_true, dF hl, Bool.not_false, cond_false]
  | false =>
    rw [if_neg (by simp)]
    by_cases hl : (o.length : Int) = 0
    · simp only [cond_false, dT hl, Bool.not_true, clone8_eq m o (by omega), bnd_some, cond_true]
    · simp only [cond_false, dF hl, Bool.not_false, cond_true]
theorem newL_true (m : Nat) (r1 r2 r3 r4 r5 : Int) (o : List Int) (x : Int) (h1 : 0 ≤ r1 ∧ r1 < 256) (h5 : 0 ≤ r5 ∧ r5 < 65536) : newL_D m (r1, r2, r3, r4, r5, ()) o x = some (true, ()) := by
  have w5 : Go.IntKind.wrap .i64 r5 = r5 := wi64 (by omega) (by omega)
  unfold newL_D
  by_cases hl : 300 < (o.length : Int)
  · rw [dT hl]; rfl
  rw [dF hl]
  simp only [cond_false]
  have hlv : lives8_D m = some (true, ()) := rfl
  by_cases hx : isMx x
  · have hj0 : ∀ {R : Type} r (k : Bool → Option R), newL_J0 m o x r k = k true := by
      intro R r k
      unfold newL_J0
      rcases hx with rfl | rfl | rfl | rfl <;> rfl
    have hx0 : decide (x = 0) = false := by have := mx_lt hx; exact dF (by omega)
    rw [hj0]
    unfold newL_J1
    simp only [fits8_eq m x hx, bnd_some, Bool.not_true, cond_false]
    unfold newL_J4
    simp only [fits8_eq m x hx, bnd_some, Bool.not_true, cond_false]
    rw [start_yes m r1 r2 r3 r4 r5 o x h1 h5 hx (by omega)]
    simp only [bnd_some]
    have hj5 : ∀ {R : Type} a b c d e f g h i j k l p q s t (u : Bool → Option R), newL_J5 m a b c d x e f g h i j k l p q s t 0 u = u false := by
      intro R a b c d e f g h i j k l p q s t u
      unfold newL_J5
      rw [hx0]; rfl
    rw [hj5]
    simp only [cond_false, rwrites_eq, bnd_some, w5]
    cases hw : wrB r1 r5 with
    | true =>
      simp only [if_true, cond_true]
      by_cases hr : (o.length : Int) = r5
      · simp only [dT hr, cond_true, Bool.not_true, cond_false]
        rw [show end8_D m (1, r1, r2, r3, r4, r5, o, x, true, 0, [], 0, 0, ()) = some (([], 6, ()), ()) by rfl]
        simp only [bnd_some]
        unfold newL_J7
        simp only [over8_zero, hlv, bnd_some]
        rfl
      · simp only [dF hr, cond_false, Bool.not_false, cond_true]
        unfold newL_J6
        simp only [over8_zero, hlv, bnd_some]
        rfl
    | false =>
      simp only [Bool.false_eq_true, if_false, cond_false]
      by_cases hr : (o.length : Int) = 0
      · simp only [dT hr, cond_true, Bool.not_true, cond_false]
        rw [show end8_D m (1, r1, r2, r3, r4, r5, o, x, true, 0, [], 0, 0, ()) = some (([], 6, ()), ()) by rfl]
        simp only [bnd_some]
        unfold newL_J7
        simp only [over8_zero, hlv, bnd_some]
        rfl
      · simp only [dF hr, cond_false, Bool.not_false, cond_true]
        unfold newL_J6
        simp only [over8_zero, hlv, bnd_some]
        rfl
  · have hj0 : ∀ {R : Type} r (k : Bool → Option R), newL_J0 m o x r k = k false := by
      intro R r k
      unfold isMx at hx
      unfold newL_J0
      rw [dF (by omega : ¬ x = 8), dF (by omega : ¬ x = 16), dF (by omega : ¬ x = 32), dF (by omega : ¬ x = 64)]
      rfl
    rw [hj0]
    unfold newL_J1
    simp only [fits8_no m x hx, bnd_some, Bool.not_false, cond_true]
    unfold newL_J2
    simp only [fits8_no m x hx, bnd_some, Bool.not_false, cond_true]
    rw [start_no m _ o x hx]
    simp only [bnd_some]
    unfold newL_J3
    simp only [over8_zero, hlv, bnd_some]
    rfl
end Go.Proofs.Ytjibodklckppfaa

