/-
  The statement PacketsDecode: the law's plain function is true.
  Conditions: none.
-/
import Derived.Test.YtpdbekbobkjfgaaDoorD3T
namespace Go.Proofs.YtpdbekbobkjfgaaDoor
set_option linter.unusedVariables false
set_option linter.unusedSimpArgs false
set_option maxRecDepth 100000
set_option maxHeartbeats 2000000

theorem nI_cons (a : Nat) (l : List Nat) : nI (a :: l) = (a : Int) :: nI l := rfl
theorem nI_nil : nI [] = [] := rfl
theorem lt16 {p : Nat} (h : p < 16) : p = 0 ∨ p = 1 ∨ p = 2 ∨ p = 3 ∨ p = 4 ∨ p = 5 ∨ p = 6 ∨ p = 7 ∨ p = 8 ∨ p = 9 ∨ p = 10 ∨ p = 11 ∨ p = 12 ∨ p = 13 ∨ p = 14 ∨ p = 15 := by omega
theorem first_eq (m p : Nat) (h : p < 16) : first_D m (p : Int) = some (((p + 16 * (15 - p) : Nat) : Int), ()) := by
  rcases lt16 h with rfl | rfl | rfl | rfl | rfl | rfl | rfl | rfl | rfl | rfl | rfl | rfl | rfl | rfl | rfl | rfl <;> rfl
theorem rfirst_eq (m p : Nat) (h : p < 16) : rfirst_D m (p : Int) = some (((p + 16 * (15 - p) : Nat) : Int), ()) := by
  rcases lt16 h with rfl | rfl | rfl | rfl | rfl | rfl | rfl | rfl | rfl | rfl | rfl | rfl | rfl | rfl | rfl | rfl <;> rfl
/-- How the bytes behind the first one are made. -/
def shv (p : Nat) : Nat := if p = 2 ∨ p = 10 ∨ p = 14 ∨ p = 6 then 1 else if p = 1 ∨ p = 9 ∨ p = 13 then 2 else if p = 5 then 3 else if p = 8 then 4 else if p = 3 ∨ p = 11 then 5 else 0
theorem shape_eq (m p : Nat) (h : p < 16) : shapeOf_D m (p : Int) = some (((shv p : Nat) : Int), ()) := by
  rcases lt16 h with rfl | rfl | rfl | rfl | rfl | rfl | rfl | rfl | rfl | rfl | rfl | rfl | rfl | rfl | rfl | rfl <;> rfl
def good (f : Nat) : Bool := decide (shv (f % 16) ≠ 0) && decide (f = f % 16 + 16 * (15 - f % 16))
theorem zl (n : Nat) : decide ((((n + 1 : Nat) : Int)) = (0 : Int)) = false := dF (by omega)
theorem zb (n : Nat) : inB (0 : Int) (n + 1) = true := inT (by omega) (by omega)
theorem za1 (n : Nat) : decide (1 ≤ n + 1) = true := dT (by omega)
theorem z5' : decide ((0 : Int) ≤ 1) = true := rfl
theorem tm16 (f : Nat) : Int.tmod (f : Int) (16 : Int) = ((f % 16 : Nat) : Int) := by rw [Int.tmod_eq_emod_of_nonneg (by omega)]; rfl
theorem dcast (a b : Nat) : decide ((a : Int) = (b : Int)) = decide (a = b) := decide_eq_decide.2 (by omega)
theorem rerrJ0_eq {R : Type} (m f : Nat) (hf : f < 256) (rest : List Nat) (K : Bool → Option R) : rerror_J0 m (nI (f :: rest)) K = K (!good f) := by
  have hp : f % 16 < 16 := Nat.mod_lt _ (by omega)
  unfold rerror_J0
  simp only [nI_cons, List.length_cons, nI_len, List.getD_cons_zero, t0, zl, zb, cond_true, cond_false, tm16, rfirst_eq m _ hp, bnd_some, dcast]
  unfold good
  generalize f % 16 = p at hp ⊢
  rcases lt16 hp with rfl | rfl | rfl | rfl | rfl | rfl | rfl | rfl | rfl | rfl | rfl | rfl | rfl | rfl | rfl | rfl <;> first | rfl | (simp only [shv]; rfl)
abbrev nopk : Pkt := (0, 0, 0, 0, 0, 0, false, false, 0, [], ())
theorem decJ0_eq {R : Type} (m f : Nat) (hf : f < 256) (rest : List Nat) (x46 x47 x48 x49 x50 x51 : Int) (x52 x53 : Bool) (x54 x56 x57 x58 x59 x60 : Int) (x61 x62 : Bool) (x63 : Int) (x64 : List Int) (K : Bool → Option R) :
    decode_J0 m (nI (f :: rest)) ((shv (f % 16) : Nat) : Int) x46 x47 x48 x49 x50 x51 x52 x53 x54 ((f % 16 : Nat) : Int) x56 x57 x58 x59 x60 x61 x62 x63 x64 K = K (!good f) := by
  have hp : f % 16 < 16 := Nat.mod_lt _ (by omega)
  unfold decode_J0
  simp only [nI_cons, List.length_cons, nI_len, List.getD_cons_zero, t0, zb, cond_true, first_eq m _ hp, bnd_some, dcast]
  unfold good
  by_cases h : shv (f % 16) = 0
  · rw [h]; rfl
  · rw [dF (show ¬ ((shv (f % 16) : Nat) : Int) = 0 by omega), cond_false, dT h, Bool.true_and]
/-- What is read behind the first byte. -/
def decB (m f : Nat) (rest : List Nat) : Option ((Pkt × Int × Unit) × Unit) :=
  if shv (f % 16) = 1 then (if rest = [] then some (((((f % 16 : Nat) : Int), 0, 0, 0, 0, 0, false, false, 0, [], ()), 0, ()), ()) else some ((nopk, 5, ()), ()))
  else if shv (f % 16) = 5 then (if rest.length < 2 ∨ 1026 < rest.length then some ((nopk, 5, ()), ()) else
    bnd (ckcheck_D m (nI rest)) fun y => if y.1.2.1 = 0 then some (((((f % 16 : Nat) : Int), 0, 0, 0, 0, 0, false, false, 0, y.1.1, ()), 0, ()), ()) else some ((nopk, y.1.2), ()))
  else bnd (if shv (f % 16) = 2 then ckfT_D m ((f % 16 : Nat) : Int) 0 0 0 0 0 false false 0 (nI rest) else if shv (f % 16) = 3 then ckfF_D m ((f % 16 : Nat) : Int) 0 0 0 0 0 false false 0 (nI rest) else ckfS_D m ((f % 16 : Nat) : Int) 0 0 0 0 0 false false 0 (nI rest)) fun y =>
    if y.1 = 0 then some (((y.2.1.1, y.2.1.2.1, y.2.1.2.2.1, y.2.1.2.2.2.1, y.2.1.2.2.2.2.1, y.2.1.2.2.2.2.2.1, y.2.1.2.2.2.2.2.2.1, y.2.1.2.2.2.2.2.2.2.1, y.2.1.2.2.2.2.2.2.2.2.1, [], ()), 0, ()), ()) else some ((nopk, y.1, ()), ())
theorem bif_if {α : Type} (p : Prop) [Decidable p] (a b : α) : (bif decide p then a else b) = if p then a else b := by by_cases h : p <;> simp [h]
theorem bif_ifn {α : Type} (p : Prop) [Decidable p] (a b : α) : (bif !decide p then a else b) = if p then b else a := by by_cases h : p <;> simp [h]
theorem shv_le (p : Nat) : shv p ≤ 5 := by unfold shv; (repeat' split) <;> omega
theorem decode_eq (m f : Nat) (hf : f < 256) (rest : List Nat) : decode_D m (nI (f :: rest)) = if good f = true then decB m f rest else some ((nopk, 4, ()), ()) := by
  have hp : f % 16 < 16 := Nat.mod_lt _ (by omega)
  have hle := shv_le (f % 16)
  unfold decode_D
  simp only [nI_cons, List.length_cons, nI_len, List.getD_cons_zero, t0, t1, zl, zb, za1, z5', Bool.and_self, cond_true, cond_false, and8_15 f hf, shape_eq m _ hp, bnd_some, List.drop_succ_cons, List.drop_zero]
  rw [← nI_cons, decJ0_eq m f hf]
  cases hg : good f with
  | false => rfl
  | true =>
    have h0 : shv (f % 16) ≠ 0 := by
      unfold good at hg
      simp only [Bool.and_eq_true, decide_eq_true_eq] at hg
      exact hg.1
    simp only [Bool.not_true, cond_false, if_true]
    unfold decB
    generalize shv (f % 16) = s at *
    have e1 : decide ((s : Int) = 1) = decide (s = 1) := decide_eq_decide.2 (by omega)
    have e5 : decide ((s : Int) = 5) = decide (s = 5) := decide_eq_decide.2 (by omega)
    have e2 : decide ((s : Int) = 2) = decide (s = 2) := decide_eq_decide.2 (by omega)
    have e3 : decide ((s : Int) = 3) = decide (s = 3) := decide_eq_decide.2 (by omega)
    have e4 : decide ((s : Int) = 4) = decide (s = 4) := decide_eq_decide.2 (by omega)
    simp only [e1, e5, e2, e3, e4]
    by_cases h1 : s = 1
    · subst h1
      simp only [decide_true, cond_true, if_true]
      cases rest with
      | nil => rfl
      | cons a l => rw [dT (by simp only [List.length_cons]; omega), cond_true, if_neg (by simp)]
    · rw [dF h1, cond_false, if_neg h1]
      by_cases h5 : s = 5
      · subst h5
        simp only [decide_true, cond_true, if_true]
        by_cases ha : rest.length < 2
        · rw [dT (show (rest.length : Int) < 2 by omega), cond_true, if_pos (.inl ha)]
        · rw [dF (show ¬ (rest.length : Int) < 2 by omega), cond_false]
          by_cases hb : 1026 < rest.length
          · rw [dT (show (1026 : Int) < (rest.length : Int) by omega), cond_true, if_pos (.inr hb)]
          · rw [dF (show ¬ (1026 : Int) < (rest.length : Int) by omega), cond_false, if_neg (by omega)]
            simp only [bif_ifn]
      · rw [dF h5, cond_false, if_neg h5]
        by_cases h2 : s = 2
        · subst h2
          simp only [decide_true, cond_true, if_true, bif_ifn]
        · rw [dF h2, cond_false, if_neg h2]
          by_cases h3 : s = 3
          · subst h3
            simp only [decide_true, cond_true, if_true, bif_ifn]
          · rw [dF h3, cond_false, if_neg h3, dT (show s = 4 by omega), cond_true]
            simp only [bif_ifn]
end Go.Proofs.YtpdbekbobkjfgaaDoor
