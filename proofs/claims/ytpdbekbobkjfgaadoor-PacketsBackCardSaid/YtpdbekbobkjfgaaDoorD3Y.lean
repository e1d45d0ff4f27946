/-
  The statement PacketsBack: plain laws.
  Conditions: none.
-/
import Derived.Test.YtpdbekbobkjfgaaDoorD3b
import Derived.Test.YtpdbekbobkjfgaaDoorD3X
namespace Go.Proofs.YtpdbekbobkjfgaaDoor
set_option linter.unusedVariables false
set_option linter.unusedSimpArgs false
set_option maxRecDepth 100000
set_option maxHeartbeats 2000000

theorem backL_L0_eq (m : Nat) (b : List Int) (was : ByteArray) (P : Pkt) (y0 y1 y2 y3 y4 y5 : Int) (y6 y7 : Bool) (y8 : Int) : ∀ (f i : Nat) (d : List Int), d.length ≤ 1000000 → i ≤ d.length → d.length - i < f →
    backL_L0 m f b was (i : Int) P y0 y1 y2 y3 y4 y5 y6 y7 y8 d = some ((b, (was, ())), (P, ())) := by
  intro f
  induction f with
  | zero => intro i d _ _ h; omega
  | succ f ih =>
    intro i d hd hi hf
    rw [backL_L0]
    by_cases hlt : i < d.length
    · rw [dT (show (i : Int) < (d.length : Int) by omega), cond_true, inT (by omega) (by omega), cond_true, Int.toNat_natCast, dT hlt, cond_true, cond_true, cond_true, wi64 (by omega) (by omega), show ((i : Int) + 1) = ((i + 1 : Nat) : Int) by omega]
      exact ih (i + 1) _ (by rw [List.length_set]; exact hd) (by rw [List.length_set]; omega) (by rw [List.length_set]; omega)
    · rw [dF (by omega), cond_false]
/-- Law 03's packet of five kinds. -/
theorem tm11 (k : Nat) (h : k < 256) : Int.tmod (Go.IntKind.wrap .i64 (k : Int)) 11 = ((k % 11 : Nat) : Int) := by
  rw [wi64 (by omega) (by omega), Int.tmod_eq_emod_of_nonneg (by omega)]; rfl
theorem decOJ0_eq {R : Type} (m f : Nat) (hf : f < 256) (rest : List Nat) (x46 x47 x48 x49 x50 x51 : Int) (x52 x53 : Bool) (x54 x56 x57 x58 x59 x60 : Int) (x61 x62 : Bool) (x63 : Int) (x64 : List Int) (K : Bool → Option R) :
    decodeO_J0 m (nI (f :: rest)) ((shv (f % 16) : Nat) : Int) x46 x47 x48 x49 x50 x51 x52 x53 x54 ((f % 16 : Nat) : Int) x56 x57 x58 x59 x60 x61 x62 x63 x64 K = K (!good f) := by
  have hp : f % 16 < 16 := Nat.mod_lt _ (by omega)
  unfold decodeO_J0
  simp only [nI_cons, List.length_cons, nI_len, List.getD_cons_zero, t0, zb, cond_true, first_eq m _ hp, bnd_some, dcast]
  unfold good
  by_cases h : shv (f % 16) = 0
  · rw [h]; rfl
  · rw [dF (show ¬ ((shv (f % 16) : Nat) : Int) = 0 by omega), cond_false, dT h, Bool.true_and]
abbrev NT : Type := Int × Int × Int × Int × Int × Int × Bool × Bool × Int × Unit
abbrev non9 : NT := (0, 0, 0, 0, 0, 0, false, false, 0, ())
def decOB (m f : Nat) (rest : List Nat) : Option (((NT × Int × Unit) × List Int × Unit) ⊕ ((NT × Int × Unit) × Unit)) :=
  if shv (f % 16) = 1 then (if rest = [] then some (.inr (((((f % 16 : Nat) : Int), 0, 0, 0, 0, 0, false, false, 0, ()), 0, ()), ())) else some (.inr ((non9, 5, ()), ())))
  else if shv (f % 16) = 5 then (if rest.length < 2 ∨ 1026 < rest.length then some (.inr ((non9, 5, ()), ())) else
    bnd (ckcheckO_D m (nI rest)) fun y => sumK y (fun a => if a.1.1 = 0 then some (.inl (((((f % 16 : Nat) : Int), 0, 0, 0, 0, 0, false, false, 0, ()), 0, ()), a.2)) else some (.inr ((non9, a.1), ())))
      (fun b => if b.1.1 = 0 then some (.inr (((((f % 16 : Nat) : Int), 0, 0, 0, 0, 0, false, false, 0, ()), 0, ()), ())) else some (.inr ((non9, b.1), ()))))
  else bnd (if shv (f % 16) = 2 then ckfT_D m ((f % 16 : Nat) : Int) 0 0 0 0 0 false false 0 (nI rest) else if shv (f % 16) = 3 then ckfF_D m ((f % 16 : Nat) : Int) 0 0 0 0 0 false false 0 (nI rest) else ckfS_D m ((f % 16 : Nat) : Int) 0 0 0 0 0 false false 0 (nI rest)) fun y =>
    if y.1 = 0 then some (.inr (((y.2.1.1, y.2.1.2.1, y.2.1.2.2.1, y.2.1.2.2.2.1, y.2.1.2.2.2.2.1, y.2.1.2.2.2.2.2.1, y.2.1.2.2.2.2.2.2.1, y.2.1.2.2.2.2.2.2.2.1, y.2.1.2.2.2.2.2.2.2.2.1, ()), 0, ()), ())) else some (.inr ((non9, y.1, ()), ()))
theorem decodeO_eq (m f : Nat) (hf : f < 256) (rest : List Nat) : decodeO_D m (nI (f :: rest)) = if good f = true then decOB m f rest else some (.inr ((non9, 4, ()), ())) := by
  have hp : f % 16 < 16 := Nat.mod_lt _ (by omega)
  have hle := shv_le (f % 16)
  unfold decodeO_D
  simp only [nI_cons, List.length_cons, nI_len, List.getD_cons_zero, t0, t1, zl, zb, za1, z5', Bool.and_self, cond_true, cond_false, and8_15 f hf, shape_eq m _ hp, bnd_some, List.drop_succ_cons, List.drop_zero]
  rw [← nI_cons, decOJ0_eq m f hf]
  cases hg : good f with
  | false => rfl
  | true =>
    have h0 : shv (f % 16) ≠ 0 := by
      unfold good at hg
      simp only [Bool.and_eq_true, decide_eq_true_eq] at hg
      exact hg.1
    simp only [Bool.not_true, cond_false, if_true]
    unfold decOB
    generalize shv (f % 16) = s at *
    have e1 : decide ((s : Int) = 1) = decide (s = 1) := decide_eq_decide.2 (by omega)
    have e5 : decide ((s : Int) = 5) = decide (s = 5) := decide_eq_decide.2 (by omega)
    have e2 : decide ((s : Int) = 2) = decide (s = 2) := decide_eq_decide.2 (by omega)
    have e3 : decide ((s : Int) = 3) = decide (s = 3) := decide_eq_decide.2 (by omega)
    have e4 : decide ((s : Int) = 4) = decide (s = 4) := decide_eq_decide.2 (by omega)
    simp only [e1, e5, e2, e3, e4]
    by_cases h1 : s = 1
    · subst h1
      simp only [decide_true, cond_true, if_true]
      cases rest with
      | nil => rfl
      | cons a l => rw [dT (by simp only [List.length_cons]; omega), cond_true, if_neg (by simp)]
    · rw [dF h1, cond_false, if_neg h1]
      by_cases h5 : s = 5
      · subst h5
        simp only [decide_true, cond_true, if_true]
        by_cases ha : rest.length < 2
        · rw [dT (show (rest.length : Int) < 2 by omega), cond_true, if_pos (.inl ha)]
        · rw [dF (show ¬ (rest.length : Int) < 2 by omega), cond_false]
          by_cases hb : 1026 < rest.length
          · rw [dT (show (1026 : Int) < (rest.length : Int) by omega), cond_true, if_pos (.inr hb)]
          · rw [dF (show ¬ (1026 : Int) < (rest.length : Int) by omega), cond_false, if_neg (by omega)]
            simp only [bif_ifn]
      · rw [dF h5, cond_false, if_neg h5]
        by_cases h2 : s = 2
        · subst h2
          simp only [decide_true, cond_true, if_true, bif_ifn]
        · rw [dF h2, cond_false, if_neg h2]
          by_cases h3 : s = 3
          · subst h3
            simp only [decide_true, cond_true, if_true, bif_ifn]
          · rw [dF h3, cond_false, if_neg h3, dT (show s = 4 by omega), cond_true]
            simp only [bif_ifn]
theorem ckcheckO_eq (m : Nat) (l : List Nat) (hl : ∀ x ∈ l, x < 256) (h2 : 2 ≤ l.length) (hn : l.length ≤ 2000) (hm : 2000 < m) :
    ckcheckO_D m (nI l) = if Chk.sixteen (l.take (l.length - 2)) = l.getD (l.length - 2) 0 + 256 * l.getD (l.length - 1) 0 then some (.inl ((0, ()), nI (l.take (l.length - 2)), ())) else some (.inr ((10, ()), ())) := by
  have ht : ∀ x ∈ l.take (l.length - 2), x < 256 := fun x hx => hl x (List.mem_of_mem_take hx)
  have hw : Go.IntKind.wrap .i64 ((l.length : Int) - 2) = ((l.length - 2 : Nat) : Int) := by rw [wi64 (by omega) (by omega)]; omega
  have hw1 : Go.IntKind.wrap .i64 (((l.length - 2 : Nat) : Int) + 1) = ((l.length - 1 : Nat) : Int) := by rw [wi64 (by omega) (by omega)]; omega
  have hs := sixteen_eq m (l.take (l.length - 2)) ht (by simp; omega) (by simp; omega)
  unfold ckcheckO_D
  simp only [nI_len, hw, hw1, Int.toNat_natCast, nI_take, nI_get, hs, bnd_some, pq8, or16b _ _ (byte_at hl _) (byte_at hl _)]
  rw [dF (by omega), cond_false, dT (by omega), dT (show l.length - 2 ≤ l.length by omega), Bool.and_self, cond_true, inT (by omega) (by omega), cond_true, inT (by omega) (by omega), cond_true, cloneB_eq m _ (by rw [nI_len]; simp; omega), bnd_some]
  simp only [nI_len, dT (show (0 : Int) ≤ ((l.take (l.length - 2)).length : Int) by omega), dT (Int.le_refl _), Int.toNat_natCast, dT (Nat.le_refl _), Bool.and_self, cond_true, nI_take, List.take_length, bif_ifn]
  by_cases h : Chk.sixteen (l.take (l.length - 2)) = l.getD (l.length - 2) 0 + 256 * l.getD (l.length - 1) 0
  · rw [if_pos h, if_pos (by omega)]
  · rw [if_neg h, if_neg (by omega)]
end Go.Proofs.YtpdbekbobkjfgaaDoor

