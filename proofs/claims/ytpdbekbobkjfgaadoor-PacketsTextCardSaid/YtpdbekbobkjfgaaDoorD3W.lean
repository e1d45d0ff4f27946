/-
  The statement PacketsDecode: the law's plain function is true (3).
  Conditions: none.
-/
import Derived.Test.YtpdbekbobkjfgaaDoorD3V
namespace Go.Proofs.YtpdbekbobkjfgaaDoor
set_option linter.unusedVariables false
set_option linter.unusedSimpArgs false
set_option maxRecDepth 100000
set_option maxHeartbeats 2000000

theorem known_lit (m p : Nat) (h : p < 16) : known_D m (p : Int) = some (decide (shv p ≠ 0), ()) := by
  rcases lt16 h with rfl | rfl | rfl | rfl | rfl | rfl | rfl | rfl | rfl | rfl | rfl | rfl | rfl | rfl | rfl | rfl <;> rfl
theorem token_lit (m p : Nat) (h : p < 16) : token3_D m (p : Int) = some (decide (shv p = 2), ()) := by
  rcases lt16 h with rfl | rfl | rfl | rfl | rfl | rfl | rfl | rfl | rfl | rfl | rfl | rfl | rfl | rfl | rfl | rfl <;> rfl
theorem hasData_lit (m p : Nat) (h : p < 16) : hasData_D m (p : Int) = some (decide (shv p = 5), ()) := by
  rcases lt16 h with rfl | rfl | rfl | rfl | rfl | rfl | rfl | rfl | rfl | rfl | rfl | rfl | rfl | rfl | rfl | rfl <;> rfl
theorem is5 (p : Nat) (h : p < 16) : decide ((p : Int) = 5) = decide (shv p = 3) := by
  rcases lt16 h with rfl | rfl | rfl | rfl | rfl | rfl | rfl | rfl | rfl | rfl | rfl | rfl | rfl | rfl | rfl | rfl <;> rfl
theorem is8 (p : Nat) (h : p < 16) : decide ((p : Int) = 8) = decide (shv p = 4) := by
  rcases lt16 h with rfl | rfl | rfl | rfl | rfl | rfl | rfl | rfl | rfl | rfl | rfl | rfl | rfl | rfl | rfl | rfl <;> rfl
theorem rfCheck_ok0 (m p : Nat) (hp : p < 16) (hs : shv p ≠ 0) (A E F H P K : Int) (C L : Bool) (D : List Int) (h2 : shv p = 2 ∨ (A = 0 ∧ E = 0)) (hA : A ≤ 127) (hE : E ≤ 15) (h3 : shv p = 3 ∨ F = 0) (hF : F ≤ 2047)
    (h4 : shv p = 4 ∨ (H = 0 ∧ P = 0 ∧ C = false ∧ L = false ∧ K = 0)) (hH : H ≤ 127) (hP : P ≤ 127) (hK : K ≤ 3) (h5 : shv p = 5 ∨ D = []) (hD : D.length ≤ 1024) :
    rfCheck_D m ((p : Int), A, E, F, H, P, C, L, K, D, ()) = some (0, ()) := by
  unfold rfCheck_D
  rw [known_lit m p hp, bnd_some, dT hs, Bool.not_true, cond_false]
  unfold rfCheck_J0
  have k1 : decide ((127 : Int) < A) = false := dF (by omega)
  have k2 : decide ((15 : Int) < E) = false := dF (by omega)
  have k3 : decide ((2047 : Int) < F) = false := dF (by omega)
  have k4 : decide ((127 : Int) < H) = false := dF (by omega)
  have k5 : decide ((127 : Int) < P) = false := dF (by omega)
  have k6 : decide ((3 : Int) < K) = false := dF (by omega)
  have k7 : decide ((1024 : Int) < (D.length : Int)) = false := dF (by omega)
  simp only [token_lit m p hp, bnd_some, k1, k2, k3, cond_false]
  have j3 : ∀ (R : Type) (k0 : Bool → Option R), rfCheck_J3 m ((p : Int), A, E, F, H, P, C, L, K, D, ()) k0 = k0 false := by
    intro R k0
    unfold rfCheck_J3
    simp only [hasData_lit m p hp, bnd_some]
    by_cases h : shv p = 5
    · rw [dT h]; rfl
    · rw [dF h]
      rcases h5 with h5 | rfl
      · exact absurd h5 h
      · rfl
  have j2 : ∀ (R : Type) (k0 : Bool → Option R), rfCheck_J2 m ((p : Int), A, E, F, H, P, C, L, K, D, ()) (H, P, C, L, K, ()) k0 = k0 false := by
    intro R k0
    unfold rfCheck_J2
    simp only [is8 p hp, k4, k5, k6, cond_false]
    by_cases h : shv p = 4
    · rw [dT h]; rfl
    · rw [dF h]
      rcases h4 with h4 | ⟨rfl, rfl, rfl, rfl, rfl⟩
      · exact absurd h4 h
      · rfl
  have j1 : ∀ (R : Type) (k0 : Bool → Option R), rfCheck_J1 m ((p : Int), A, E, F, H, P, C, L, K, D, ()) k0 = k0 false := by
    intro R k0
    unfold rfCheck_J1
    simp only [is5 p hp, k3]
    by_cases h : shv p = 3
    · rw [dT h]; rfl
    · rw [dF h]
      rcases h3 with h3 | rfl
      · exact absurd h3 h
      · rfl
  by_cases h : shv p = 2
  · rw [dT h]
    simp only [Bool.not_true, cond_false, j1, j2, j3, k7]
  · rw [dF h]
    rcases h2 with h2 | ⟨rfl, rfl⟩
    · exact absurd h2 h
    · simp only [Bool.not_false, cond_true, decide_true, Bool.not_true, cond_false, j1, j2, j3, k7]
end Go.Proofs.YtpdbekbobkjfgaaDoor

