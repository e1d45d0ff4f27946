/-
  The statement PacketsBack: Encode.
  Conditions: none.
-/
import Derived.Test.YtpdbekbobkjfgaaDoorD3C
import Derived.Test.YtpdbekbobkjfgaaDoorD3W
namespace Go.Proofs.YtpdbekbobkjfgaaDoor
set_option linter.unusedVariables false
set_option linter.unusedSimpArgs false
set_option maxRecDepth 100000
set_option maxHeartbeats 2000000

theorem pkOk0 (m p : Nat) (hp : p < 16) (hs : shv p ≠ 0) (A E F H P K : Int) (C L : Bool) (D : List Int) (h2 : shv p = 2 ∨ (A = 0 ∧ E = 0)) (hA0 : 0 ≤ A) (hA : A ≤ 127) (hE0 : 0 ≤ E) (hE : E ≤ 15) (h3 : shv p = 3 ∨ F = 0) (hF0 : 0 ≤ F) (hF : F ≤ 2047)
    (h4 : shv p = 4 ∨ (H = 0 ∧ P = 0 ∧ C = false ∧ L = false ∧ K = 0)) (hH0 : 0 ≤ H) (hH : H ≤ 127) (hP0 : 0 ≤ P) (hP : P ≤ 127) (hK0 : 0 ≤ K) (hK : K ≤ 3) (h5 : shv p = 5 ∨ D = []) (hD : D.length ≤ 1024) :
    pkCheck_D m ((p : Int), A, E, F, H, P, C, L, K, D, ()) = some (0, ()) := by
  rw [chk_same m _ A E F H P K C L D hA0 (by omega) hE0 (by omega) hF0 (by omega) hH0 (by omega) hP0 (by omega) hK0 (by omega)]
  exact rfCheck_ok0 m p hp hs A E F H P K C L D h2 hA hE h3 hF h4 hH hP hK h5 hD
theorem mk0 (c : Int) (h0 : 0 ≤ c) (h : c ≤ 1000000) : makeOb 1 0 c true = true := by
  unfold makeOb
  simp [maxLen]
  omega
end Go.Proofs.YtpdbekbobkjfgaaDoor

