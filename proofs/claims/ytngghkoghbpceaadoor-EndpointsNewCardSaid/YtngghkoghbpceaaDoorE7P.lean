/-
  The statement EndpointsNew: the plain law.
  Conditions: none.
-/
import Derived.Test.YtngghkoghbpceaaDoorE7N
import Derived.Test.YtngghkoghbpceaaDoorPM
namespace Go.Proofs.YtngghkoghbpceaaDoor
set_option linter.unusedVariables false
set_option linter.unusedSimpArgs false
set_option maxRecDepth 100000

theorem newE_true (m : Nat) (c : Int × Bool × Int × Int × Unit) (n : Int) (hk : 0 ≤ c.2.2.1) : newE_D m c n = some (true, ()) := by
  obtain ⟨a, b, k, x, u⟩ := c
  obtain ⟨⟩ := u
  simp only at hk
  unfold newE_D newE_J0 newE_J1 newE_J3 newE_J2 newE_J4 cfg_D
  simp only
  by_cases h1 : a < 1
  · rw [decide_eq_true h1]; rfl
  by_cases h2 : 15 < a
  · rw [decide_eq_false h1, decide_eq_true h2]; rfl
  by_cases h3 : k = 0
  · subst h3; rw [decide_eq_false h1, decide_eq_false h2]; rfl
  by_cases h3' : k < 1
  · omega
  by_cases h4 : 3 < k
  · rw [decide_eq_false h1, decide_eq_false h2, decide_eq_false h3, decide_eq_false h3', decide_eq_true h4]; rfl
  by_cases h5 : x < 1
  · rw [decide_eq_false h1, decide_eq_false h2, decide_eq_false h3, decide_eq_false h3', decide_eq_false h4, decide_eq_true h5]; rfl
  by_cases h6 : 1024 < x
  · rw [decide_eq_false h1, decide_eq_false h2, decide_eq_false h3, decide_eq_false h3', decide_eq_false h4, decide_eq_false h5, decide_eq_true h6]; rfl
  have hx : ¬ x = 0 := by omega
  rw [decide_eq_false h1, decide_eq_false h2, decide_eq_false h3, decide_eq_false h3', decide_eq_false h4, decide_eq_false h5, decide_eq_false h6, decide_eq_false hx]
  cases b <;> rfl
end Go.Proofs.YtngghkoghbpceaaDoor

