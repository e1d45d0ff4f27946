/-
  The statement FramesNew: the plain law.
  Conditions: none.
-/
import Derived.Test.YtdigcibkfnolnaaDoorE11
import Derived.Test.YtdigcibkfnolnaaDoorPM
namespace Go.Proofs.YtdigcibkfnolnaaDoor
set_option linter.unusedVariables false
set_option linter.unusedSimpArgs false
set_option maxRecDepth 100000

theorem newF_true (m : Nat) (s : Int) (l : List (Int × Int × Int × Bool × Bool × Int × List Int × Unit)) : newF_D m s l = some (true, ()) := by
  unfold newF_D
  by_cases hl : (20 : Int) < (l.length : Int)
  · rw [decide_eq_true hl]; rfl
  rw [decide_eq_false hl]
  simp only [cond_false]
  by_cases h2 : s = 2
  · subst h2; rfl
  by_cases h1 : s = 1
  · subst h1; rfl
  unfold newF_J0 newF_J1 newF_J4
  rw [decide_eq_false h1, decide_eq_false h2]
  rfl
end Go.Proofs.YtdigcibkfnolnaaDoor

