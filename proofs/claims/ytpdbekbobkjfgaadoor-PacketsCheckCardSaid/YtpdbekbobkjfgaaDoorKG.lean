/-
  Contracts that are proved by hand, as contracts of the walks by the kernel.
  Conditions: none.
-/
import Derived.Test.YtpdbekbobkjfgaaDoorKF
namespace Go.Proofs.YtpdbekbobkjfgaaDoor
open Go.RowKit
set_option linter.unusedVariables false

theorem con_bool0 {P : Program} {f : FuncId} (h : AFun P f [] (.v (.bool true))) : ConOk P f ⟨_, _, _, vnil, bnil, 0, fun _ => rfl, rfz 0 (shp .b) bnil, fun _ _ => some (true, ())⟩ := by
  intro x b y hF R kk r hk
  simp only [Option.some.injEq] at hF
  subst hF
  refine ⟨_, _, ?_, ?_, hk⟩
  · simp [bnil]
  · exact h

end Go.Proofs.YtpdbekbobkjfgaaDoor

