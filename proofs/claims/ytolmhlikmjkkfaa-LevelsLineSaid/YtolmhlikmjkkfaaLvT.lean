/-
  Layer 1: the examples of the chapter, reckoned out.
  Conditions: none.
-/
import Derived.Test.YtolmhlikmjkkfaaAMTy
import Derived.Test.YtolmhlikmjkkfaaAM22
namespace Go.Proofs.Ytolmhlikmjkkfaa
open Go.RowKit
set_option linter.unusedVariables false

theorem lives01 : AFun Try.prog 28 [] (.v (.bool true)) := boolX_sound (n := 1000) ty_mixed tab_nil (by kernel_rfl)
def lives_F (us : List AV) : Option (AV × List Blk) := match us with
  | [] => some (.d (.v (.bool true)), [])
  | _ => none
theorem lives_t : TellOk Try.prog 28 lives_F := by
  intro us R BS h
  unfold lives_F at h
  split at h
  · simp only [Option.some.injEq, Prod.mk.injEq] at h
    obtain ⟨rfl, rfl⟩ := h
    exact lives01
  · cases h
attribute [push_cast] lives_F

end Go.Proofs.Ytolmhlikmjkkfaa
