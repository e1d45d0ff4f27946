/-
  Layer 6: the examples of the chapter, reckoned out.
  Conditions: none.
-/
import Derived.Test.YtpdbekbobkjfgaaTrWi
namespace Go.Proofs.Ytpdbekbobkjfgaa
open Go.RowKit
set_option linter.unusedVariables false

theorem lives06 : AFun Try.prog 21 [] (.v (.bool true)) := boolX_sound (n := 40) ty_mixed trWi_ok (by kernel_rfl)
def lives6_F (us : List AV) : Option (AV × List Blk) := match us with
  | [] => some (.d (.v (.bool true)), [])
  | _ => none
attribute [push_cast] lives6_F

end Go.Proofs.Ytpdbekbobkjfgaa

