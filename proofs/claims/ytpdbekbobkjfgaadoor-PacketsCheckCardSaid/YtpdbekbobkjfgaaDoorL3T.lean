/-
  The examples of the chapter hold (law 03): the closed function lives() answers true.
  Conditions: none.
-/
import Derived.Test.YtpdbekbobkjfgaaDoorTrB
import Derived.Test.YtpdbekbobkjfgaaDoorKC3
import Derived.Test.YtpdbekbobkjfgaaDoorKG
import Derived.Test.YtpdbekbobkjfgaaDoorFnPd
namespace Go.Proofs.YtpdbekbobkjfgaaDoor
set_option linter.unusedVariables false
set_option maxRecDepth 100000

theorem lives03 : AFun Tryd.prog 13 [] (.v (.bool true)) := boolY_sound (n := 200) ty_mixed (tab_cons cloneB_t tab_nil) (by kernel_rfl)
def lives3_D (m : Nat) : Option (Bool × Unit) := some (true, ())
def lives3_con (m : Nat) : Con := ⟨_, _, _, vnil, bnil, 0, fun _ => rfl, rfz 0 (shp .b) bnil, fun x b => lives3_D m⟩
theorem lives3_ok (m : Nat) : ConOk Tryd.prog 13 (lives3_con m) := con_bool0 lives03
end Go.Proofs.YtpdbekbobkjfgaaDoor

