/-
  The examples of the chapter hold (law 04), as a contract.
  Conditions: none.
-/
import Derived.Test.YtpdbekbobkjfgaaG4x
import Derived.Test.YtpdbekbobkjfgaaKG
namespace Go.Proofs.Ytpdbekbobkjfgaa
set_option linter.unusedVariables false
set_option maxRecDepth 100000

theorem lives04 : AFun Try.prog 11 [] (.v (.bool true)) := boolX_sound (n := 1000) ty_mixed tab_nil (by kernel_rfl)
def lives4_D (m : Nat) : Option (Bool × Unit) := some (true, ())
def lives4_con (m : Nat) : Con := ⟨_, _, _, vnil, bnil, 0, fun _ => rfl, rfz 0 (shp .b) bnil, fun x b => lives4_D m⟩
theorem lives4_ok (m : Nat) : ConOk Try.prog 11 (lives4_con m) := con_bool0 lives04
end Go.Proofs.Ytpdbekbobkjfgaa
