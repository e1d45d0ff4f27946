/-
  The examples of the chapter hold (law 08): the closed function lives() answers true.
  Conditions: none.
-/
import Derived.Test.YtjibodklckppfaaM8E
namespace Go.Proofs.Ytjibodklckppfaa
set_option linter.unusedVariables false
set_option maxRecDepth 100000

def lives8_D (m : Nat) : Option (Bool × Unit) := some (true, ())
def lives8_con (m : Nat) : Con := ⟨_, _, _, vnil, bnil, 0, fun _ => rfl, rfz 0 (shp .b) bnil, fun x b => lives8_D m⟩
theorem lives8_ok (m : Nat) : ConOk Try.prog 19 (lives8_con m) :=
  con_ok ty_mixed (lives8_tab2ok m) (fl := flL) (N := 300) (t := .leaf) (tree_of trivial) (fun x b => by kernel_rfl)
end Go.Proofs.Ytjibodklckppfaa

