/-
  The examples of the chapter hold (law 11): the closed function lives() answers true.
  Conditions: none.
-/
import Derived.Test.YtdigcibkfnolnaaDoorElD
namespace Go.Proofs.YtdigcibkfnolnaaDoor
set_option linter.unusedVariables false
set_option maxRecDepth 100000

def lives11_tab2 (m : Nat) : List (FuncId × Ent) := [(38, .con (cloneB_con m)), (7, .con (do11x0_con m)), (18, .con (do11x1_con m)), (7, .con (do11x2_con m)), (18, .con (do11x3_con m)), (7, .con (do11x4_con m))]
theorem lives11_tab2ok (m : Nat) : CallOk Tryd.prog (tabK Tryd.prog flE 300 (lives11_tab2 m) 20) := tabK_ok ty_mixed (tabok_con (cloneB_ok m) (tabok_con (do11x0_ok m) (tabok_con (do11x1_ok m) (tabok_con (do11x2_ok m) (tabok_con (do11x3_ok m) (tabok_con (do11x4_ok m) tabok_nil)))))) 20
def lives11_D (m : Nat) : Option (Bool × Unit) := some (true, ())
def lives11_con (m : Nat) : Con := ⟨_, _, _, vnil, bnil, 0, fun _ => rfl, rfz 0 (shp .b) bnil, fun x b => lives11_D m⟩
theorem lives11_ok (m : Nat) : ConOk Tryd.prog 11 (lives11_con m) :=
  con_ok ty_mixed (lives11_tab2ok m) (fl := flE) (N := 300) (t := .leaf) (tree_of trivial) (fun x b => by kernel_rfl)
end Go.Proofs.YtdigcibkfnolnaaDoor

