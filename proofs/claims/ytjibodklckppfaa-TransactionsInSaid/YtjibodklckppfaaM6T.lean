/-
  The examples of the chapter hold (law 06): the closed function lives() answers true.
  Conditions: none.
-/
import Derived.Test.YtjibodklckppfaaM6D
namespace Go.Proofs.Ytjibodklckppfaa
set_option linter.unusedVariables false
set_option maxRecDepth 100000

def lives6_tab2 (m : Nat) : List (FuncId × Ent) := [(121, .con (cloneB_con m)), (108, .con (cloneF_con m)), (36, .con (do6x0_con m)), (36, .con (do6x1_con m)), (36, .con (do6x2_con m)), (36, .con (do6x3_con m)), (36, .con (do6x4_con m)), (36, .con (do6x5_con m))]
theorem lives6_tab2ok (m : Nat) : CallOk Try.prog (tabK Try.prog flL6 300 (lives6_tab2 m) 20) := tabK_ok ty_mixed (tabok_con (cloneB_ok m) (tabok_con (cloneF_ok m) (tabok_con (do6x0_ok m) (tabok_con (do6x1_ok m) (tabok_con (do6x2_ok m) (tabok_con (do6x3_ok m) (tabok_con (do6x4_ok m) (tabok_con (do6x5_ok m) tabok_nil)))))))) 20
def lives6_D (m : Nat) : Option (Bool × Unit) := some (true, ())
def lives6_con (m : Nat) : Con := ⟨_, _, _, vnil, bnil, 0, fun _ => rfl, rfz 0 (shp .b) bnil, fun x b => lives6_D m⟩
theorem lives6_ok (m : Nat) : ConOk Try.prog 39 (lives6_con m) :=
  con_ok ty_mixed (lives6_tab2ok m) (fl := flL6) (N := 300) (t := .leaf) (tree_of trivial) (fun x b => by kernel_rfl)
end Go.Proofs.Ytjibodklckppfaa

