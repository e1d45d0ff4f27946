/-
  Closed calls of the examples (law 08), gathered.
  Conditions: none.
-/
import Derived.Test.YtjibodklckppfaaM8D0
import Derived.Test.YtjibodklckppfaaM8D1
import Derived.Test.YtjibodklckppfaaM8D2
namespace Go.Proofs.Ytjibodklckppfaa
set_option linter.unusedVariables false
set_option maxRecDepth 100000

def lives8_tab2 (m : Nat) : List (FuncId × Ent) := [(121, .con (cloneB_con m)), (36, .con (do80x0_con m)), (36, .con (do80x1_con m)), (36, .con (do80x2_con m)), (36, .con (do80x3_con m)), (36, .con (do80x4_con m)), (36, .con (do81x0_con m)), (36, .con (do81x1_con m)), (36, .con (do81x2_con m)), (36, .con (do81x3_con m)), (36, .con (do81x4_con m)), (36, .con (do82x0_con m)), (36, .con (do82x1_con m)), (36, .con (do82x2_con m)), (36, .con (do82x3_con m)), (36, .con (do82x4_con m))]
theorem lives8_tab2ok (m : Nat) : CallOk Try.prog (tabK Try.prog flL 300 (lives8_tab2 m) 20) := tabK_ok ty_mixed (tabok_con (cloneB_ok m) (tabok_con (do80x0_ok m) (tabok_con (do80x1_ok m) (tabok_con (do80x2_ok m) (tabok_con (do80x3_ok m) (tabok_con (do80x4_ok m) (tabok_con (do81x0_ok m) (tabok_con (do81x1_ok m) (tabok_con (do81x2_ok m) (tabok_con (do81x3_ok m) (tabok_con (do81x4_ok m) (tabok_con (do82x0_ok m) (tabok_con (do82x1_ok m) (tabok_con (do82x2_ok m) (tabok_con (do82x3_ok m) (tabok_con (do82x4_ok m) tabok_nil)))))))))))))))) 20
end Go.Proofs.Ytjibodklckppfaa

