/-
  How the closed run of lives() (law 06) is walked.
  Conditions: none.
-/
import Derived.Test.YtjibodklckppfaaM6C
namespace Go.Proofs.Ytjibodklckppfaa
set_option linter.unusedVariables false
set_option maxRecDepth 100000

def flL6 : FuncId → Bool := fun f => [1000000 + 36].contains f || flT f
def lives6_tab (m : Nat) : List (FuncId × Ent) := [(121, .con (cloneB_con m)), (108, .con (cloneF_con m))]
theorem lives6_tabok (m : Nat) : CallOk Try.prog (tabK Try.prog flL6 300 (lives6_tab m) 20) := tabK_ok ty_mixed (tabok_con (cloneB_ok m) (tabok_con (cloneF_ok m) tabok_nil)) 20
end Go.Proofs.Ytjibodklckppfaa

