/-
  How the closed run of lives() (law 08) is walked.
  Conditions: none.
-/
import Derived.Test.YtebmmecpcgnnkaaL8C
namespace Go.Proofs.Ytebmmecpcgnnkaa
set_option linter.unusedVariables false
set_option maxRecDepth 100000

def flL : FuncId → Bool := fun f => [1000025, 1000026, 1000028].contains f || flT f
def lives8_tab (m : Nat) : List (FuncId × Ent) := [(92, .con (cloneB_con m))]
theorem lives8_tabok (m : Nat) : CallOk Try.prog (tabK Try.prog flL 300 (lives8_tab m) 20) := tabK_ok ty_mixed (tabok_con (cloneB_ok m) tabok_nil) 20
end Go.Proofs.Ytebmmecpcgnnkaa
