/-
  How the closed run of lives() (law 08) is walked.
  Conditions: none.
-/
import Derived.Test.YtjibodklckppfaaM8C
namespace Go.Proofs.Ytjibodklckppfaa
set_option linter.unusedVariables false
set_option maxRecDepth 100000

def flL : FuncId → Bool := fun f => [1000000 + 14, 1000000 + 15, 1000000 + 17].contains f || flT f
def lives8_tab (m : Nat) : List (FuncId × Ent) := [(121, .con (cloneB_con m))]
theorem lives8_tabok (m : Nat) : CallOk Try.prog (tabK Try.prog flL 300 (lives8_tab m) 20) := tabK_ok ty_mixed (tabok_con (cloneB_ok m) tabok_nil) 20
end Go.Proofs.Ytjibodklckppfaa

