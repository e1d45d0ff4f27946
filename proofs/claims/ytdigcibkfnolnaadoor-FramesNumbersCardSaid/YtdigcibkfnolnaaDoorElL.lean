/-
  How the closed run of lives() (law 11) is walked.
  Conditions: none.
-/
import Derived.Test.YtdigcibkfnolnaaDoorElC
namespace Go.Proofs.YtdigcibkfnolnaaDoor
set_option linter.unusedVariables false
set_option maxRecDepth 100000

def flE : FuncId → Bool := fun f => [13000000 + 14, 1000000 + 7].contains f || flT f
def lives11_tab (m : Nat) : List (FuncId × Ent) := [(38, .con (cloneB_con m))]
theorem lives11_tabok (m : Nat) : CallOk Tryd.prog (tabK Tryd.prog flE 300 (lives11_tab m) 20) := tabK_ok ty_mixed (tabok_con (cloneB_ok m) tabok_nil) 20
end Go.Proofs.YtdigcibkfnolnaaDoor

