/-
  How the closed run of lives() (law 07) is walked.
  Conditions: none.
-/
import Derived.Test.YtngghkoghbpceaaDoorAMTy
import Derived.Test.YtngghkoghbpceaaDoorKG
import Derived.Test.YtngghkoghbpceaaDoorKL
namespace Go.Proofs.YtngghkoghbpceaaDoor
set_option linter.unusedVariables false
set_option maxRecDepth 100000
def flT:FuncId→Bool:=fun f=> [].contains f
def fl7:FuncId→Bool:=fun f=> [8000000+66,1000000+109,1000000+105,1000000+62].contains f||flT f
def lives7_tab(m:Nat):List (FuncId×Ent):= []
theorem lives7_tabok(m:Nat):CallOk Tryd.prog (tabK Tryd.prog fl7 300 (lives7_tab m) 20):=tabK_ok ty_mixed tabok_nil 20
end Go.Proofs.YtngghkoghbpceaaDoor
