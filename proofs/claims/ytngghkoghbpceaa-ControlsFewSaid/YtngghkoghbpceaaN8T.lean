/-
  Closed calls of the examples (law 08), gathered; the examples of the chapter hold.
  Conditions: none.
-/
import Derived.Test.YtngghkoghbpceaaN8D0
import Derived.Test.YtngghkoghbpceaaN8D1
import Derived.Test.YtngghkoghbpceaaN8D2
namespace Go.Proofs.Ytngghkoghbpceaa
set_option linter.unusedVariables false
set_option maxRecDepth 100000
def lives8_tab2(m:Nat):List (FuncId×Ent):= [(89,.con (cloneB_con m)),(13,.con (do80x0_con m)),(13,.con (do80x1_con m)),(13,.con (do80x2_con m)),(13,.con (do80x3_con m)),(13,.con (do80x4_con m)),(13,.con (do81x0_con m)),(13,.con (do81x1_con m)),(13,.con (do81x2_con m)),(13,.con (do81x3_con m)),(13,.con (do81x4_con m)),(13,.con (do82x0_con m)),(13,.con (do82x1_con m)),(13,.con (do82x2_con m)),(13,.con (do82x3_con m)),(13,.con (do82x4_con m))]
theorem lives8_tab2ok(m:Nat):CallOk Try.prog (tabK Try.prog fl8L 300 (lives8_tab2 m) 20):=tabK_ok tyx (tbc (cloneB_ok m) (tbc (do80x0_ok m) (tbc (do80x1_ok m) (tbc (do80x2_ok m) (tbc (do80x3_ok m) (tbc (do80x4_ok m) (tbc (do81x0_ok m) (tbc (do81x1_ok m) (tbc (do81x2_ok m) (tbc (do81x3_ok m) (tbc (do81x4_ok m) (tbc (do82x0_ok m) (tbc (do82x1_ok m) (tbc (do82x2_ok m) (tbc (do82x3_ok m) (tbc (do82x4_ok m) tbn)))))))))))))))) 20
def lives8_D(m:Nat):Option (Bool×Unit):=some (true,())
def lives8_con(m:Nat):Con:=⟨_,_,_,vnil,bnil,0,fun _=>rfl,rfz 0 (shp .b) bnil,fun x b=>lives8_D m⟩
theorem lives8_ok(m:Nat):ConOk Try.prog 32 (lives8_con m):=
 con_ok tyx (lives8_tab2ok m) (fl:=fl8L) (N:=300) (t:= .leaf) (trO trivial) (fun x b=>by kernel_rfl)
end Go.Proofs.Ytngghkoghbpceaa
