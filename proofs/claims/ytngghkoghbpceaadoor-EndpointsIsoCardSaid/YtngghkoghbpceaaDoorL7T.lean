/-
  The examples of the chapter hold (law 07): the closed function lives() answers true.
  Conditions: none.
-/
import Derived.Test.YtngghkoghbpceaaDoorL7D
namespace Go.Proofs.YtngghkoghbpceaaDoor
set_option linter.unusedVariables false
set_option maxRecDepth 100000
def lives7_tab2(m:Nat):List (FuncId×Ent):= [(28,.con (do7x0_con m)),(66,.con (do7x1_con m)),(66,.con (do7x2_con m)),(66,.con (do7x3_con m)),(66,.con (do7x4_con m)),(66,.con (do7x5_con m)),(66,.con (do7x6_con m)),(66,.con (do7x7_con m)),(66,.con (do7x8_con m)),(66,.con (do7x9_con m)),(66,.con (do7x10_con m)),(66,.con (do7x11_con m)),(66,.con (do7x12_con m)),(66,.con (do7x13_con m)),(66,.con (do7x14_con m)),(66,.con (do7x15_con m)),(66,.con (do7x16_con m)),(66,.con (do7x17_con m)),(66,.con (do7x18_con m)),(66,.con (do7x19_con m)),(66,.con (do7x20_con m)),(66,.con (do7x21_con m)),(66,.con (do7x22_con m))]
theorem lives7_tab2ok(m:Nat):CallOk Tryd.prog (tabK Tryd.prog fl7 300 (lives7_tab2 m) 20):=tabK_ok ty_mixed (tabok_con (do7x0_ok m) (tabok_con (do7x1_ok m) (tabok_con (do7x2_ok m) (tabok_con (do7x3_ok m) (tabok_con (do7x4_ok m) (tabok_con (do7x5_ok m) (tabok_con (do7x6_ok m) (tabok_con (do7x7_ok m) (tabok_con (do7x8_ok m) (tabok_con (do7x9_ok m) (tabok_con (do7x10_ok m) (tabok_con (do7x11_ok m) (tabok_con (do7x12_ok m) (tabok_con (do7x13_ok m) (tabok_con (do7x14_ok m) (tabok_con (do7x15_ok m) (tabok_con (do7x16_ok m) (tabok_con (do7x17_ok m) (tabok_con (do7x18_ok m) (tabok_con (do7x19_ok m) (tabok_con (do7x20_ok m) (tabok_con (do7x21_ok m) (tabok_con (do7x22_ok m) tabok_nil))))))))))))))))))))))) 20
def lives7_D(m:Nat):Option (Bool×Unit):=some (true,())
def lives7_con(m:Nat):Con:=⟨_,_,_,vnil,bnil,0,fun _=>rfl,rfz 0 (shp .b) bnil,fun x b=>lives7_D m⟩
theorem lives7_ok(m:Nat):ConOk Tryd.prog 26 (lives7_con m):=
 con_ok ty_mixed (lives7_tab2ok m) (fl:=fl7) (N:=300) (t:= .leaf) (tree_of trivial) (fun x b=>by kernel_rfl)
end Go.Proofs.YtngghkoghbpceaaDoor
