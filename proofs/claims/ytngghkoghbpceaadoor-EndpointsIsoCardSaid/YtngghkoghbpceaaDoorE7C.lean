/-
  Copies of bytes and of faults, as contracts, beside the runs of law 07; short names of shapes.
  Conditions: none.
-/
import Derived.Test.YtngghkoghbpceaaDoorTrF
import Derived.Test.YtngghkoghbpceaaDoorL7L
namespace Go.Proofs.YtngghkoghbpceaaDoor
set_option linter.unusedVariables false
set_option maxRecDepth 100000
abbrev Pkt:Type:=Int×Int×Int×Int×Int×Int×Bool×Bool×Int×List Int×Unit
@[reducible] def shPkt:Sh:= .cons (.i .u8) (.cons (.i .u8) (.cons (.i .u8) (.cons (.i .u16) (.cons (.i .u8) (.cons (.i .u8) (.cons .b (.cons .b (.cons (.i .u8) (.cons (.ints .u8) .nil)))))))))
def cloneB_D(m:Nat)(xs:List Int):Option (Unit×List Int×Unit):=bif decide (xs.length≤1000000)then some ((),xs,())else none
def cloneB_con(m:Nat):Con:=⟨_,_,_,vcons (shp (.ints .u8)) vnil,bnil,0,fun _=>rfl,rone 0 (ownp 0) (bcons (intsp 5 .u8) bnil),fun x b=>cloneB_D m x.1⟩
theorem cloneB_ok(m:Nat):ConOk Tryd.prog 171 (cloneB_con m):=con_row1 (fun xs h=>cloneB_a xs none h)
def cloneF_D(m:Nat)(xs:List Int):Option (Unit×List Int×Unit):=bif decide (xs.length≤1000000)then some ((),xs,())else none
def cloneF_con(m:Nat):Con:=⟨_,_,_,vcons (shp (.ints .u8)) vnil,bnil,0,fun _=>rfl,rone 0 (ownp 0) (bcons (intsp 91 .u8) bnil),fun x b=>cloneF_D m x.1⟩
theorem cloneF_ok(m:Nat):ConOk Tryd.prog 110 (cloneF_con m):=con_row1 (fun xs h=>cloneF_a xs none h)
def fl7d:FuncId→Bool:=fun f=> [171,3000000+100*76+99,3000000+100*76].contains f||flT f
end Go.Proofs.YtngghkoghbpceaaDoor
