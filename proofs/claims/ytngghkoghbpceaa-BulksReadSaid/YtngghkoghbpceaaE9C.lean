/-
  Copies of bytes and of faults, as contracts, for law 09; short names of shapes.
  Conditions: none.
-/
import Derived.Test.YtngghkoghbpceaaTrF
import Derived.Test.YtngghkoghbpceaaAMTy
import Derived.Test.YtngghkoghbpceaaKG
import Derived.Test.YtngghkoghbpceaaKL
namespace Go.Proofs.Ytngghkoghbpceaa
set_option linter.unusedVariables false
set_option maxRecDepth 100000
abbrev Pkt:Type:=Int×Int×Int×Int×Int×Int×Bool×Bool×Int×List Int×Unit
@[reducible] def shPkt:Sh:= .cons (.i .u8) (.cons (.i .u8) (.cons (.i .u8) (.cons (.i .u16) (.cons (.i .u8) (.cons (.i .u8) (.cons .b (.cons .b (.cons (.i .u8) (.cons (.ints .u8) .nil)))))))))
def cloneB_D(m:Nat)(xs:List Int):Option (Unit×List Int×Unit):=bif decide (xs.length≤1000000)then some ((),xs,())else none
def cloneB_con(m:Nat):Con:=⟨_,_,_,vcons (shp (.ints .u8)) vnil,bnil,0,fun _=>rfl,rone 0 (ownp 0) (bcons (intsp 5 .u8) bnil),fun x b=>cloneB_D m x.1⟩
theorem cloneB_ok(m:Nat):ConOk Try.prog 89 (cloneB_con m):=con_row1 (fun xs h=>cloneB_a xs none h)
def cloneF_D(m:Nat)(xs:List Int):Option (Unit×List Int×Unit):=bif decide (xs.length≤1000000)then some ((),xs,())else none
def cloneF_con(m:Nat):Con:=⟨_,_,_,vcons (shp (.ints .u8)) vnil,bnil,0,fun _=>rfl,rone 0 (ownp 0) (bcons (intsp 128 .u8) bnil),fun x b=>cloneF_D m x.1⟩
theorem cloneF_ok(m:Nat):ConOk Try.prog 69 (cloneF_con m):=con_row1 (fun xs h=>cloneF_a xs none h)
def flT:FuncId→Bool:=fun f=> [].contains f
def fl7d:FuncId→Bool:=fun f=> [89,3000000+100*48+99,3000000+100*48].contains f||flT f
abbrev EpT:Type:=Int×Int×Bool×Int×Int×Bool×Bool×Unit
abbrev KyT:Type:=((Int×Bool×Unit)×(Int×Bool×Unit)×Unit)
abbrev SnT:Type:=Int×Int×Int×Int×Int×Int×Bool×Bool×Int×List Int×Bool×Int×Unit
abbrev TfT:Type:=Bool×Int×Int×Bool×List Int×Bool×Int×List (List Int)×List Int×Int×Int×Bool×Int×Unit
@[reducible] def pTl:=(vcons (shp (.i .u8)) (vcons (shp .b) (vcons (shp (.i .u8)) (vcons (shp (.i .i64)) (vcons (shp .b) (vcons (shp .b) vnil))))))
@[reducible] def pKy:=(aggp (vcons (shp (.i .u8)) (vcons (shp .b) vnil)))
end Go.Proofs.Ytngghkoghbpceaa
