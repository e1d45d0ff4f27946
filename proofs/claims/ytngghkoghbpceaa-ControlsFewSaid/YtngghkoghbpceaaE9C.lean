/-
  Copies of bytes and of faults, as contracts, for law 09; short names of shapes.
  Conditions: none.
-/
import Derived.Test.YtngghkoghbpceaaTrF
import Derived.Test.YtngghkoghbpceaaAMTy
import Derived.Test.YtngghkoghbpceaaKG
import Derived.Test.YtngghkoghbpceaaKL
namespace Go.Proofs.Ytngghkoghbpceaa
set_option linter.unusedVariables false
set_option maxRecDepth 100000
abbrev Pkt:Type:=Int×Int×Int×Int×Int×Int×Bool×Bool×Int×List Int×Unit
@[reducible] def shPkt:Sh:= .cons (.i .u8) (.cons (.i .u8) (.cons (.i .u8) (.cons (.i .u16) (.cons (.i .u8) (.cons (.i .u8) (.cons .b (.cons .b (.cons (.i .u8) (.cons (.ints .u8) .nil)))))))))
def cloneB_D(m:Nat)(xs:List Int):Option (Unit×List Int×Unit):=bif decide (xs.length≤1000000)then some ((),xs,())else none
def cloneB_con(m:Nat):Con:=⟨_,_,_,vcons (shp (.ints .u8)) vnil,bnil,0,fun _=>rfl,rone 0 (ownp 0) (bcons (intsp 5 .u8) bnil),fun x b=>cloneB_D m x.1⟩
theorem cloneB_ok(m:Nat):ConOk Try.prog 89 (cloneB_con m):=con_row1 (fun xs h=>cloneB_a xs none h)
def cloneF_D(m:Nat)(xs:List Int):Option (Unit×List Int×Unit):=bif decide (xs.length≤1000000)then some ((),xs,())else none
def cloneF_con(m:Nat):Con:=⟨_,_,_,vcons (shp (.ints .u8)) vnil,bnil,0,fun _=>rfl,rone 0 (ownp 0) (bcons (intsp 128 .u8) bnil),fun x b=>cloneF_D m x.1⟩
theorem cloneF_ok(m:Nat):ConOk Try.prog 69 (cloneF_con m):=con_row1 (fun xs h=>cloneF_a xs none h)
def flT:FuncId→Bool:=fun f=> [].contains f
def fl7d:FuncId→Bool:=fun f=> [89,3000000+100*48+99,3000000+100*48].contains f||flT f
abbrev SnT:Type:=Int×Int×Int×Int×Int×Int×Bool×Bool×Int×List Int×Bool×Int×Unit
abbrev r13:Type:=Int×Int×Int×Bool×Bool×Int×List Int×Unit
abbrev r14:Type:=(Bool×Bool×Unit)×r13×Unit
def r1{α:Type}(x:Unit×Pkt×Pkt×Unit)(F:Pkt→Pkt→α):α:=F x.2.1 x.2.2.1
def r2{α:Type}(x:(Bool×Bool×Unit)×r13×Unit)(F:Bool→Bool→r13→α):α:=F x.1.1 x.1.2.1 x.2.1
def r3{α:Type}(x:(Bool×Unit)×r13×Unit)(F:Bool→r13→α):α:=F x.1.1 x.2.1
def r4{α:Type}(x:(Int×Bool×Unit)×Unit)(F:Int→Bool→α):α:=F x.1.1 x.1.2.1
def r5{α:Type}(x:(Bool×Unit)×(List Int×Unit)×List SnT×Pkt×Unit)(F:Bool→List Int→List SnT→Pkt→α):α:=F x.1.1 x.2.1.1 x.2.2.1 x.2.2.2.1
abbrev r6:=hcons 17 (boxs 41 (.i .u8) (.cons (.i .u8) (.cons (.i .u8) (.cons .b (.cons .b (.cons (.i .i64) (.cons (.ints .u8) .nil))))))) hnil
abbrev r7:=rowp 130 (.cons (.i .u8) (.cons (.i .u8) (.cons (.i .u8) (.cons (.i .u16) (.cons (.i .u8) (.cons (.i .u8) (.cons .b (.cons .b (.cons (.i .u8) (.cons (.ints .u8) (.cons .b (.cons (.i .u8) .nil))))))))))))
abbrev r8:=boxs 125 (.i .u8) (.cons (.i .u8) (.cons (.i .u8) (.cons (.i .u16) (.cons (.i .u8) (.cons (.i .u8) (.cons .b (.cons .b (.cons (.i .u8) (.cons (.ints .u8) .nil)))))))))
abbrev r9:=vcons (shp (.ints .u8)) vnil
abbrev r10:=boxp 120 (vcon0 (ifcp 30 (ptrp 1 0)) vnil)
abbrev r11:=hcon0 0 r10 (hcons 1 (boxp 175 r9) (hcon0 2 (boxp 48 (vcon0 (ownp 3) vnil)) (hcons 3 r7 (hcons 20 r8 hnil))))
theorem tmk{P:Program}{t:AT}{c:Code}{Q:Prop}(h:TreeOk P t c=Q)(q:Q):TreeOk P t c:=Eq.mpr h q
theorem ai{a b:Prop}(h:a)(g:b):a∧b:=⟨h,g⟩
end Go.Proofs.Ytngghkoghbpceaa
