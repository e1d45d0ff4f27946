/-
  The contract of controls.Answer: one for each stage, joined.
  Conditions: none.
-/
import Derived.Test.YtngghkoghbpceaaN8a
namespace Go.Proofs.Ytngghkoghbpceaa
set_option linter.unusedVariables false
set_option maxRecDepth 100000
@[reducible] def shTr:Sh:=(.cons (.i .u8) (.cons (.i .u8) (.cons (.i .u8) (.cons (.i .u16) (.cons (.i .u16) (.cons (.i .u16) (.cons (.ints .u8) (.cons (.i .i64) (.cons .b (.cons (.i .i64) (.cons (.ints .u8) (.cons (.i .i64) (.cons (.i .i64) .nil)))))))))))))
abbrev TrT:Type:=Int×Int×Int×Int×Int×Int×List Int×Int×Bool×Int×List Int×Int×Int×Unit
def ans8_D(m:Nat)(x:TrT)(o:Int×List Int×Unit):Option (TrT×Unit):=
 bif decide (x.1=0)then ans80_D m x.2.1 x.2.2.1 x.2.2.2.1 x.2.2.2.2.1 x.2.2.2.2.2.1 x.2.2.2.2.2.2.1 x.2.2.2.2.2.2.2.1 x.2.2.2.2.2.2.2.2.1 x.2.2.2.2.2.2.2.2.2.1 x.2.2.2.2.2.2.2.2.2.2.1 x.2.2.2.2.2.2.2.2.2.2.2.1 x.2.2.2.2.2.2.2.2.2.2.2.2.1 o
 else bif decide (x.1=1)then ans81_D m x.2.1 x.2.2.1 x.2.2.2.1 x.2.2.2.2.1 x.2.2.2.2.2.1 x.2.2.2.2.2.2.1 x.2.2.2.2.2.2.2.1 x.2.2.2.2.2.2.2.2.1 x.2.2.2.2.2.2.2.2.2.1 x.2.2.2.2.2.2.2.2.2.2.1 x.2.2.2.2.2.2.2.2.2.2.2.1 x.2.2.2.2.2.2.2.2.2.2.2.2.1 o
 else bif decide (x.1=2)then ans82_D m x.2.1 x.2.2.1 x.2.2.2.1 x.2.2.2.2.1 x.2.2.2.2.2.1 x.2.2.2.2.2.2.1 x.2.2.2.2.2.2.2.1 x.2.2.2.2.2.2.2.2.1 x.2.2.2.2.2.2.2.2.2.1 x.2.2.2.2.2.2.2.2.2.2.1 x.2.2.2.2.2.2.2.2.2.2.2.1 x.2.2.2.2.2.2.2.2.2.2.2.2.1 o
 else bif decide (x.1=3)then ans83_D m x.2.1 x.2.2.1 x.2.2.2.1 x.2.2.2.2.1 x.2.2.2.2.2.1 x.2.2.2.2.2.2.1 x.2.2.2.2.2.2.2.1 x.2.2.2.2.2.2.2.2.1 x.2.2.2.2.2.2.2.2.2.1 x.2.2.2.2.2.2.2.2.2.2.1 x.2.2.2.2.2.2.2.2.2.2.2.1 x.2.2.2.2.2.2.2.2.2.2.2.2.1 o
 else bif decide (x.1=4)then ans84_D m x.2.1 x.2.2.1 x.2.2.2.1 x.2.2.2.2.1 x.2.2.2.2.2.1 x.2.2.2.2.2.2.1 x.2.2.2.2.2.2.2.1 x.2.2.2.2.2.2.2.2.1 x.2.2.2.2.2.2.2.2.2.1 x.2.2.2.2.2.2.2.2.2.2.1 x.2.2.2.2.2.2.2.2.2.2.2.1 x.2.2.2.2.2.2.2.2.2.2.2.2.1 o
 else none
def ans8_con(m:Nat):Con:=⟨_,_,_,(vcons (shp shTr) (vcons (shp (.cons (.i .u8) (.cons (.ints .u8) .nil))) vnil)),bnil,0,fun _=>rfl,(rfz 0 (shp shTr) bnil),fun x b=>ans8_D m x.1 x.2.1⟩
theorem ans8_ok(m:Nat):ConOk Try.prog 63 (ans8_con m):=by
 intro x b y h R k r hk
 obtain⟨⟨s,a1,a2,a3,a4,a5,a6,a7,a8,a9,a10,a11,a12,⟨⟩⟩,o,⟨⟩⟩:=x
 change ans8_D m (s,a1,a2,a3,a4,a5,a6,a7,a8,a9,a10,a11,a12,()) o=some y at h
 unfold ans8_D at h
 by_cases h0:s=0
 ·subst h0
  exact ans80_ok m ((a1,a2,a3,a4,a5,a6,a7,a8,a9,a10,a11,a12,()),o,()) b y h R k r hk
 by_cases h1:s=1
 ·subst h1
  exact ans81_ok m ((a1,a2,a3,a4,a5,a6,a7,a8,a9,a10,a11,a12,()),o,()) b y h R k r hk
 by_cases h2:s=2
 ·subst h2
  exact ans82_ok m ((a1,a2,a3,a4,a5,a6,a7,a8,a9,a10,a11,a12,()),o,()) b y h R k r hk
 by_cases h3:s=3
 ·subst h3
  exact ans83_ok m ((a1,a2,a3,a4,a5,a6,a7,a8,a9,a10,a11,a12,()),o,()) b y h R k r hk
 by_cases h4:s=4
 ·subst h4
  exact ans84_ok m ((a1,a2,a3,a4,a5,a6,a7,a8,a9,a10,a11,a12,()),o,()) b y h R k r hk
 simp only[h0,h1,h2,h3,h4,decide_false,cond_false]at h
 cases h
end Go.Proofs.Ytngghkoghbpceaa
