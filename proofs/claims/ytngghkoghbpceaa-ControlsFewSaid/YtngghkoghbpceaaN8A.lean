/-
  A run of a transfer with a Zero whose data are forgotten: a request that writes, or another one.
  Conditions: none.
-/
import Derived.Test.YtngghkoghbpceaaN8i
import Derived.Test.YtngghkoghbpceaaN8e
namespace Go.Proofs.Ytngghkoghbpceaa
set_option linter.unusedVariables false
set_option maxRecDepth 100000
def wrQ(r1 r5:Int):Bool:=decide (r1<128)&&decide (0<r5)
def runA_D(m:Nat)(a c d e b:Int)(f:List Int)(g h:Int)(i:Bool)(j l o p q r s t:Int)(u v w y z:Bool)(A:Int)(B:Bool)(C E:Int)(F:List Int)(G:List ClT)(H:List Int):Option ((List Int×Int×Unit)×q143×ZwT×q141×List ClT×q145×Unit):=
 bif wrQ a b then runAW_D m a c d e b f g h i j l o p q r s t u v w y z A B C E F G H else runAZ_D m a c d e b f g h i j l o p q r s t u v w y z A B C E F G H
def runA_con(m:Nat):Con:=⟨_,_,_,q195,(bcons q75 q182),5,fun _=>rfl,q193,fun x b=>runA_D m x.1.1 x.1.2.1 x.1.2.2.1 x.1.2.2.2.1 x.1.2.2.2.2.1 x.1.2.2.2.2.2.1 x.1.2.2.2.2.2.2.1 x.1.2.2.2.2.2.2.2.1 b.1.1 b.1.2.1 b.1.2.2.1 b.2.1.1 b.2.1.2.1 b.2.1.2.2.1 b.2.1.2.2.2.1 b.2.1.2.2.2.2.1 b.2.1.2.2.2.2.2.1 b.2.1.2.2.2.2.2.2.1 b.2.1.2.2.2.2.2.2.2.1 b.2.1.2.2.2.2.2.2.2.2.1 b.2.1.2.2.2.2.2.2.2.2.2.1 b.2.1.2.2.2.2.2.2.2.2.2.2.1 b.2.1.2.2.2.2.2.2.2.2.2.2.2.1 b.2.1.2.2.2.2.2.2.2.2.2.2.2.2.1 b.2.1.2.2.2.2.2.2.2.2.2.2.2.2.2.1 b.2.2.1.1 b.2.2.1.2.1 b.2.2.2.1 b.2.2.2.2.1.1⟩
theorem runA_ok(m:Nat):ConOk Try.prog 29 (runA_con m):=by
 intro x b y h R k r hk
 have h':(bif wrQ x.1.1 x.1.2.2.2.2.1 then(runAW_con m).F x b else(runAZ_con m).F x b)=some y:=h
 cases hw:wrQ x.1.1 x.1.2.2.2.2.1 with
 |true=>rw[hw]at h';exact runAW_ok m x b y h' R k r hk
 |false=>rw[hw]at h';exact runAZ_ok m x b y h' R k r hk
end Go.Proofs.Ytngghkoghbpceaa
