/-
  Contracts that are proved by hand, as contracts of the walks by the kernel.
  Conditions: none.
-/
import Derived.Test.YtngghkoghbpceaaKF
namespace Go.Proofs.Ytngghkoghbpceaa
open Go.RowKit
set_option linter.unusedVariables false
theorem con_row1{P:Program}{f:FuncId}{e:TypeId}{k:IntKind}(h: ∀xs:List Int,xs.length≤1000000→ARow P f [.ints k xs none] (.ints e k xs none)):
  ConOk P f ⟨_,_,_,vcons (shp (.ints k)) vnil,bnil,0,fun _=>rfl,rone 0 (ownp 0) (bcons (intsp e k) bnil),fun x b=>bif decide (x.1.length≤1000000)then some ((),x.1,())else none⟩:=by
 intro x b y hF R kk r hk
 obtain⟨xs,u⟩:=x
 simp only at hF
 cases hd:decide (xs.length≤1000000)with
 |false=>rw[hd]at hF;cases hF
 |true=>
  rw[hd]at hF
  simp only[cond_true,Option.some.injEq]at hF
  subst hF
  refine⟨_,_,?_,?_,hk⟩
  ·simp[bnil]
  ·exact h xs (by simpa using hd)
end Go.Proofs.Ytngghkoghbpceaa
