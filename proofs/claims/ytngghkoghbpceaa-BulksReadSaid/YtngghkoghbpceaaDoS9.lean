/-
  A host that writes to an endpoint of a set, the plain law: what the endpoint takes, and what comes back.
  Conditions: none.
-/
import Derived.Test.YtngghkoghbpceaaDo9A
import Derived.Test.YtngghkoghbpceaaE9w
namespace Go.Proofs.Ytngghkoghbpceaa
set_option linter.unusedVariables false
set_option linter.unusedSimpArgs false
set_option maxRecDepth 100000
set_option maxHeartbeats 4000000
theorem eclone_eq(m:Nat)(b:List Int)(h:b.length≤100000):eclone_D m b=some (b,()):=by
 unfold eclone_D
 have hz:List.replicate (Int.toNat 0) (0:Int)= []:=rfl
 rw[mkA 1 _ true (by omega) (by omega) (by omega),hz,gr1 _ (by simp only[List.length_nil];omega)]
 rfl
abbrev ky:(Int×Bool×Unit)×(Int×Bool×Unit)×Unit:=((1,true,()),(1,false,()),())
end Go.Proofs.Ytngghkoghbpceaa
