/-
  Law 09, plain facts: copies, lists, Join, Cut.
  Conditions: none.
-/
import Derived.Test.YtngghkoghbpceaaB9t
import Derived.Test.YtngghkoghbpceaaDo9A
namespace Go.Proofs.Ytngghkoghbpceaa
set_option linter.unusedVariables false
set_option linter.unusedSimpArgs false
set_option maxRecDepth 100000
set_option maxHeartbeats 2000000
theorem lives9_true:lives9_D 2000=some (true,()):=by kernel_rfl
theorem bclone_eq(m:Nat)(xs:List Int)(h:xs.length≤1000000):bclone_D m xs=some (xs,()):=by
 unfold bclone_D
 rw[mkA 1 _ true (by omega) (by omega) (by omega),gr1 _ (by simp;omega)]
 rfl
def chk9(k:Nat):Nat→List Int→List (List Int)×List Int
 |0,b=>([],b)
 |n+1,b=>if k<b.length then(b.take k::(chk9 k n (b.drop k)).1,(chk9 k n (b.drop k)).2)else([],b)
theorem chk9_facts(k:Nat)(hk:1≤k): ∀(n:Nat) (b:List Int),b.length≤n→(chk9 k n b).2.length≤k∧(∀c∈(chk9 k n b).1,c.length≤k)∧(chk9 k n b).1.length+(chk9 k n b).2.length≤b.length
 |0,b,h=>by simp[chk9];omega
 |n+1,b,h=>by
  unfold chk9
  split
  ·rename_i hlt
   obtain⟨h1,h2,h3⟩:=chk9_facts k hk n (b.drop k) (by simp;omega)
   refine⟨h1,fun c hc=> ?_,?_⟩
   ·rcases List.mem_cons.1 hc with rfl|hc
    ·simp;omega
    ·exact h2 c hc
   ·simp only[List.length_drop,List.length_cons]at h3 ⊢;omega
  ·exact⟨by simp;omega,by simp,by simp⟩
def cut9(b:List Int)(k:Nat)(z:Bool):List (List Int):=(chk9 k b.length b).1++ [(chk9 k b.length b).2]++if z&&(decide (0<b.length)&&decide (b.length % k=0))then [[]]else []
end Go.Proofs.Ytngghkoghbpceaa
