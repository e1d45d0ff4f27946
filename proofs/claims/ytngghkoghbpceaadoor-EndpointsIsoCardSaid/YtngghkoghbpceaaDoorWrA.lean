/-
  Law 07, common facts: few, lists, wires.
  Conditions: none.
-/
import Derived.Test.YtngghkoghbpceaaDoorE7a
import Derived.Test.YtngghkoghbpceaaDoorDo7A
namespace Go.Proofs.YtngghkoghbpceaaDoor
set_option linter.unusedVariables false
set_option linter.unusedSimpArgs false
set_option maxRecDepth 100000
set_option maxHeartbeats 4000000
theorem few7_L0_eq(m:Nat)(l:List (List Int))(hl:l.length≤20): ∀(f i:Nat),i≤l.length→l.length - i<f→(few7_L0 m f l (i:Int)=some (.inl ((false,()),()))∨(few7_L0 m f l (i:Int)=some (.inr ((),()))∧ ∀j,i≤j→j<l.length→(l.getD j []).length≤8)):=by
 intro f
 induction f with
 |zero=>intro i h1 h2;omega
 |succ f ih=>
  intro i h1 h2
  rw[few7_L0]
  by_cases h:i<l.length
  ·rw[dT (by omega:(i:Int)<(l.length:Nat)),inT (by omega) (by omega:(i:Int)<(l.length:Nat)),toNatC,wS i (by omega)]
   simp only[cond_true]
   by_cases hx:8<((l.getD i []).length:Int)
   ·rw[dT hx];exact .inl rfl
   ·rw[dF hx]
    simp only[cond_false]
    rcases ih (i+1) (by omega) (by omega)with h3|⟨h3,h4⟩
    ·exact .inl h3
    ·refine .inr ⟨h3,fun j hj1 hj2=> ?_⟩
     by_cases hij:j=i
     ·subst hij;omega
     ·exact h4 j (by omega) hj2
  ·rw[dF (by omega: ¬(i:Int)<(l.length:Nat))]
   exact .inr ⟨rfl,fun j hj1 hj2=>by omega⟩
theorem few7_eq(m:Nat)(l:List (List Int))(hm:21≤m):few7_D m l=some (false,())∨(few7_D m l=some (true,())∧l.length≤20∧ ∀b∈l,b.length≤8):=by
 unfold few7_D
 by_cases h:20<(l.length:Int)
 ·rw[dT h];exact .inl rfl
 ·rw[dF h]
  rcases few7_L0_eq m l (by omega) m 0 (by omega) (by omega)with h3|⟨h3,h4⟩
  ·rw[show((0:Nat):Int)=0 from rfl]at h3;rw[h3];exact .inl rfl
  ·rw[show((0:Nat):Int)=0 from rfl]at h3;rw[h3]
   refine .inr ⟨rfl,by omega,fun b hb=> ?_⟩
   obtain⟨j,hj,rfl⟩:=List.mem_iff_getElem.1 hb
   have:=h4 j (by omega) hj
   rwa [getD_lt hj]at this
theorem lists7_L0_eq(m:Nat)(a:List (List Int))(hl:a.length≤1000): ∀(f i:Nat),i≤a.length→a.length - i<f→lists7_L0 m f a a (i:Int)=some (.inr ((),())):=by
 intro f
 induction f with
 |zero=>intro i h1 h2;omega
 |succ f ih=>
  intro i h1 h2
  rw[lists7_L0]
  by_cases h:i<a.length
  ·rw[dT (by omega:(i:Int)<(a.length:Nat)),inT (by omega) (by omega:(i:Int)<(a.length:Nat)),wS i (by omega),dT rfl]
   exact ih (i+1) (by omega) (by omega)
  ·rw[dF (by omega: ¬(i:Int)<(a.length:Nat))];rfl
theorem lists7_self(m:Nat)(a:List (List Int))(hl:a.length≤1000)(hm:a.length<m):lists7_D m a a=some (0,()):=by
 unfold lists7_D
 have:=lists7_L0_eq m a hl m 0 (by omega) (by omega)
 rw[show((0:Nat):Int)=0 from rfl]at this
 rw[dT rfl,this]
 rfl
theorem faults6_L0_eq(m:Nat)(x:List Int)(hx:x.length≤1000): ∀(f i:Nat) (acc:List Int),i≤x.length→acc.length=i→x.length - i<f→ ∃w:List Int,w.length=x.length∧faults6_L0 m f x (i:Int) acc=some ((),(w,())):=by
 intro f
 induction f with
 |zero=>intro i acc h1 h2 h3;omega
 |succ f ih=>
  intro i acc h1 h2 h3
  rw[faults6_L0]
  by_cases h:i<x.length
  ·rw[dT (by omega:(i:Int)<(x.length:Nat)),inT (by omega) (by omega:(i:Int)<(x.length:Nat)),gr1 _ (by simp;omega),wS i (by omega)]
   exact ih (i+1) _ (by omega) (by simp;omega) (by omega)
  ·rw[dF (by omega: ¬(i:Int)<(x.length:Nat))]
   exact⟨acc,by omega,rfl⟩
theorem cloneF_eq(m:Nat)(xs:List Int)(h:xs.length≤1000000):cloneF_D m xs=some ((),xs,()):=by
 unfold cloneF_D;rw[dT h];rfl
theorem wire6_eq(m:Nat)(x:List Int)(hx:x.length≤1000)(hm:x.length<m): ∃w:List Int,w.length=x.length∧wire6_D m x=some ((),(w,()),()):=by
 obtain⟨w,h1,h2⟩:=faults6_L0_eq m x hx m 0 [] (by omega) rfl (by omega)
 refine⟨w,h1,?_⟩
 rw[show((0:Nat):Int)=0 from rfl]at h2
 unfold wire6_D faults6_D
 rw[h2]
 simp only[bnd_some,cloneF_eq m w (by omega)]
end Go.Proofs.YtngghkoghbpceaaDoor
