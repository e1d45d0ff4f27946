/-
  The statement BulksWrite: the plain law.
  Conditions: none.
-/
import Derived.Test.YtngghkoghbpceaaB9X
namespace Go.Proofs.Ytngghkoghbpceaa
set_option linter.unusedVariables false
set_option linter.unusedSimpArgs false
set_option maxRecDepth 100000
set_option maxHeartbeats 4000000
theorem few9_L0_eq(m:Nat)(l:List (List Int))(hl:l.length≤10): ∀(f i:Nat),i≤l.length→l.length - i<f→(few9_L0 m f l (i:Int)=some (.inl ((false,()),()))∨(few9_L0 m f l (i:Int)=some (.inr ((),()))∧ ∀j,i≤j→j<l.length→(l.getD j []).length≤60)):=by
 intro f
 induction f with
 |zero=>intro i h1 h2;omega
 |succ f ih=>
  intro i h1 h2
  rw[few9_L0]
  by_cases h:i<l.length
  ·rw[dT (by omega:(i:Int)<(l.length:Nat)),inT (by omega) (by omega:(i:Int)<(l.length:Nat)),toNatC,wS i (by omega)]
   simp only[cond_true]
   by_cases hx:60<((l.getD i []).length:Int)
   ·rw[dT hx];exact .inl rfl
   ·rw[dF hx]
    simp only[cond_false]
    rcases ih (i+1) (by omega) (by omega)with h3|⟨h3,h4⟩
    ·exact .inl h3
    ·refine .inr ⟨h3,fun j hj1 hj2=> ?_⟩
     by_cases hij:j=i
     ·subst hij;omega
     ·exact h4 j (by omega) hj2
  ·rw[dF (by omega: ¬(i:Int)<(l.length:Nat))]
   exact .inr ⟨rfl,fun j hj1 hj2=>by omega⟩
theorem few9_eq(m:Nat)(l:List (List Int))(hm:21≤m):few9_D m l=some (false,())∨(few9_D m l=some (true,())∧l.length≤10∧ ∀b∈l,b.length≤60):=by
 unfold few9_D
 by_cases h:10<(l.length:Int)
 ·rw[dT h];exact .inl rfl
 ·rw[dF h]
  rcases few9_L0_eq m l (by omega) m 0 (by omega) (by omega)with h3|⟨h3,h4⟩
  ·rw[show((0:Nat):Int)=0 from rfl]at h3;rw[h3];exact .inl rfl
  ·rw[show((0:Nat):Int)=0 from rfl]at h3;rw[h3]
   refine .inr ⟨rfl,by omega,fun b hb=> ?_⟩
   obtain⟨j,hj,rfl⟩:=List.mem_iff_getElem.1 hb
   have:=h4 j (by omega) hj
   rwa [getD_lt hj]at this
theorem faults6_L0_eq(m:Nat)(x:List Int)(hx:x.length≤1000): ∀(f i:Nat) (acc:List Int),i≤x.length→acc.length=i→x.length - i<f→ ∃w:List Int,w.length=x.length∧faults6_L0 m f x (i:Int) acc=some ((),(w,())):=by
 intro f
 induction f with
 |zero=>intro i acc h1 h2 h3;omega
 |succ f ih=>
  intro i acc h1 h2 h3
  rw[faults6_L0]
  by_cases h:i<x.length
  ·rw[dT (by omega:(i:Int)<(x.length:Nat)),inT (by omega) (by omega:(i:Int)<(x.length:Nat)),gr1 _ (by simp;omega),wS i (by omega)]
   exact ih (i+1) _ (by omega) (by simp;omega) (by omega)
  ·rw[dF (by omega: ¬(i:Int)<(x.length:Nat))]
   exact⟨acc,by omega,rfl⟩
theorem cloneF_eq(m:Nat)(xs:List Int)(h:xs.length≤1000000):cloneF_D m xs=some ((),xs,()):=by
 unfold cloneF_D;rw[dT h];rfl
theorem wire6_eq(m:Nat)(x:List Int)(hx:x.length≤1000)(hm:x.length<m): ∃w:List Int,w.length=x.length∧wire6_D m x=some ((),(w,()),()):=by
 obtain⟨w,h1,h2⟩:=faults6_L0_eq m x hx m 0 [] (by omega) rfl (by omega)
 refine⟨w,h1,?_⟩
 rw[show((0:Nat):Int)=0 from rfl]at h2
 unfold wire6_D faults6_D
 rw[h2]
 simp only[bnd_some,cloneF_eq m w (by omega)]
theorem bL0_eq(l:List (List Int))(hl:l.length≤10)(hlb: ∀b∈l,b.length≤60)(room:Int)(w:List Int): ∀(f i:Nat),i≤l.length→l.length - i<f→
  bWrite_L0 2000 f l room (i:Int) true 0 0 0 1 true 2 8 false false 0 1 false 2 8 false false w ((l.take i).flatten)=some ((l,room,()),(true,0,0,()),(0,1,true,2,8,false,false,()),(0,1,false,2,8,false,false,()),(w,()),l.flatten,()):=by
 intro f
 induction f with
 |zero=>intro i h1 h2;omega
 |succ f ih=>
  intro i h1 h2
  rw[bWrite_L0]
  by_cases h:i<l.length
  ·have hx:=hlb _ (getD_mem (d:=([]:List Int)) h)
   have hfl: ∀q:List (List Int),(∀b∈q,b.length≤60)→q.flatten.length≤60*q.length:=by
    intro q hq
    induction q with
    |nil=>simp
    |cons x q ihq=>
     have:=hq x (by simp)
     have:=ihq (fun b hb=>hq b (by simp[hb]))
     simp only[List.flatten_cons,List.length_append,List.length_cons];omega
   have h3:=hfl (l.take i) (fun b hb=>hlb b (List.mem_of_mem_take hb))
   have h4:(l.take i).length≤10:=by simp;omega
   rw[dT (by omega:(i:Int)<(l.length:Nat)),inT (by omega) (by omega:(i:Int)<(l.length:Nat)),toNatC,gr1 _ (by omega),wS i (by omega)]
   simp only[cond_true]
   rw[←fl_succ l i h]
   exact ih (i+1) (by omega) (by omega)
  ·have hil:i=l.length:=by omega
   rw[dF (by omega: ¬(i:Int)<(l.length:Nat)),hil,List.take_length]
   rfl
theorem bWrite_true(l:List (List Int))(x1:List Int)(room:Int)(hroom:0≤room∧room≤255):bWrite_D 2000 l x1 room=some (true,()):=by
 unfold bWrite_D bWrite_J0
 rcases few9_eq 2000 l (by omega)with h|⟨h,hl,hlb⟩
 ·rw[h];rfl
 rw[h]
 simp only[bnd_some,Bool.not_true,cond_false]
 by_cases hx:120<(x1.length:Int)
 ·rw[dT hx];rfl
 rw[dF hx]
 simp only[cond_false]
 obtain⟨w,hw,hwire⟩:=wire6_eq 2000 x1 (by omega) (by omega)
 have e0:=bL0_eq l hl hlb room w 2000 0 (by omega) (by omega)
 have e0':bWrite_L0 2000 2000 l room 0 true 0 0 0 1 true 2 8 false false 0 1 false 2 8 false false w []=some ((l,room,()),(true,0,0,()),(0,1,true,2,8,false,false,()),(0,1,false,2,8,false,false,()),(w,()),l.flatten,()):=by simpa using e0
 simp only[hwire,bnd_some,e0']
 obtain⟨hP1,hP2⟩:=allP_len l hlb
 have e1:=bL1_eq l room hroom hl hlb 2000 0 0 0 w 0 (by simp) (by omega) (by omega) (by omega) (by omega) (by omega) (by omega)
 rw[allP_flat]at e1
 have e1':bWrite_L1 2000 2000 l room false 0 0 true 0 1 true 1 false 0 1 true 2 8 false false 0 1 false 2 8 false false w l.flatten [] []=some (.inl ((true,()),()))∨bWrite_L1 2000 2000 l room false 0 0 true 0 1 true 1 false 0 1 true 2 8 false false 0 1 false 2 8 false false w l.flatten [] []=some (.inr ((l,()),l.flatten,l.flatten,allP l,())):=by simpa[par,sB]using e1
 rcases e1' with e1'|e1'
 ·rw[e1'];rfl
 ·rw[e1']
  simp only[bnd_some,sumK_r]
  have hj:=bjoin_eq 8 (allP l) (by omega) (fun b hb=>by have:=hP2 b hb;omega) (by omega) (by omega)
  rw[if_neg (by rintro⟨b,hb,h8⟩;have:=hP2 b hb;omega)]at hj
  have hjn:jn 8 [] [] (allP l)=(l,[]):=by have:=jn_all 8 (by omega) l [];simpa[allP]using this
  rw[hjn]at hj
  rw[hj]
  simp only[bnd_some]
  unfold bWrite_J7
  simp only[decide_true,cond_true,lst9_self 2000 l (by omega) (by omega),bnd_some,List.length_nil,lives9_true]
  rfl
end Go.Proofs.Ytngghkoghbpceaa
