/-
  The statement BulksRead, the plain law: the rounds of one transfer.
  Conditions: none.
-/
import Derived.Test.YtngghkoghbpceaaB9T
namespace Go.Proofs.Ytngghkoghbpceaa
set_option linter.unusedVariables false
set_option linter.unusedSimpArgs false
set_option maxRecDepth 100000
set_option maxHeartbeats 4000000
theorem rStep(m f:Nat)(l:List (List Int))(x2:Int)(i j:Nat)(hi:i<l.length)(hj:j<400)(P:List (List Int))(hP: ∀b∈P,b.length≤8)(hPl:P.length≤100)(L:Int)(b:List Int)(hbi:l.getD i []=b)(hbl:b.length≤60)(hL:(b.length:Int)+8≤L)(hL2:L≤65536)(a k g:Nat)(F:List (List Int))(c:List Int)(R:List (List Int))(hk:P.drop k=F++c::R)(hF: ∀x∈F,x.length=8)(hc:c.length<8)(got:List Int)(hgot:got++(F.flatten++c)=b)(ha:a≤k)(hka:k≤a+1)(hag:a≤g)(hg:g≤P.length)(hg2:g - a≤2)(er:Nat)(her:er≤2)(w:List Int):
  ∃(a2 g2:Nat) (w2:List Int) (t':TrT) (over:Bool),
   bRead_L2 m (f+1) l x2 (g:Int) (i:Int) (j:Int) (tR L (par k) got er false 0) true 0 1 true 1 false 0 1 true 2 8 (par a) false 0 1 false 2 8 false false w P (sl P a g)=bRead_L2 m f l x2 (g2:Int) (i:Int) ((j+1:Nat):Int) t' true 0 1 true 1 false 0 1 true 2 8 (par a2) false 0 1 false 2 8 false false w2 P (sl P a2 g2)∧
   a≤a2∧a2≤a+1∧a2≤g2∧g2≤P.length∧g2 - a2≤2∧w2.length≤w.length∧
   ((over=true∧ ∃er2:Int,t'=tR L (par k) got er2 true 11)∨
    (over=true∧F= []∧t'=tR L (par (k+1)) b 0 true 0∧k≤a2)∨
    (over=false∧ ∃er2:Nat,er2≤2∧t'=tR L (par k) got er2 false 0∧a2≤k∧w2.length+(k - a2)<w.length+(k - a))∨
    (over=false∧ ∃x F',F=x::F'∧t'=tR L (par (k+1)) (got++x) ((0:Nat):Int) false 0∧k≤a2∧w2.length+(k+1 - a2)≤w.length+1)):=by
 have hkP:k<P.length:=by
  have:=congrArg List.length hk
  simp only[List.length_drop,List.length_append,List.length_cons]at this;omega
 have hI:inB (i:Int) l.length=true:=inT (by omega) (by omega:(i:Int)<(l.length:Nat))
 have hs:=sl_len (l:=P) (a:=a) hg
 have hwj:Go.IntKind.wrap .i64 ((j:Int)+1)=((j+1:Nat):Int):=wS j (by omega)
 rw[bRead_L2,dT (by omega:(j:Int)<400)]
 unfold bRead_J5 bRead_J1
 simp only[cond_true,bnextR_open,bnd_some,sumK_l]
 unfold bRead_J2
 by_cases hgl:g<P.length
 ·have hx:=hP _ (getD_mem (d:=([]:List Int)) hgl)
  rw[dT (by omega:(g:Int)<(P.length:Nat)),inT (by omega) (by omega:(g:Int)<(P.length:Nat)),toNatC,dT hgl]
  simp only[cond_true]
  by_cases hq:(sl P a g).length<2
  ·obtain⟨r,dt,a2,w2,sent,t',x,over,e,hA,hE,hG,q1,q2,q3,q4⟩:=rTail m P hP L b hbl hL hL2 a k (g+1) F c R hk hF hc got hgot ha hka (by omega) (by omega) er her w
   refine⟨a2,g+1,w2,t',over,?_,q1,q2,by omega,by omega,by omega,q3,q4⟩
   rw[offO_eq m _ hx _ _ hq,sl_snoc hag hgl]
   simp only[bnd_some,sumK_l,decide_true,cond_true,e,hA,hE]
   unfold bRead_J3
   rw[wS g (by omega),hwj,hI,toNatC i,hbi]
   cases over with
   |false=>rfl
   |true=>
    simp only[cond_true,hG rfl,bnd_some,Bool.not_true,cond_false]
  ·obtain⟨r,dt,a2,w2,sent,t',x,over,e,hA,hE,hG,q1,q2,q3,q4⟩:=rTail m P hP L b hbl hL hL2 a k g F c R hk hF hc got hgot ha hka (by omega) (by omega) er her w
   refine⟨a2,g,w2,t',over,?_,q1,q2,by omega,by omega,by omega,q3,q4⟩
   rw[offO_full m _ hx _ _ hq]
   simp only[bnd_some,sumK_r,show decide ((9:Int)=0)=false by decide,cond_false,e,hA,hE]
   unfold bRead_J3
   rw[hwj,hI,toNatC i,hbi]
   cases over with
   |false=>rfl
   |true=>
    simp only[cond_true,hG rfl,bnd_some,Bool.not_true,cond_false]
 ·obtain⟨r,dt,a2,w2,sent,t',x,over,e,hA,hE,hG,q1,q2,q3,q4⟩:=rTail m P hP L b hbl hL hL2 a k g F c R hk hF hc got hgot ha hka (by omega) (by omega) er her w
  refine⟨a2,g,w2,t',over,?_,q1,q2,by omega,by omega,by omega,q3,q4⟩
  rw[dF (by omega: ¬(g:Int)<(P.length:Nat))]
  simp only[cond_false,bnd_some,e,hA,hE]
  unfold bRead_J4
  rw[hwj,hI,toNatC i,hbi]
  cases over with
  |false=>rfl
  |true=>
   simp only[cond_true,hG rfl,bnd_some,Bool.not_true,cond_false]
theorem rL2_over(m f:Nat)(hf:0<f)(l:List (List Int))(x2 g i:Int)(j:Nat)(hj:j<400)(L:Int)(tog:Bool)(got:List Int)(er e:Int)(t:Bool)(w:List Int)(P q:List (List Int)):
  bRead_L2 m f l x2 g i (j:Int) (tR L tog got er true e) true 0 1 true 1 false 0 1 true 2 8 t false 0 1 false 2 8 false false w P q=some (.inr ((l,x2,g,i,()),tR L tog got er true e,(true,0,()),ky,(0,1,true,2,8,t,false,()),(0,1,false,2,8,false,false,()),(w,()),P,q,())):=by
 obtain⟨f,rfl⟩: ∃g,f=g+1:=⟨f - 1,by omega⟩
 rw[bRead_L2,dT (by omega:(j:Int)<400)]
 unfold bRead_J5 bRead_J1
 simp only[cond_true,bnextR_over,bnd_some,sumK_r]
theorem rL2_eq(m:Nat)(l:List (List Int))(x2:Int)(i:Nat)(hi:i<l.length)(P:List (List Int))(hP: ∀b∈P,b.length≤8)(hPl:P.length≤100)(L:Int)(b:List Int)(hbi:l.getD i []=b)(hbl:b.length≤60)(hL:(b.length:Int)+8≤L)(hL2:L≤65536)(c:List Int)(hc:c.length<8)(R:List (List Int)): ∀(f j a k g:Nat) (F:List (List Int)) (got:List Int) (er:Nat) (w:List Int),P.drop k=F++c::R→(∀x∈F,x.length=8)→got++(F.flatten++c)=b→a≤k→k≤a+1→a≤g→g≤P.length→g - a≤2→er≤2→j+2*(F.length+1)+w.length+(k - a)≤380→385 - j≤f→
  ∃(a2 g2:Nat) (w2:List Int) (t':TrT),bRead_L2 m f l x2 (g:Int) (i:Int) (j:Int) (tR L (par k) got er false 0) true 0 1 true 1 false 0 1 true 2 8 (par a) false 0 1 false 2 8 false false w P (sl P a g)=some (.inr ((l,x2,(g2:Int),(i:Int),()),t',(true,0,()),ky,(0,1,true,2,8,par a2,false,()),(0,1,false,2,8,false,false,()),(w2,()),P,sl P a2 g2,()))∧w2.length≤w.length∧a2≤g2∧g2≤P.length∧g2 - a2≤2∧
   ((∃(tog:Bool) (got2 rest:List Int) (er2:Int),t'=tR L tog got2 er2 true 11∧got2++rest=b)∨(∃k2:Nat,t'=tR L (par k2) b 0 true 0∧P.drop k2=R∧a2≤k2∧k2≤a2+1)):=by
 intro f
 induction f with
 |zero=>intro j a k g F got er w h1 h2 h3 h4 h5 h6 h7 h8 h9 h10 h11;omega
 |succ f ih=>
  intro j a k g F got er w h1 h2 h3 h4 h5 h6 h7 h8 h9 h10 h11
  have hkP:k<P.length:=by
   have:=congrArg List.length h1
   simp only[List.length_drop,List.length_append,List.length_cons]at this;omega
  obtain⟨a2,g2,w2,t',over,e,q1,q2,q3,q4,q5,q6,q7⟩:=rStep m f l x2 i j hi (by omega) P hP hPl L b hbi hbl hL hL2 a k g F c R h1 h2 hc got h3 h4 h5 h6 h7 h8 er h9 w
  rw[e]
  rcases q7 with⟨_,er2,rfl⟩|⟨_,rfl,rfl,q8⟩|⟨_,er2,z1,rfl,z2,z3⟩|⟨_,x,F',rfl,rfl,z2,z3⟩
  ·exact⟨a2,g2,w2,_,rL2_over m f (by omega) l x2 _ _ (j+1) (by omega) L _ _ _ _ _ _ _ _,q6,q3,q4,q5,.inl ⟨_,got,_,er2,rfl,h3⟩⟩
  ·refine⟨a2,g2,w2,_,rL2_over m f (by omega) l x2 _ _ (j+1) (by omega) L _ _ _ _ _ _ _ _,q6,q3,q4,q5,.inr ⟨k+1,rfl,?_,by omega,by omega⟩⟩
   have hdc:=drop_cons (d:=([]:List Int)) hkP
   rw[h1]at hdc
   simp only[List.nil_append,List.cons.injEq]at hdc
   exact hdc.2.symm
  ·obtain⟨a3,g3,w3,t3,y1,y2,y3,y4,y5,y6⟩:=ih (j+1) a2 k g2 F got er2 w2 h1 h2 h3 z2 (by omega) q3 q4 q5 z1 (by omega) (by omega)
   exact⟨a3,g3,w3,t3,y1,by omega,y3,y4,y5,y6⟩
  ·have hdc:=drop_cons (d:=([]:List Int)) hkP
   rw[h1]at hdc
   simp only[List.cons_append,List.cons.injEq]at hdc
   simp only[List.length_cons]at h10
   obtain⟨a3,g3,w3,t3,y1,y2,y3,y4,y5,y6⟩:=ih (j+1) a2 (k+1) g2 F' (got++x) 0 w2 hdc.2.symm (fun y hy=>h2 y (by simp[hy])) (by rw[←h3];simp) (by omega) (by omega) q3 q4 q5 (by omega) (by omega) (by omega)
   exact⟨a3,g3,w3,t3,y1,by omega,y3,y4,y5,y6⟩
end Go.Proofs.Ytngghkoghbpceaa
