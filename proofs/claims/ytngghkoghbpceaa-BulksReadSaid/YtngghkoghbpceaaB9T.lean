/-
  The statement BulksRead, the plain law: one round of a transfer that reads.
  Conditions: none.
-/
import Derived.Test.YtngghkoghbpceaaB9S
import Derived.Test.YtngghkoghbpceaaB9q
import Derived.Test.YtngghkoghbpceaaDoR9
namespace Go.Proofs.Ytngghkoghbpceaa
set_option linter.unusedVariables false
set_option linter.unusedSimpArgs false
set_option maxRecDepth 100000
set_option maxHeartbeats 4000000
def par(n:Nat):Bool:=decide (n % 2=1)
theorem par_succ(n:Nat):par (n+1)= !par n:=by
 unfold par
 by_cases h:n % 2=1
 ·rw[dT h,dF (by omega: ¬(n+1) % 2=1)];rfl
 ·rw[dF h,dT (by omega:(n+1) % 2=1)];rfl
def sl(l:List (List Int))(a g:Nat):List (List Int):=(l.take g).drop a
theorem sl_len{l:List (List Int)}{a g:Nat}(hg:g≤l.length):(sl l a g).length=g - a:=by simp[sl];omega
theorem sl_snoc{l:List (List Int)}{a g:Nat}(ha:a≤g)(hg:g<l.length):sl l a g++ [l.getD g []]=sl l a (g+1):=by
 unfold sl
 rw[List.take_succ_eq_append_getElem hg,getD_lt hg,List.drop_append_of_le_length (by simp;omega)]
theorem sl_cons{l:List (List Int)}{a g:Nat}(ha:a<g)(hg:g≤l.length):sl l a g=l.getD a []::sl l (a+1) g:=by
 unfold sl
 have h:a<(l.take g).length:=by simp;omega
 rw[drop_cons (d:=([]:List Int)) h]
 congr 1
 rw[getD_lt h,getD_lt (by omega:a<l.length)]
 simp
theorem sl_mem{l:List (List Int)}{a g:Nat}{b:List Int}(h:b∈sl l a g):b∈l:=List.mem_of_mem_take (List.mem_of_mem_drop h)
theorem offO_eq(m:Nat)(b:List Int)(hb:b.length≤8)(t:Bool)(q:List (List Int))(hq:q.length<2):offO_D m b 0 1 true 2 8 t false q=some (.inl ((),(0,1,true,2,8,t,false,()),q++ [b],())):=by
 unfold offO_D
 rw[dF (by decide: ¬(8:Int)=0),dF (by omega: ¬8<(b.length:Int)),dF (by omega: ¬2≤(q.length:Int)),eclone_eq m b (by omega)]
 simp only[cond_false,Bool.not_true,bnd_some]
 rw[gr24 _ (by simp;omega),dT (by decide:(41:Nat)<nat_lit 45)]
 rfl
theorem offO_full(m:Nat)(b:List Int)(hb:b.length≤8)(t:Bool)(q:List (List Int))(hq: ¬q.length<2):offO_D m b 0 1 true 2 8 t false q=some (.inr (9,(0,1,true,2,8,t,false,()),q,())):=by
 unfold offO_D
 rw[dF (by decide: ¬(8:Int)=0),dF (by omega: ¬8<(b.length:Int)),dT (by omega:2≤(q.length:Int))]
 rfl
theorem tk_r(m:Nat)(tog:Bool):tchk6_D m (0,1,9,tog,false,8,[],())=some (0,()):=by cases tog<;>kernel_rfl
theorem chk_r(m:Nat):pkChk_D m (pT 9 0 1)=some (0,()):=by kernel_rfl
theorem rTail(m:Nat)(P:List (List Int))(hP: ∀b∈P,b.length≤8)(L:Int)(b:List Int)(hbl:b.length≤60)(hL:(b.length:Int)+8≤L)(hL2:L≤65536)(a k g2:Nat)(F:List (List Int))(c:List Int)(R:List (List Int))(hk:P.drop k=F++c::R)(hF: ∀x∈F,x.length=8)(hc:c.length<8)(got:List Int)(hgot:got++(F.flatten++c)=b)(ha:a≤k)(hka:k≤a+1)(hag:a<g2)(hg:g2≤P.length)(er:Nat)(her:er≤2)(w:List Int):
  ∃(r:Int) (dt:List Int) (a2:Nat) (w2:List Int) (sent:List SntT) (t':TrT) (x:Int×List Int×Int×Unit) (over:Bool),
   doRR_D m 0 1 (par k) false 8 [] true 0 1 true 1 false 0 1 true 2 8 (par a) false (sl P a g2) 0 1 false 2 8 false false w=some (((r,dt,()),sent,()),(true,0,()),ky,(0,1,true,2,8,par a2,false,()),sl P a2 g2,(0,1,false,2,8,false,false,()),(w2,()),())∧
   banswerR_D m (tR L (par k) got er false 0) (r,dt,())=some (t',())∧bend_D m t'=some ((x,over,()),())∧(over=true→beg9_D m b x.2.1=some (true,()))∧a≤a2∧a2≤a+1∧w2.length≤w.length∧
   ((over=true∧ ∃er2:Int,t'=tR L (par k) got er2 true 11)∨
    (over=true∧F= []∧t'=tR L (par (k+1)) b 0 true 0∧k≤a2)∨
    (over=false∧ ∃er2:Nat,er2≤2∧t'=tR L (par k) got er2 false 0∧a2≤k∧w2.length+(k - a2)<w.length+(k - a))∨
    (over=false∧ ∃x F',F=x::F'∧t'=tR L (par (k+1)) (got++x) ((0:Nat):Int) false 0∧k≤a2∧w2.length+(k+1 - a2)≤w.length+1)):=by
 have hlen:=congrArg List.length hgot
 simp only[List.length_append]at hlen
 have hkP:k<P.length:=by
  have:=congrArg List.length hk
  simp only[List.length_drop,List.length_append,List.length_cons]at this;omega
 obtain⟨r,dt,t2,q2,w2,sent,e,hw,hcs⟩:=doR_eq m 0 (chk_r m) (par k) (tk_r m _) 0 (par a) 0 1 false 2 8 false false (sl P a g2) (fun x h=>hP x (sl_mem h)) w
 have hbeg:beg9_D m b got=some (true,()):=by rw[←hgot];exact beg9_eq m got _
 rcases hcs with⟨rfl,rfl,rfl,hw2⟩|⟨hq,_⟩|⟨bb,q0,hq,hr,hs⟩
 ·have hb:=bansR_none m L (par k) got er dt
  rw[wS er (by omega)]at hb
  by_cases h3:er=2
  ·subst h3
   rw[show decide (((2+1:Nat):Int)=3)=true by decide]at hb
   refine⟨4,dt,a,w2,sent,_,_,true,e,hb,bendR_eq m L _ got _ 11 true (by omega),fun _=>hbeg,by omega,by omega,hw,.inl ⟨rfl,_,rfl⟩⟩
  ·rw[dF (by omega: ¬((er+1:Nat):Int)=3)]at hb
   refine⟨4,dt,a,w2,sent,_,_,false,e,hb,bendR_eq m L _ got _ 0 false (by omega),fun h=>(by cases h),by omega,by omega,hw,.inr (.inr (.inl ⟨rfl,er+1,by omega,rfl,by omega,by omega⟩))⟩
 ·have:=sl_len (l:=P) (a:=a) hg
  rw[hq]at this;simp only[List.length_nil]at this;omega
 ·have hcons:=sl_cons (l:=P) hag hg
  rw[hq]at hcons
  simp only[List.cons.injEq]at hcons
  obtain⟨rfl,rfl⟩:=hcons
  rcases hr with⟨hpar,rfl,rfl⟩|⟨hpar,rfl⟩
  ·have hak:a=k:=by
    by_cases h:a=k
    ·exact h
    ·have hk1:k=a+1:=by omega
     rw[hk1,par_succ]at hpar
     cases hp:par a<;>rw[hp]at hpar<;>cases hpar
   subst hak
   have hA2: ∃a2:Nat,t2=par a2∧q2=sl P a2 g2∧a≤a2∧a2≤a+1∧w2.length+(a+1 - a2)≤w.length+0:=by
    rcases hs with⟨h1,h2⟩|⟨h1,h2,h3⟩
    ·exact⟨a+1,by rw[h1,par_succ],h2,by omega,by omega,by omega⟩
    ·exact⟨a,h1,by rw[h2,hq],by omega,by omega,by omega⟩
   obtain⟨a2,rfl,rfl,g1,g3,g4⟩:=hA2
   have hdc:=drop_cons (d:=([]:List Int)) hkP
   rw[hk]at hdc
   cases F with
   |nil=>
    simp only[List.nil_append,List.cons.injEq]at hdc
    have hbb:P.getD a []=c:=hdc.1.symm
    rw[hbb]at e
    have hgb:got++c=b:=by simpa using hgot
    have hb:=bansR_done m L (par a) got c er (by omega) (by simp at hlen;omega) hL2
    rw[dT hc,hgb]at hb
    refine⟨1,c,a2,w2,sent,_,_,true,e,hb,bendR_eq m L _ b 0 0 true (by omega),fun _=>by have:=beg9_eq m b [];rwa [List.append_nil]at this,by omega,by omega,hw,.inr (.inl ⟨rfl,rfl,by rw[par_succ];rfl,by omega⟩)⟩
   |cons y F'=>
    simp only[List.cons_append,List.cons.injEq]at hdc
    have hbb:P.getD a []=y:=hdc.1.symm
    rw[hbb]at e
    have hy:=hF y (by simp)
    have hb:=bansR_done m L (par a) got y er (by omega) (by simp at hlen;omega) hL2
    rw[dF (by omega: ¬y.length<8)]at hb
    refine⟨1,y,a2,w2,sent,_,_,false,e,hb,bendR_eq m L _ (got++y) 0 0 false (by simp at hlen ⊢;omega),fun h=>(by cases h),by omega,by omega,hw,.inr (.inr (.inr ⟨rfl,y,F',rfl,by rw[par_succ];rfl,by omega,by omega⟩))⟩
  ·have hak:k=a+1:=by
    by_cases h:a=k
    ·subst h;exact absurd rfl hpar
    ·omega
   have hb:=bansR_again m L (par k) got er dt
   rcases hs with⟨rfl,rfl⟩|⟨rfl,rfl,hw2⟩
   ·rw[←par_succ]at e
    refine⟨6,dt,a+1,w2,sent,_,_,false,e,hb,bendR_eq m L _ got _ 0 false (by omega),fun h=>(by cases h),by omega,by omega,hw,.inr (.inr (.inl ⟨rfl,0,by omega,rfl,by omega,by omega⟩))⟩
   ·refine⟨6,dt,a,w2,sent,_,_,false,e,hb,bendR_eq m L _ got _ 0 false (by omega),fun h=>(by cases h),by omega,by omega,hw,.inr (.inr (.inl ⟨rfl,0,by omega,rfl,by omega,by omega⟩))⟩
end Go.Proofs.Ytngghkoghbpceaa
