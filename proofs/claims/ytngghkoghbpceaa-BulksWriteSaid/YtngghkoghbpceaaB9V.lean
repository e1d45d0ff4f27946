/-
  The statement BulksWrite, the plain law, begun: what was taken is joined to the bytes; Next, Taken.
  Conditions: none.
-/
import Derived.Test.YtngghkoghbpceaaB9n
import Derived.Test.YtngghkoghbpceaaB9R
import Derived.Test.YtngghkoghbpceaaDoS9
namespace Go.Proofs.Ytngghkoghbpceaa
set_option linter.unusedVariables false
set_option linter.unusedSimpArgs false
set_option maxRecDepth 100000
set_option maxHeartbeats 2000000
theorem tkn9_eq(m:Nat)(room:Int)(tk:List (List Int))(t:Bool):tkn9_D m room tk 1 false 2 8 t false=some (tk,(room,1,false,2,8,t,false,()),()):=by
 unfold tkn9_D
 rw[dF (by decide: ¬(8:Int)=0),clipT,takeAll]
 rfl
theorem bnext_open(m:Nat)(tog:Bool)(c:List Int)(left:List (List Int))(act er e:Int)(hc:c.length≤1000000):bnextW_D m (tW tog (c::left) act er false e)=some (.inl (((0,1,tog,false,0,c,()),()),())):=by
 unfold bnextW_D tW
 have i0:inB 0 (c::left).length=true:=inT (by omega) (by simp only[List.length_cons];omega)
 simp only[show decide ((8:Int)=0)=false by decide,cond_false,cond_true,i0]
 have e2:(c::left).getD (Int.toNat 0) []=c:=rfl
 rw[e2,bclone_eq m c hc]
 rfl
theorem bnext_over(m:Nat)(tog:Bool)(left:List (List Int))(act er e:Int):bnextW_D m (tW tog left act er true e)=some (.inr (((0,0,0,false,false,0,[],()),()),())):=rfl
def par(n:Nat):Bool:=decide (n % 2=1)
theorem par_succ(n:Nat):par (n+1)= !par n:=by
 unfold par
 by_cases h:n % 2=1
 ·rw[dT h,dF (by omega: ¬(n+1) % 2=1)];rfl
 ·rw[dF h,dT (by omega:(n+1) % 2=1)];rfl
theorem tk_w(m:Nat)(tog:Bool)(b:List Int)(hb:b.length≤1024):tchk6_D m (0,1,1,tog,false,0,b,())=some (0,()):=by
 have h: ¬1024<(b.length:Int):=by omega
 unfold tchk6_D tchk6_J0 tchk6_J1 tchk6_J2 tchk6_J3
 cases tog<;>simp[h]
theorem chk_w(m:Nat):pkChk_D m (pT 1 0 1)=some (0,()):=by kernel_rfl
theorem w_do(m:Nat)(l:List (List Int))(hb: ∀b∈l,b.length≤8)(d k:Nat)(hk:d≤k∧k≤d+1)(hd:d<l.length)(hkl:k≤l.length)(n:Int)(hn:0≤n)(w:List Int):
  ∃(r:Int) (rm:Int) (k2:Nat) (tk:List (List Int)) (w2:List Int) (sent:List SntT),doWW_D m 0 1 (par d) false 0 (l.getD d []) true 0 1 true 1 false 0 1 true 2 8 false false n 1 false 2 8 (par k) false w=some (((r,[],()),sent,()),(true,0,()),ky,(0,1,true,2,8,false,false,()),(rm,tk,1,false,2,8,par k2,false,()),(w2,()),())∧
   l.take k++tk=l.take k2∧tk.length≤1∧k≤k2∧k2≤l.length∧d≤k2∧k2≤d+1∧w2.length≤w.length∧((r=1∧k2=d+1)∨(r=2∧n=0)∨(r=4∧w2.length<w.length)):=by
 have hx:=hb _ (getD_mem (d:= []) hd)
 obtain⟨r,w2,sent,hit,e,h1,h2,h3⟩:=doW_eq m 0 (chk_w m) (par d) (l.getD d []) hx (tk_w m _ _ (by omega)) 0 1 true 2 8 false false n (par k) w
 cases hit with
 |false=>
  obtain⟨hr,hw⟩:=h2 rfl
  refine⟨r,n,k,[],w2,sent,e,by simp,by simp,by omega,hkl,hk.1,hk.2,h1,.inr (.inr ⟨hr,hw⟩)⟩
 |true=>
  have h3:=h3 rfl
  simp only[cond_true]at e
  by_cases hkd:k=d
  ·subst hkd
   by_cases hn0:n=0
   ·have hw:wr (par k) (par k) n (l.getD k [])=(10,n,[],par k):=by unfold wr;rw[dT rfl,dT hn0];rfl
    rw[hw]at e h3
    refine⟨r,n,k,[],w2,sent,e,by simp,by simp,by omega,hkl,by omega,by omega,h1,?_⟩
    rcases h3 with h3|h3
    ·exact .inr (.inr h3)
    ·exact .inr (.inl ⟨h3,hn0⟩)
   ·have hw:wr (par k) (par k) n (l.getD k [])=(2,Go.IntKind.wrap .i64 (n - 1),[l.getD k []],par (k+1)):=by unfold wr;rw[dT rfl,dF hn0,par_succ];rfl
    rw[hw]at e h3
    refine⟨r,_,k+1,[l.getD k []],w2,sent,e,?_,by simp,by omega,by omega,by omega,by omega,h1,?_⟩
    ·rw[List.take_succ_eq_append_getElem hd,getD_lt hd]
    rcases h3 with h3|h3
    ·exact .inr (.inr h3)
    ·exact .inl ⟨h3,rfl⟩
  ·have hkd:k=d+1:=by omega
   subst hkd
   have hw:wr (par d) (par (d+1)) n (l.getD d [])=(2,n,[],par (d+1)):=by
    unfold wr;rw[dF (by rw[par_succ];cases par d<;>simp)];rfl
   rw[hw]at e h3
   refine⟨r,n,d+1,[],w2,sent,e,by simp,by simp,by omega,hkl,by omega,by omega,h1,?_⟩
   rcases h3 with h3|h3
   ·exact .inr (.inr h3)
   ·exact .inl ⟨h3,rfl⟩
theorem bL3_eq(m:Nat)(hm:3≤m)(l:List (List Int))(room before i ack j:Int)(p:List (List Int))(hp:p.length≤1)(t:TrT)(a1:Bool)(a2 k1:Int)(b1:Bool)(k2:Int)(b2:Bool)(r0 n0:Int)(i0:Bool)(d0 m0:Int)(t0 h0:Bool)(r1 n1:Int)(i1:Bool)(d1 m1:Int)(t1 h1:Bool)(w all taken:List Int)(got:List (List Int))(ht:taken.length+(p.getD 0 []).length≤1000000):
  bWrite_L3 m m l room before i ack j p 0 t a1 a2 k1 b1 k2 b2 r0 n0 i0 d0 m0 t0 h0 r1 n1 i1 d1 m1 t1 h1 w all taken got=some ((l,room,before,i,ack,j,()),t,(a1,a2,()),((k1,b1,()),(k2,b2,()),()),(r0,n0,i0,d0,m0,t0,h0,()),(r1,n1,i1,d1,m1,t1,h1,()),(w,()),all,taken++p.flatten,got,()):=by
 obtain⟨n,hn⟩: ∃n,m=n+2:=⟨m - 2,by omega⟩
 match p,hp with
 | [],_=>
  have e: ∀f,0<f→bWrite_L3 m f l room before i ack j [] 0 t a1 a2 k1 b1 k2 b2 r0 n0 i0 d0 m0 t0 h0 r1 n1 i1 d1 m1 t1 h1 w all taken got=some ((l,room,before,i,ack,j,()),t,(a1,a2,()),((k1,b1,()),(k2,b2,()),()),(r0,n0,i0,d0,m0,t0,h0,()),(r1,n1,i1,d1,m1,t1,h1,()),(w,()),all,taken++ [],got,()):=by
   intro f hf
   obtain⟨f,rfl⟩: ∃g,f=g+1:=⟨f - 1,by omega⟩
   rw[bWrite_L3,dF (by simp: ¬(0:Int)<(([]:List (List Int)).length:Nat)),List.append_nil]
   rfl
  exact e m (by omega)
 | [b],_=>
  have hg:growOb 1 (taken.length+(List.getD [b] (Int.toNat 0) ([]:List Int)).length)=true:=gr1 _ (by have:(List.getD [b] 0 ([]:List Int))=b:=rfl;rw[this]at ht;have e2:(List.getD [b] (Int.toNat 0) ([]:List Int))=b:=rfl;rw[e2];omega)
  have e: ∀f,1<f→bWrite_L3 m f l room before i ack j [b] 0 t a1 a2 k1 b1 k2 b2 r0 n0 i0 d0 m0 t0 h0 r1 n1 i1 d1 m1 t1 h1 w all taken got=some ((l,room,before,i,ack,j,()),t,(a1,a2,()),((k1,b1,()),(k2,b2,()),()),(r0,n0,i0,d0,m0,t0,h0,()),(r1,n1,i1,d1,m1,t1,h1,()),(w,()),all,taken++ [b].flatten,got,()):=by
   intro f hf
   obtain⟨f,rfl⟩: ∃g,f=g+2:=⟨f - 2,by omega⟩
   rw[bWrite_L3,dT (by simp:(0:Int)<(([b]:List (List Int)).length:Nat)),inT (by omega) (by simp:(0:Int)<(([b]:List (List Int)).length:Nat)),hg]
   simp only[cond_true]
   rw[show Go.IntKind.wrap .i64 ((0:Int)+1)=1 by decide,bWrite_L3,dF (by simp: ¬(1:Int)<(([b]:List (List Int)).length:Nat))]
   simp
  exact e m (by omega)
theorem fl_split(P:List (List Int))(k:Nat):P.flatten=(P.take k).flatten++(P.drop k).flatten:=by rw[←List.flatten_append,List.take_append_drop]
theorem fl_take(P:List (List Int))(k:Nat):List.take (((P.take k).flatten).length) P.flatten=(P.take k).flatten:=by
 rw[fl_split P k];simp
theorem fl_mono(P:List (List Int))(d k:Nat)(h:d≤k):((P.take d).flatten).length≤((P.take k).flatten).length:=by
 have:P.take k=P.take d++(P.take k).drop d:=by
  have e:=List.take_append_drop d (P.take k)
  rw[List.take_take,Nat.min_eq_left h]at e
  exact e.symm
 rw[this];simp
theorem fl_succ(P:List (List Int))(d:Nat)(h:d<P.length):(P.take (d+1)).flatten=(P.take d).flatten++P.getD d []:=by
 rw[getD_lt h]
 have:P.take (d+1)=P.take d++ [P[d]]:=List.take_succ_eq_append_getElem h
 rw[this,List.flatten_append]
 simp only[List.flatten_cons,List.flatten_nil,List.append_nil]
theorem fl_len(P:List (List Int))(hP: ∀b∈P,b.length≤8):P.flatten.length≤8*P.length:=by
 induction P with
 |nil=>simp
 |cons x P ih=>
  have:=hP x (by simp)
  have:=ih (fun b hb=>hP b (by simp[hb]))
  simp only[List.flatten_cons,List.length_append,List.length_cons];omega
theorem bJ3_eq{X:Type}(m:Nat)(P:List (List Int))(hP: ∀b∈P,b.length≤8)(hPl:P.length≤200)(d k:Nat)(h1:d≤k)(h2:k≤d+1)(h3:k≤P.length)(l:List (List Int))(x1 x2 x3 x4 x5:Int)(t:TrT)(a1:Bool)(a2 k1:Int)(b1:Bool)(k2:Int)(b2:Bool)(r0 n0:Int)(i0:Bool)(d0 m0:Int)(t0 h0:Bool)(r1 n1:Int)(i1:Bool)(d1 m1:Int)(t1 h1':Bool)(w:List Int)(got:List (List Int))(K:Bool→Option X):
  bWrite_J3 m l x1 x2 x3 x4 x5 (((P.take d).flatten.length:Nat):Int) t a1 a2 k1 b1 k2 b2 r0 n0 i0 d0 m0 t0 h0 r1 n1 i1 d1 m1 t1 h1' w P.flatten ((P.take k).flatten) got K=K false:=by
 have g0:=fl_len P hP
 have g1:((P.take k).flatten).length≤P.flatten.length:=by rw[fl_split P k];simp
 have g2:=fl_mono P d k h1
 have g3:((P.take k).flatten).length≤((P.take d).flatten).length+8:=by
  by_cases h:k=d
  ·subst h;omega
  ·have:k=d+1:=by omega
   subst this
   rw[fl_succ P d (by omega)]
   have:=hP _ (getD_mem (d:=([]:List Int)) (by omega:d<P.length))
   rw[List.length_append];omega
 unfold bWrite_J3
 rw[dT (by omega:(((P.take k).flatten.length:Nat):Int)≤((P.flatten.length:Nat):Int)),toNatC,dT (by omega:(0:Int)≤_),dT g1,fl_take,dT rfl,dF (by omega: ¬(((P.take k).flatten.length:Nat):Int)<(((P.take d).flatten.length:Nat):Int)),wi64 (by omega) (by omega),dF (by omega: ¬(((P.take d).flatten.length:Nat):Int)+8<(((P.take k).flatten.length:Nat):Int))]
 rfl
end Go.Proofs.Ytngghkoghbpceaa
