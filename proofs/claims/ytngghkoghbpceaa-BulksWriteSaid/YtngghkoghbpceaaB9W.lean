/-
  The statement BulksWrite, the plain law: the rounds of one transfer.
  Conditions: none.
-/
import Derived.Test.YtngghkoghbpceaaB9V
namespace Go.Proofs.Ytngghkoghbpceaa
set_option linter.unusedVariables false
set_option linter.unusedSimpArgs false
set_option maxRecDepth 100000
set_option maxHeartbeats 4000000
theorem bL2_over(m f:Nat)(hf:0<f)(l:List (List Int))(room before i ack:Int)(j:Nat)(hj:j<400)(tog:Bool)(left:List (List Int))(act er e:Int)(a1:Bool)(a2 k1:Int)(b1:Bool)(k2:Int)(b2:Bool)(r0 n0:Int)(i0:Bool)(d0 m0:Int)(t0 h0:Bool)(r1 n1:Int)(i1:Bool)(d1 m1:Int)(t1 h1:Bool)(w all taken:List Int)(got:List (List Int)):
  bWrite_L2 m f l room before i ack (j:Int) (tW tog left act er true e) a1 a2 k1 b1 k2 b2 r0 n0 i0 d0 m0 t0 h0 r1 n1 i1 d1 m1 t1 h1 w all taken got=some (.inr ((l,room,before,i,ack,()),tW tog left act er true e,(a1,a2,()),((k1,b1,()),(k2,b2,()),()),(r0,n0,i0,d0,m0,t0,h0,()),(r1,n1,i1,d1,m1,t1,h1,()),(w,()),all,taken,got,())):=by
 obtain⟨f,rfl⟩: ∃g,f=g+1:=⟨f - 1,by omega⟩
 rw[bWrite_L2,dT (by omega:(j:Int)<400)]
 unfold bWrite_J4 bWrite_J1
 simp only[cond_true,bnext_over,bnd_some,sumK_r]
def sB(P:List (List Int))(d:Nat):Nat:=((P.take d).flatten).length
theorem bL2_eq(m:Nat)(hm:400≤m)(l:List (List Int))(room:Int)(hroom:0≤room∧room≤255)(P:List (List Int))(hP: ∀b∈P,b.length≤8)(hPl:P.length≤100)(R:List (List Int))(i:Int)(before:Nat)(hbf:before≤1000): ∀(f j d k:Nat) (left:List (List Int)) (er:Nat) (w:List Int) (rm:Int),P.drop d=left++R→left≠ []→before≤sB P d→d≤k→k≤d+1→k≤P.length→er≤2→j+2*(left.length+w.length)+(if((j:Int)+room) % 3=0 then 1 else 0)≤380→385 - j≤f→
  ∃(d2 k2:Nat) (left2:List (List Int)) (er2 e:Int) (w2:List Int) (rm2:Int),bWrite_L2 m f l room (before:Int) i (((sB P d - before:Nat)):Int) (j:Int) (tW (par d) left (((sB P d - before:Nat)):Int) (er:Int) false 0) true 0 1 true 1 false 0 1 true 2 8 false false rm 1 false 2 8 (par k) false w P.flatten ((P.take k).flatten) (P.take k)=some (.inr ((l,room,(before:Int),i,(((sB P d2 - before:Nat)):Int),()),tW (par d2) left2 (((sB P d2 - before:Nat)):Int) er2 true e,(true,0,()),ky,(0,1,true,2,8,false,false,()),(rm2,1,false,2,8,par k2,false,()),(w2,()),P.flatten,((P.take k2).flatten),P.take k2,()))∧d2≤k2∧k2≤d2+1∧k2≤P.length∧before≤sB P d2∧w2.length≤w.length∧(e=11∨(e=0∧left2= []∧P.drop d2=R)):=by
 intro f
 induction f with
 |zero=>intro j d k left er w rm h1 h2 h3 h4 h5 h6 h7 h8 h9;omega
 |succ f ih=>
  intro j d k left er w rm h1 h2 h3 h4 h5 h6 h7 h8 h9
  obtain⟨c,left,rfl⟩: ∃c q,left=c::q:=by cases left with
   |nil=>exact absurd rfl h2
   |cons c q=>exact⟨c,q,rfl⟩
  have hd:d<P.length:=by
   have:=congrArg List.length h1
   simp only[List.length_drop,List.length_append,List.length_cons]at this;omega
  have hcd:P.getD d []=c:=by
   have e:=drop_cons (d:=([]:List Int)) hd
   rw[h1]at e;simp only[List.cons_append,List.cons.injEq]at e;exact e.1.symm
  have hdr:P.drop (d+1)=left++R:=by
   have e:=drop_cons (d:=([]:List Int)) hd
   rw[h1]at e;simp only[List.cons_append,List.cons.injEq]at e;exact e.2.symm
  have hc8:c.length≤8:=by rw[←hcd];exact hP _ (getD_mem hd)
  have hPf:=fl_len P hP
  have hsd:sB P d≤P.flatten.length:=by unfold sB;rw[fl_split P d];simp
  have hs1:sB P (d+1)=sB P d+c.length:=by unfold sB;rw[fl_succ P d hd,hcd,List.length_append]
  have hs1l:sB P (d+1)≤P.flatten.length:=by unfold sB;rw[fl_split P (d+1)];simp
  have htl:((P.take k).flatten).length≤P.flatten.length:=by rw[fl_split P k];simp
  simp only[List.length_cons]at h8
  have hj:j≤380:=by omega
  rw[bWrite_L2,dT (by omega:(j:Int)<400)]
  unfold bWrite_J4 bWrite_J1
  simp only[cond_true,bnext_open m (par d) c left _ _ _ (by omega:c.length≤1000000),bnd_some,sumK_l]
  unfold bWrite_J2
  obtain⟨n,hn,hn0,hn2⟩: ∃n:Int,Int.tmod (Go.IntKind.wrap .i64 ((j:Int)+Go.IntKind.wrap .i64 room)) 3=n∧n=((j:Int)+room) % 3∧0≤n∧n≤2:=by
   refine⟨_,rfl,?_⟩
   rw[wi64 (x:=room) (by omega) (by omega),wi64 (by omega) (by omega),Int.tmod_eq_emod_of_nonneg (by omega)]
   omega
  rw[hn]
  simp only[show decide ((8:Int)=0)=false by decide,cond_false,dF (by omega: ¬n<0),dF (by omega: ¬4096<n)]
  obtain⟨r,rm2,k2,tk,w2,sent,e,q1,q2,q3,q4,q5,q6,q7,q8⟩:=w_do m P hP d k ⟨h4,h5⟩ hd h6 n hn2.1 w
  rw[hcd]at e
  have hgr:growOb 24 ((P.take k).length+tk.length)=true:=gr24 _ (by simp;omega)
  have hfl:(P.take k).flatten++tk.flatten=(P.take k2).flatten:=by rw[←List.flatten_append,q1]
  have htk:((P.take k).flatten).length+(tk.getD 0 []).length≤1000000:=by
   have:(tk.getD 0 []).length≤tk.flatten.length:=by cases tk with
    |nil=>simp
    |cons x y=>simp
   have h2:=congrArg List.length hfl
   have h3:((P.take k2).flatten).length≤P.flatten.length:=by rw[fl_split P k2];simp
   simp only[List.length_append]at h2
   omega
  simp only[e,bnd_some,btog_eq]
  have hF: ∀x:Int,(if x % 3=0 then 1 else 0:Nat)≤1:=by intro x;split<;>omega
  have hb0:Go.IntKind.wrap .i64 ((before:Int)+(((sB P d - before:Nat)):Int))=(((P.take d).flatten.length:Nat):Int):=by
   rw[wi64 (by omega) (by omega)];show _=((sB P d:Nat):Int);omega
  have hb1:Go.IntKind.wrap .i64 ((before:Int)+(((sB P (d+1) - before:Nat)):Int))=(((P.take (d+1)).flatten.length:Nat):Int):=by
   rw[wi64 (by omega) (by omega)];show _=((sB P (d+1):Nat):Int);omega
  have hwa:Go.IntKind.wrap .i64 ((((sB P (d+1) - before:Nat)):Int))=(((sB P (d+1) - before:Nat)):Int):=wi64 (by omega) (by omega)
  have hact:(((sB P d - before:Nat)):Int)+(c.length:Int)=(((sB P (d+1) - before:Nat)):Int):=by omega
  have hL3: ∀(ack:Int) (t:TrT) (tg:Bool),bWrite_L3 m m l room (before:Int) i ack (j:Int) tk 0 t true 0 1 true 1 false 0 1 true 2 8 false false rm2 1 false 2 8 tg false w2 P.flatten ((P.take k).flatten) (P.take k2)=some ((l,room,(before:Int),i,ack,(j:Int),()),t,(true,0,()),((1,true,()),(1,false,()),()),(0,1,true,2,8,false,false,()),(rm2,1,false,2,8,tg,false,()),(w2,()),P.flatten,((P.take k2).flatten),P.take k2,()):=by
   intro ack t tg
   rw[bL3_eq m (by omega) l room before i ack j tk q2 t true 0 1 true 1 false 0 1 true 2 8 false false rm2 1 false 2 8 tg false w2 _ _ _ htk,hfl]
  rcases q8 with⟨rfl,rfl⟩|⟨rfl,hnz⟩|⟨rfl,hw⟩
  ·simp only[bans_done m (par d) c left _ _ 0 [] (by omega:(0:Int)≤(((sB P d - before:Nat)):Int)) (by omega),bnd_some,hact]
   have htg:decide ((!par d)=par d)=false:=by cases par d<;>rfl
   by_cases hl:left= []
   ·subst hl
    simp only[decide_true,cond_true,btog_eq,bnd_some,htg,Bool.not_false,tkn9_eq,hgr,hwa,q1,hL3]
    rw[hb1,bJ3_eq m P hP (by omega) (d+1) (d+1) (by omega) (by omega) q4]
    simp only[cond_false]
    rw[wS j (by omega),←par_succ]
    refine⟨d+1,d+1,[],0,0,w2,rm2,bL2_over m f (by omega) l room before i _ (j+1) (by omega) _ _ _ _ _ _ _ _ _ _ _ _ _ _ _ _ _ _ _ _ _ _ _ _ _ _ _ _ _,by omega,by omega,q4,by omega,q7,.inr ⟨rfl,rfl,by simpa using hdr⟩⟩
   ·simp only[dF hl,cond_false,btog_eq,bnd_some,htg,Bool.not_false,cond_true,tkn9_eq,hgr,hwa,q1,hL3]
    rw[hb1,bJ3_eq m P hP (by omega) (d+1) (d+1) (by omega) (by omega) q4]
    simp only[cond_false]
    rw[wS j (by omega),←par_succ]
    obtain⟨d2,k3,left2,er2,e',w3,rm3,z1,z2,z3,z4,z5,z6,z7⟩:=ih (j+1) (d+1) (d+1) left 0 w2 rm2 hdr hl (by omega) (by omega) (by omega) q4 (by omega) (by have:=hF (((j+1:Nat):Int)+room);omega) (by omega)
    exact⟨d2,k3,left2,er2,e',w3,rm3,z1,z2,z3,z4,z5,by omega,z7⟩
  ·simp only[bans_nak,bnd_some,btog_eq,decide_true,Bool.not_true,cond_false,tkn9_eq,hgr,cond_true,q1,hL3]
   rw[hb0,bJ3_eq m P hP (by omega) d k2 (by omega) (by omega) q4]
   simp only[cond_false]
   rw[wS j (by omega)]
   have hz:((j:Int)+room) % 3=0:=by omega
   obtain⟨d2,k3,left2,er2,e',w3,rm3,z1,z2,z3,z4,z5,z6,z7⟩:=ih (j+1) d k2 (c::left) 0 w2 rm2 h1 h2 h3 q5 q6 q4 (by omega) (by rw[if_pos hz]at h8;rw[if_neg (by omega)];simp only[List.length_cons];omega) (by omega)
   exact⟨d2,k3,left2,er2,e',w3,rm3,z1,z2,z3,z4,z5,by omega,z7⟩
  ·have hwe:Go.IntKind.wrap .i64 ((er:Int)+1)=((er+1:Nat):Int):=wS er (by omega)
   simp only[bans_none,bnd_some,hwe]
   by_cases h3e:er=2
   ·subst h3e
    simp only[show decide (((2+1:Nat):Int)=3)=true by decide,cond_true,btog_eq,bnd_some,decide_true,Bool.not_true,cond_false,tkn9_eq,hgr,q1,hL3]
    rw[hb0,bJ3_eq m P hP (by omega) d k2 (by omega) (by omega) q4]
    simp only[cond_false]
    rw[wS j (by omega)]
    refine⟨d,k2,c::left,3,11,w2,rm2,bL2_over m f (by omega) l room before i _ (j+1) (by omega) _ _ _ _ _ _ _ _ _ _ _ _ _ _ _ _ _ _ _ _ _ _ _ _ _ _ _ _ _,q5,q6,q4,h3,by omega,.inl rfl⟩
   ·simp only[dF (by omega: ¬((er+1:Nat):Int)=3),cond_false,btog_eq,bnd_some,decide_true,Bool.not_true,tkn9_eq,hgr,cond_true,q1,hL3]
    rw[hb0,bJ3_eq m P hP (by omega) d k2 (by omega) (by omega) q4]
    simp only[cond_false]
    rw[wS j (by omega)]
    obtain⟨d2,k3,left2,er2,e',w3,rm3,z1,z2,z3,z4,z5,z6,z7⟩:=ih (j+1) d k2 (c::left) (er+1) w2 rm2 h1 h2 h3 q5 q6 q4 (by omega) (by have:=hF (((j+1:Nat):Int)+room);simp only[List.length_cons];omega) (by omega)
    exact⟨d2,k3,left2,er2,e',w3,rm3,z1,z2,z3,z4,z5,by omega,z7⟩
end Go.Proofs.Ytngghkoghbpceaa
