/-
  The statement ControlsFew: the plain law: the law's plain function is true.
  Conditions: none.
-/
import Derived.Test.YtngghkoghbpceaaFeA
import Derived.Test.YtngghkoghbpceaaN8f
namespace Go.Proofs.Ytngghkoghbpceaa
set_option linter.unusedVariables false
set_option linter.unusedSimpArgs false
set_option maxRecDepth 100000
set_option maxHeartbeats 4000000
theorem bad_append(a b:List Int):bad (a++b)=bad a+bad b:=by
 induction a with
 |nil=>simp[bad]
 |cons x l ih=>simp only[List.cons_append,bad,ih];omega
theorem bad_set(l:List Int): ∀(i:Nat) (v:Int),bad (l.set i v)≤bad l+1:=by
 induction l with
 |nil=>intro i v;simp[bad]
 |cons x l ih=>
  intro i v
  cases i with
  |zero=>simp only[List.set_cons_zero,bad];split<;>split<;>omega
  |succ i=>have:=ih i v;simp only[List.set_cons_succ,bad];omega
theorem bad_zeros: ∀n,bad (List.replicate n (0:Int))=0
 |0=>rfl
 |n+1=>by simp only[List.replicate_succ,bad,bad_zeros n];rfl
theorem faults6_L0_bad(m:Nat)(x:List Int)(hx:x.length≤1000): ∀(f i:Nat) (acc:List Int),i≤x.length→acc.length=i→x.length - i<f→ ∃w:List Int,w.length=x.length∧bad w≤bad acc+bad (x.drop i)∧faults6_L0 m f x (i:Int) acc=some ((),(w,())):=by
 intro f
 induction f with
 |zero=>intro i acc h1 h2 h3;omega
 |succ f ih=>
  intro i acc h1 h2 h3
  rw[faults6_L0]
  by_cases h:i<x.length
  ·rw[dT (by omega:(i:Int)<(x.length:Nat)),inT (by omega) (by omega:(i:Int)<(x.length:Nat)),gr1 _ (by simp;omega),wS i (by omega)]
   obtain⟨w,e1,e2,e3⟩:=ih (i+1) (acc++ [Int.tmod (List.getD x (Int.toNat (i:Int)) (0:Int)) (3:Int)]) (by omega) (by simp;omega) (by omega)
   refine⟨w,e1,?_,e3⟩
   rw[bad_append]at e2
   rw[drop_cons (d:=(0:Int)) h]
   rw[toNatC]at e2
   have:bad [Int.tmod (List.getD x i (0:Int)) (3:Int)]≤(if List.getD x i (0:Int)=0 then 0 else 1):=by
    by_cases hz:List.getD x i (0:Int)=0
    ·rw[hz];decide
    ·rw[if_neg hz];simp only[bad];split<;>omega
   simp only[bad]at e2 this ⊢
   omega
  ·rw[dF (by omega: ¬(i:Int)<(x.length:Nat))]
   exact⟨acc,by omega,by omega,rfl⟩
theorem cloneF_eq(m:Nat)(xs:List Int)(h:xs.length≤1000000):cloneF_D m xs=some ((),xs,()):=by
 unfold cloneF_D;rw[dT h];rfl
theorem wire6_bad(m:Nat)(x:List Int)(hx:x.length≤1000)(hm:x.length<m): ∃w:List Int,bad w≤bad x∧wire6_D m x=some ((),(w,()),()):=by
 obtain⟨w,h1,h3,h2⟩:=faults6_L0_bad m x hx m 0 [] (by omega) rfl (by omega)
 refine⟨w,by simpa[bad]using h3,?_⟩
 rw[show((0:Nat):Int)=0 from rfl]at h2
 unfold wire6_D faults6_D
 rw[h2]
 simp only[bns,cloneF_eq m w (by omega)]
theorem outL_L0_eq(m:Nat)(x0:Int×Int×Int×Int×Int×List Int×Int×Unit)(hd:x0.2.2.2.2.2.1.length≤300): ∀(f i:Nat) (l:List Int),i≤l.length→l.length≤65535→l.length - i<f→ ∃l2:List Int,l2.length=l.length∧outL_L0 m f (i:Int) x0 l=some ((),(l2,())):=by
 intro f
 induction f with
 |zero=>intro i l h1 h2 h3;omega
 |succ f ih=>
  intro i l h1 h2 h3
  rw[outL_L0]
  unfold outL_J0
  by_cases h:i<l.length
  ·rw[dT (by omega:(i:Int)<(l.length:Nat))]
   simp only[cond_true]
   by_cases hz:0<(x0.2.2.2.2.2.1.length:Int)
   ·have hnz: ¬(x0.2.2.2.2.2.1.length:Int)=0:=by omega
    have ht:Int.tmod (i:Int) (x0.2.2.2.2.2.1.length:Int)=((i % x0.2.2.2.2.2.1.length:Nat):Int):=by
     rw[Int.tmod_eq_emod_of_nonneg (by omega)];omega
    have hlt:i % x0.2.2.2.2.2.1.length<x0.2.2.2.2.2.1.length:=Nat.mod_lt _ (by omega)
    rw[dT hz,dF hnz,ht,inT (by omega) (by omega:((i % x0.2.2.2.2.2.1.length:Nat):Int)<(x0.2.2.2.2.2.1.length:Nat)),inT (by omega) (by omega:(i:Int)<(l.length:Nat)),toNatC,dT h,wS i (by omega)]
    simp only[cond_true,Bool.not_false]
    obtain⟨l2,e1,e2⟩:=ih (i+1) (l.set i (Go.IntKind.wrap .u8 (List.getD x0.2.2.2.2.2.1 (i % x0.2.2.2.2.2.1.length) 0+Go.IntKind.wrap .u8 (Go.IntKind.wrap .i64 (Int.tdiv (i:Int) (x0.2.2.2.2.2.1.length:Int)))))) (by simp;omega) (by simp;omega) (by simp;omega)
    refine⟨l2,by simpa using e1,?_⟩
    rw[toNatC]
    exact e2
   ·rw[dF hz]
    exact⟨l,rfl,rfl⟩
  ·rw[dF (by omega: ¬(i:Int)<(l.length:Nat))]
   exact⟨l,rfl,rfl⟩
theorem outL_eq(m:Nat)(r1 r2 r3 r4 r5:Int)(d:List Int)(n:Int)(h5:0≤r5∧r5≤300)(hd:d.length≤300)(hm:301≤m):
  ∃O:List Int,(O.length:Int)=(if wrB r1 r5 then r5 else 0)∧outL_D m (r1,r2,r3,r4,r5,d,n,())=some (O,()):=by
 have w5:Go.IntKind.wrap .i64 r5=r5:=wi64 (by omega) (by omega)
 cases hw:wrB r1 r5 with
 |false=>
  refine⟨[],by simp,?_⟩
  unfold outL_D
  simp only[rwrites_eq,bns,hw]
  rfl
 |true=>
  obtain⟨l2,e1,e2⟩:=outL_L0_eq m (r1,r2,r3,r4,r5,d,n,()) hd m 0 (List.replicate r5.toNat 0) (by omega) (by simp;omega) (by simp;omega)
  refine⟨l2,by rw[e1];simp;omega,?_⟩
  unfold outL_D
  simp only[rwrites_eq,bns,hw,w5,Bool.not_true,cond_false]
  rw[mkL 1 r5 (by omega) (by omega) (by omega)]
  simp only[cond_true]
  have e3:outL_L0 m m 0 (r1,r2,r3,r4,r5,d,n,()) (List.replicate (Int.toNat r5) 0)=some ((),(l2,())):=by simpa using e2
  rw[e3];rfl
theorem startA_eq(m:Nat)(q:Req)(hq:q.Ok):startA_D m (q.r1,q.r2,q.r3,q.r4,q.r5,()) q.O q.mx=some (.inl (((q.r1,q.r2,q.r3,q.r4,q.r5,q.O,q.mx,()),()),())):=by
 have h5:=hq.h5
 have hO:=hq.hO
 have hO2:=O_len q hq
 have w5:Go.IntKind.wrap .i64 q.r5=q.r5:=wi64 (by omega) (by omega)
 unfold startA_D
 simp only[fits8_eq m _ hq.hm,bns,Bool.not_true,cond_false,writes_eq m _ _ _ _ _ hq.h1.1 hq.h1.2,w5,clone8_eq m q.O (by omega)]
 cases hw:wrB q.r1 q.r5 with
 |true=>rw[if_pos hw]at hO;rw[dT hO];rfl
 |false=>rw[if_neg (by simp[hw])]at hO;rw[dT hO];rfl
theorem runA_eq(m:Nat)(hm:400≤m)(q:Req)(hq:q.Ok)(R1:Int)(R2:List Int)(hR:R2.length≤300)(cs:List ClT)(tok mz c1 c2 c3 c4 c5:Int)(b1 b2 b3 b4 b5:Bool)(at0:Int)(la:Bool)(fin:Int)(hz:mz=q.mx)(hb:Bs cs fin)(w:List Int)(hw2:bad w≤2):
  ∃b e tok',∃z':ZwT,∃r':Int×List Int×Unit,∃cs':List ClT,∃w':List Int,runA_D m q.r1 q.r2 q.r3 q.r4 q.r5 q.O q.mx 0 true 9 tok mz c1 c2 c3 c4 c5 b1 b2 b3 b4 b5 at0 la fin R1 R2 cs w=some ((b,e,()),(true,9,tok',()),z',r',cs',(w',()),())∧RunR q R1 R2 cs fin z' r' cs' e b∧bad w'≤2:=by
 subst hz
 have hO2:=O_len q hq
 have h5:=hq.h5
 unfold runA_D
 cases hw:wrQ q.r1 q.r5 with
 |true=>
  obtain⟨t',tok',tg',at2,er',e',z',r',cs',w',h,hR',hbw⟩:=loopAW m hm q hq hw R1 R2 hR cs fin hb 2 m 0 (⟨⟨[]⟩⟩:ByteArray) tok c1 c2 c3 c4 c5 b1 b2 b3 b4 b5 at0 la 0 w (by omega) (by omega) hw2 (by omega) (by omega) (by decide)
  refine⟨[],e',tok',z',r',cs',w',?_,⟨hR'.mx,hR'.rr,hR'.cs,hR'.fin,hR'.gl,hR'.ee⟩,by omega⟩
  simp only[cond_true]
  unfold runAW_D
  rw[show((0:Nat):Int)=0 from rfl]at h
  rw[h,bns,sumK_r]
  have he:=end_over m q tg' at2 [] er' e' (by simp)
  rw[show(if e'=0 then([]:List Int)else [])= []by split<;>rfl]at he
  simp only[he,bns]
 |false=>
  have hO:q.O= []:=by
   have:=hq.hO
   rw[if_neg (by rw[show wrB q.r1 q.r5=false from hw];simp)]at this
   exact List.length_eq_zero_iff.1 (by omega)
  obtain⟨t',tok',tg',er',got',e',z',r',cs',w',h,hR',hbw⟩:=loopAZ m hm q hq hO hw R1 R2 hR cs fin hb 2 m 0 (⟨⟨[]⟩⟩:ByteArray) tok c1 c2 c3 c4 c5 b1 b2 b3 b4 b5 at0 la 0 w (by omega) (by omega) hw2 (by omega) (by omega) (by decide)
  refine⟨(if e'=0 then got' else []),e',tok',z',r',cs',w',?_,⟨hR'.mx,hR'.rr,hR'.cs,hR'.fin,?_,hR'.ee⟩,by omega⟩
  ·simp only[cond_false]
   unfold runAZ_D
   rw[show((0:Nat):Int)=0 from rfl]at h
   rw[h,bns,sumK_r]
   simp only[end_over m q tg' 0 got' er' e' (by have:=hR'.gl;omega),bns]
  ·have:=hR'.gl
   split
   ·exact this
   ·simp;omega
theorem w011:Go.IntKind.wrap .i64 (Go.IntKind.wrap .i64 ((0:Int)+1)+1)=2:=by decide
theorem few_true(r1 r2 r3 r4 r5:Int)(d:List Int)(n s1 s2 s3 s4 s5:Int)(dd:List Int)(n2:Int)(R1:Int)(R2:List Int)(a0 a1:Int)
  (h1:0≤r1∧r1<256)(h2:0≤r2∧r2<256)(h3:0≤r3∧r3<65536)(h4:0≤r4∧r4<65536)(h5:0≤r5)(hn:0≤n)
  (k1:0≤s1∧s1<256)(k2:0≤s2∧s2<256)(k3:0≤s3∧s3<65536)(k4:0≤s4∧s4<65536)(k5:0≤s5)(ha0:0≤a0∧a0<256)(ha1:0≤a1∧a1<256):
  fewL_D 1000 (r1,r2,r3,r4,r5,d,n,s1,s2,s3,s4,s5,dd,n2,()) (R1,R2,()) (a0,a1,())=some (true,()):=by
 unfold fewL_D
 simp only
 by_cases g1:300<r5
 ·rw[dT g1];rfl
 by_cases g2:(300:Int)<(d.length:Nat)
 ·rw[dF g1,dT g2];rfl
 by_cases g3:300<s5
 ·rw[dF g1,dF g2,dT g3];rfl
 by_cases g4:(300:Int)<(dd.length:Nat)
 ·rw[dF g1,dF g2,dF g3,dT g4];rfl
 by_cases g5:(300:Int)<(R2.length:Nat)
 ·rw[dF g1,dF g2,dF g3,dF g4,dT g5];rfl
 have l256:(List.replicate (Int.toNat (256:Int)) (0:Int)).length=256:=by simp
 generalize hZ:List.replicate (Int.toNat (256:Int)) (0:Int)=Z at l256
 have hbz:bad Z=0:=by rw[←hZ];exact bad_zeros _
 have l2:(Z.set (Int.toNat a0) 1).length=256:=by simp[l256]
 rw[dF g1,dF g2,dF g3,dF g4,dF g5,inT ha0.1 (by omega:a0<((Z.length:Nat):Int)),dT (show Int.toNat a0<Z.length by omega),inT ha1.1 (by omega:a1<(((Z.set (Int.toNat a0) 1).length:Nat):Int)),dT (show Int.toNat a1<(Z.set (Int.toNat a0) 1).length by omega)]
 simp only[cond_false,cond_true,Bool.and_self]
 obtain⟨mx,hsz,hmx⟩:=sizes_eq 1000 n hn
 obtain⟨O1,hO1,hout⟩:=outL_eq 1000 r1 r2 r3 r4 r5 d n ⟨h5,by omega⟩ (by omega) (by omega)
 obtain⟨O2,hO2,hout2⟩:=outL_eq 1000 s1 s2 s3 s4 s5 dd n2 ⟨k5,by omega⟩ (by omega) (by omega)
 obtain⟨w0,hw0,hwire⟩:=wire6_bad 1000 ((Z.set (Int.toNat a0) 1).set (Int.toNat a1) 2) (by simp[l256]) (by simp[l256])
 have hw02:bad w0≤2:=by
  have q1:=bad_set Z (Int.toNat a0) 1
  have q2:=bad_set (Z.set (Int.toNat a0) 1) (Int.toNat a1) 2
  omega
 have hq:Req.Ok ⟨r1,r2,r3,r4,r5,O1,mx⟩:=⟨h1,h2,h3,h4,⟨h5,show r5≤300 by omega⟩,hO1,hmx⟩
 have hst:=startA_eq 1000 ⟨r1,r2,r3,r4,r5,O1,mx⟩ hq
 simp only at hst
 obtain⟨bb1,e1,tk1,z1,rr1,cs1,w1,hrun,hR1,hbad1⟩:=runA_eq 1000 (by omega) ⟨r1,r2,r3,r4,r5,O1,mx⟩ hq R1 R2 (by omega) [] 0 mx 0 0 0 0 0 false false false false false 0 false 0 rfl ⟨by simp,by omega,by omega⟩ w0 hw02
 simp only at hrun
 obtain⟨m1,d1,d2',d3,d4,d5,g1',g2',g3',g4',g5',at1,la1,f1,⟨⟩⟩:=z1
 obtain⟨x1,x2,x3,x4,x5,x6⟩:=hR1
 simp only at x1 x4 x5 x6
 subst x1 x2
 subst x3
 have h8:(0:Int)≤Int.tmod r2 8:=by rw[Int.tmod_eq_emod_of_nonneg h2.1];omega
 have w51:Go.IntKind.wrap .i64 r5=r5:=wi64 (by omega) (by omega)
 have t1:decide (Int.toNat (2 - 1:Int)<0+1+1)=true:=by decide
 have w01:Go.IntKind.wrap .i64 ((0:Int)+1)=1:=by decide
 simp only[hsz,bns,fits8_eq 1000 m1 hmx,Bool.not_true,cond_false,hwire,hout,hst,sumK_l,hrun]
 simp only[List.nil_append,callOf,List.length_cons,List.length_nil,w01,inB,List.getD_cons_zero,Int.toNat_zero,decide_true,Bool.and_self,Bool.not_true,cond_false,cond_true,dT h8]
 rcases x6 with⟨rfl,hf⟩|⟨rfl,hf⟩
 ·unfold rfB at hf
  rw[hf]
  simp only[cond_false,decide_true,Bool.not_true,w51,dF (show ¬r5<((bb1.length:Nat):Int)by omega)]
  ·skip
   have hq2:Req.Ok ⟨s1,s2,s3,s4,s5,O2,m1⟩:=⟨k1,k2,k3,k4,⟨k5,show s5≤300 by omega⟩,hO2,hmx⟩
   have hst2:=startA_eq 1000 ⟨s1,s2,s3,s4,s5,O2,m1⟩ hq2
   simp only at hst2
   have hbs2:Bs [(r1,r2,r3,r4,r5,O1,())] f1:=⟨by simp,by omega,by omega⟩
   obtain⟨bb2,e2,tk2,z2,rr2,cs2,w2,hrun2,hR2,hbad2⟩:=runA_eq 1000 (by omega) ⟨s1,s2,s3,s4,s5,O2,m1⟩ hq2 R1 R2 (by omega) [(r1,r2,r3,r4,r5,O1,())] tk1 m1 d1 d2' d3 d4 d5 g1' g2' g3' g4' g5' at1 la1 f1 rfl hbs2 w1 hbad1
   simp only at hrun2
   obtain⟨y1,y2,y3,y4,y5,y6⟩:=hR2
   simp only at y1 y5 y6
   subst y3
   have h82:(0:Int)≤Int.tmod s2 8:=by rw[Int.tmod_eq_emod_of_nonneg k2.1];omega
   simp only[hout2,bns,hsz,hst2,sumK_l,hrun2]
   simp only[List.cons_append,List.nil_append,List.length_cons,List.length_nil,callOf,w011,inB,List.getD_cons_succ,List.getD_cons_zero,decide_true,Bool.and_self,Bool.not_true,cond_false,cond_true,dT h82,t1]
   have c1:decide (((0+1:Nat):Int)=1)=true:=by decide
   have c2:decide (((0+1+1:Nat):Int)=Go.IntKind.wrap .i64 ((1:Int)+1))=true:=by decide
   have c3:decide ((0:Int)≤0)=true:=by decide
   have c4:decide (0<0+1)=true:=by decide
   have c5:decide ((0:Int)≤1)=true:=by decide
   have c6:decide (Int.toNat (1:Int)<0+1+1)=true:=by decide
   have c7: ∀(a b z:ClT),List.getD [a,b] (Int.toNat (1:Int)) z=b:=fun _ _ _=>rfl
   have fend: ∀(u:Option (Bool×Unit)),u=(bif decide (z2.1=0)then(bnd (lives8_D 1000) fun y=>some y)else(bif decide (z2.2.2.2.2.2.2.2.2.2.2.2.2.2.1≤2)then(bnd (lives8_D 1000) fun y=>some y)else some (false,())))→u=some (true,()):=by
    intro u hu
    rw[hu,dT (show z2.2.2.2.2.2.2.2.2.2.2.2.2.2.1≤2 by omega)]
    cases decide (z2.1=0)<;>rfl
   have w52:Go.IntKind.wrap .i64 s5=s5:=wi64 (by omega) (by omega)
   rcases y6 with⟨rfl,hf2⟩|⟨rfl,hf2⟩
   ·unfold rfB at hf2
    simp only[hf2,cond_false,decide_true,Bool.not_true,c1,c2,c3,c4,c5,c6,c7,Bool.and_self,cond_true,dT h82,w52,dF (show ¬s5<((bb2.length:Nat):Int)by omega)]
    exact fend _ rfl
   ·unfold rfB at hf2
    simp only[c1,c2,c3,c4,c5,c6,c7,Bool.and_self,dT h82,hf2,cond_true,decide_true,Bool.not_true,cond_false]
    exact fend _ rfl
 ·unfold rfB at hf
  rw[hf]
  simp only[cond_true,decide_true,Bool.not_true,cond_false]
  ·skip
   have hq2:Req.Ok ⟨s1,s2,s3,s4,s5,O2,m1⟩:=⟨k1,k2,k3,k4,⟨k5,show s5≤300 by omega⟩,hO2,hmx⟩
   have hst2:=startA_eq 1000 ⟨s1,s2,s3,s4,s5,O2,m1⟩ hq2
   simp only at hst2
   have hbs2:Bs [(r1,r2,r3,r4,r5,O1,())] f1:=⟨by simp,by omega,by omega⟩
   obtain⟨bb2,e2,tk2,z2,rr2,cs2,w2,hrun2,hR2,hbad2⟩:=runA_eq 1000 (by omega) ⟨s1,s2,s3,s4,s5,O2,m1⟩ hq2 R1 R2 (by omega) [(r1,r2,r3,r4,r5,O1,())] tk1 m1 d1 d2' d3 d4 d5 g1' g2' g3' g4' g5' at1 la1 f1 rfl hbs2 w1 hbad1
   simp only at hrun2
   obtain⟨y1,y2,y3,y4,y5,y6⟩:=hR2
   simp only at y1 y5 y6
   subst y3
   have h82:(0:Int)≤Int.tmod s2 8:=by rw[Int.tmod_eq_emod_of_nonneg k2.1];omega
   simp only[hout2,bns,hsz,hst2,sumK_l,hrun2]
   simp only[List.cons_append,List.nil_append,List.length_cons,List.length_nil,callOf,w011,inB,List.getD_cons_succ,List.getD_cons_zero,decide_true,Bool.and_self,Bool.not_true,cond_false,cond_true,dT h82,t1]
   have c1:decide (((0+1:Nat):Int)=1)=true:=by decide
   have c2:decide (((0+1+1:Nat):Int)=Go.IntKind.wrap .i64 ((1:Int)+1))=true:=by decide
   have c3:decide ((0:Int)≤0)=true:=by decide
   have c4:decide (0<0+1)=true:=by decide
   have c5:decide ((0:Int)≤1)=true:=by decide
   have c6:decide (Int.toNat (1:Int)<0+1+1)=true:=by decide
   have c7: ∀(a b z:ClT),List.getD [a,b] (Int.toNat (1:Int)) z=b:=fun _ _ _=>rfl
   have fend: ∀(u:Option (Bool×Unit)),u=(bif decide (z2.1=0)then(bnd (lives8_D 1000) fun y=>some y)else(bif decide (z2.2.2.2.2.2.2.2.2.2.2.2.2.2.1≤2)then(bnd (lives8_D 1000) fun y=>some y)else some (false,())))→u=some (true,()):=by
    intro u hu
    rw[hu,dT (show z2.2.2.2.2.2.2.2.2.2.2.2.2.2.1≤2 by omega)]
    cases decide (z2.1=0)<;>rfl
   have w52:Go.IntKind.wrap .i64 s5=s5:=wi64 (by omega) (by omega)
   rcases y6 with⟨rfl,hf2⟩|⟨rfl,hf2⟩
   ·unfold rfB at hf2
    simp only[hf2,cond_false,decide_true,Bool.not_true,c1,c2,c3,c4,c5,c6,c7,Bool.and_self,cond_true,dT h82,w52,dF (show ¬s5<((bb2.length:Nat):Int)by omega)]
    exact fend _ rfl
   ·unfold rfB at hf2
    simp only[c1,c2,c3,c4,c5,c6,c7,Bool.and_self,dT h82,hf2,cond_true,decide_true,Bool.not_true,cond_false]
    exact fend _ rfl
end Go.Proofs.Ytngghkoghbpceaa
