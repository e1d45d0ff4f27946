/-
  The statement ControlsOnce: the plain law, part 6: the law's plain functions are true.
  Conditions: none.
-/
import Derived.Test.YtngghkoghbpceaaOnP
import Derived.Test.YtngghkoghbpceaaOnX
import Derived.Test.YtngghkoghbpceaaN8q
import Derived.Test.YtngghkoghbpceaaN8k
namespace Go.Proofs.Ytngghkoghbpceaa
set_option linter.unusedVariables false
set_option linter.unusedSimpArgs false
set_option maxRecDepth 100000
set_option maxHeartbeats 4000000
theorem faults6_L0_eq(m:Nat)(x:List Int)(hx:x.length≤1000): ∀(f i:Nat) (acc:List Int),i≤x.length→acc.length=i→x.length - i<f→ ∃w:List Int,w.length=x.length∧faults6_L0 m f x (i:Int) acc=some ((),(w,())):=by
 intro f
 induction f with
 |zero=>intro i acc h1 h2 h3;omega
 |succ f ih=>
  intro i acc h1 h2 h3
  rw[faults6_L0]
  by_cases h:i<x.length
  ·rw[dT (by omega:(i:Int)<(x.length:Nat)),inT (by omega) (by omega:(i:Int)<(x.length:Nat)),gr1 _ (by simp;omega),wS i (by omega)]
   exact ih (i+1) _ (by omega) (by simp;omega) (by omega)
  ·rw[dF (by omega: ¬(i:Int)<(x.length:Nat))]
   exact⟨acc,by omega,rfl⟩
theorem cloneF_eq(m:Nat)(xs:List Int)(h:xs.length≤1000000):cloneF_D m xs=some ((),xs,()):=by
 unfold cloneF_D;rw[dT h];rfl
theorem wire6_eq(m:Nat)(x:List Int)(hx:x.length≤1000)(hm:x.length<m): ∃w:List Int,w.length=x.length∧wire6_D m x=some ((),(w,()),()):=by
 obtain⟨w,h1,h2⟩:=faults6_L0_eq m x hx m 0 [] (by omega) rfl (by omega)
 refine⟨w,h1,?_⟩
 rw[show((0:Nat):Int)=0 from rfl]at h2
 unfold wire6_D faults6_D
 rw[h2]
 simp only[bnd_some,cloneF_eq m w (by omega)]
theorem outL_L0_eq(m:Nat)(x0:Int×Int×Int×Int×Int×List Int×Int×Unit)(hd:x0.2.2.2.2.2.1.length≤300): ∀(f i:Nat) (l:List Int),i≤l.length→l.length≤65535→l.length - i<f→ ∃l2:List Int,l2.length=l.length∧outL_L0 m f (i:Int) x0 l=some ((),(l2,())):=by
 intro f
 induction f with
 |zero=>intro i l h1 h2 h3;omega
 |succ f ih=>
  intro i l h1 h2 h3
  rw[outL_L0]
  unfold outL_J0
  by_cases h:i<l.length
  ·rw[dT (by omega:(i:Int)<(l.length:Nat))]
   simp only[cond_true]
   by_cases hz:0<(x0.2.2.2.2.2.1.length:Int)
   ·have hnz: ¬(x0.2.2.2.2.2.1.length:Int)=0:=by omega
    have ht:Int.tmod (i:Int) (x0.2.2.2.2.2.1.length:Int)=((i % x0.2.2.2.2.2.1.length:Nat):Int):=by
     rw[Int.tmod_eq_emod_of_nonneg (by omega)];omega
    have hlt:i % x0.2.2.2.2.2.1.length<x0.2.2.2.2.2.1.length:=Nat.mod_lt _ (by omega)
    rw[dT hz,dF hnz,ht,inT (by omega) (by omega:((i % x0.2.2.2.2.2.1.length:Nat):Int)<(x0.2.2.2.2.2.1.length:Nat)),inT (by omega) (by omega:(i:Int)<(l.length:Nat)),toNatC,dT h,wS i (by omega)]
    simp only[cond_true,Bool.not_false]
    obtain⟨l2,e1,e2⟩:=ih (i+1) (l.set i (Go.IntKind.wrap .u8 (List.getD x0.2.2.2.2.2.1 (i % x0.2.2.2.2.2.1.length) 0+Go.IntKind.wrap .u8 (Go.IntKind.wrap .i64 (Int.tdiv (i:Int) (x0.2.2.2.2.2.1.length:Int)))))) (by simp;omega) (by simp;omega) (by simp;omega)
    refine⟨l2,by simpa using e1,?_⟩
    rw[toNatC]
    exact e2
   ·rw[dF hz]
    exact⟨l,rfl,rfl⟩
  ·rw[dF (by omega: ¬(i:Int)<(l.length:Nat))]
   exact⟨l,rfl,rfl⟩
theorem outL_eq(m:Nat)(r1 r2 r3 r4 r5:Int)(d:List Int)(n:Int)(h5:0≤r5∧r5≤300)(hd:d.length≤300)(hm:301≤m):
  ∃O:List Int,(O.length:Int)=(if wrB r1 r5 then r5 else 0)∧outL_D m (r1,r2,r3,r4,r5,d,n,())=some (O,()):=by
 have w5:Go.IntKind.wrap .i64 r5=r5:=wi64 (by omega) (by omega)
 cases hw:wrB r1 r5 with
 |false=>
  refine⟨[],by simp,?_⟩
  unfold outL_D
  simp only[rwrites_eq,bnd_some,hw]
  rfl
 |true=>
  obtain⟨l2,e1,e2⟩:=outL_L0_eq m (r1,r2,r3,r4,r5,d,n,()) hd m 0 (List.replicate r5.toNat 0) (by omega) (by simp;omega) (by simp;omega)
  refine⟨l2,by rw[e1];simp;omega,?_⟩
  unfold outL_D
  simp only[rwrites_eq,bnd_some,hw,w5,Bool.not_true,cond_false]
  rw[mkL 1 r5 (by omega) (by omega) (by omega)]
  simp only[cond_true]
  have e3:outL_L0 m m 0 (r1,r2,r3,r4,r5,d,n,()) (List.replicate (Int.toNat r5) 0)=some ((),(l2,())):=by simpa using e2
  rw[e3];rfl
theorem start_eq(m:Nat)(q:Req)(hq:q.Ok):start_D m (q.r1,q.r2,q.r3,q.r4,q.r5,()) q.O q.mx=some (((1,q.r1,q.r2,q.r3,q.r4,q.r5,q.O,q.mx,true,0,[],0,0,()),0,()),()):=by
 have h5:=hq.h5
 have hO:=hq.hO
 have hO2:=O_len q hq
 have w5:Go.IntKind.wrap .i64 q.r5=q.r5:=wi64 (by omega) (by omega)
 unfold start_D
 simp only[fits8_eq m _ hq.hm,bnd_some,Bool.not_true,cond_false,writes_eq m _ _ _ _ _ hq.h1.1 hq.h1.2,w5,clone8_eq m q.O (by omega)]
 cases hw:wrB q.r1 q.r5 with
 |true=>rw[if_pos hw]at hO;rw[dT hO];rfl
 |false=>rw[if_neg (by simp[hw])]at hO;rw[dT hO];rfl
theorem onceZ_true(r1 r2 r3 r4 r5:Int)(d:List Int)(n:Int)(R1:Int)(R2 w:List Int)(h1:0≤r1∧r1<256)(h2:0≤r2∧r2<256)(h3:0≤r3∧r3<65536)(h4:0≤r4∧r4<65536)(h5:0≤r5)(hn:0≤n)(hw:wrB r1 r5=false):
  onceZ_D 1000 (r1,r2,r3,r4,r5,d,n,()) (R1,R2,()) w=some (true,()):=by
 unfold onceZ_D onceZ_J0
 simp only
 by_cases g1:300<r5
 ·rw[dT g1];rfl
 by_cases g2:(300:Int)<(d.length:Nat)
 ·rw[dF g1,dT g2];rfl
 by_cases g3:(300:Int)<(R2.length:Nat)
 ·rw[dF g1,dF g2,dT g3];rfl
 by_cases g4:(120:Int)<(w.length:Nat)
 ·rw[dF g1,dF g2,dF g3,dT g4];rfl
 rw[dF g1,dF g2,dF g3,dF g4]
 simp only[cond_false]
 obtain⟨mx,hsz,hmx⟩:=sizes_eq 1000 n hn
 obtain⟨O,hO,hout⟩:=outL_eq 1000 r1 r2 r3 r4 r5 d n ⟨h5,by omega⟩ (by omega) (by omega)
 obtain⟨w',hwl,hwire⟩:=wire6_eq 1000 w (by omega) (by omega)
 have hq:Req.Ok ⟨r1,r2,r3,r4,r5,O,mx⟩:=⟨h1,h2,h3,h4,⟨h5,show r5≤300 by omega⟩,hO,hmx⟩
 have hst:=start_eq 1000 ⟨r1,r2,r3,r4,r5,O,mx⟩ hq
 simp only at hst
 have h8:(0:Int)≤Int.tmod r2 8:=by rw[Int.tmod_eq_emod_of_nonneg h2.1];omega
 have w5:Go.IntKind.wrap .i64 r5=r5:=wi64 (by omega) (by omega)
 have m0: ¬mx=0:=by have:=mx_lt hmx;omega
 have hO0:O= []:=by
  rw[if_neg (by simp[hw])]at hO
  exact List.length_eq_zero_iff.1 (by omega)
 obtain⟨got',e',tok',x',wl,hrun,hfin⟩:=runZ_eq 1000 (by omega) ⟨r1,r2,r3,r4,r5,O,mx⟩ hq hO0 hw R1 R2 (by omega) w' (by omega)
 simp only at hrun
 obtain⟨f1,f2,f3,fg,f4⟩:=hfin
 simp only at f1 f2 f4
 unfold zfin at f3 f4
 unfold onceZ_J1
 simp only[hsz,bnd_some,fits8_eq 1000 mx hmx,Bool.not_true,cond_false,hout,hst,decide_true,hwire,hrun,dT h8,cond_true]
 change onceZ_J2 1000 e' _ (rfB R1 r2) _ _ _ _ _ _ _ _ _ _ _ _ _ _ _ _ _ _ _ _ _=_
 have f3n:=Int.not_lt.2 f3
 unfold onceZ_J2
 rw[f1,dF m0,dF (show ¬1<((x'.2.2.1.length:Nat):Int)by rcases f2 with h|h<;>rw[h]<;>simp),dF f3n]
 simp only[cond_false]
 have J3: ∀ {α:Type} (a1:Int) (a2:List Int) (a3:Bool) (a4:Int×List Int×Unit) (a5:Int) (a6:List Int) (b1 b2 b3 b4 b5 b6:Int) (c1 c2 c3 c4 c5:Bool) (d1:List Int) (d2:Int) (d3:Bool) (d4:Int) (k:Bool→Option α),onceZ_J3 1000 a1 a2 a3 (r1,r2,r3,r4,r5,d,n,()) a4 a5 a6 x'.2.2.1 b1 b2 b3 b4 b5 b6 c1 c2 c3 c4 c5 d1 d2 d3 d4 k=k false:=by
  intros
  unfold onceZ_J3
  rcases f2 with h|h
  ·rw[h];rfl
  ·rw[h]
   simp only[hout,bnd_some,hO0]
   simp only[callOf,inB,List.length_cons,List.length_nil,List.getD_cons_zero,Int.toNat_zero,decide_true,Bool.true_and,Bool.not_true,cond_false,cond_true]
   rfl
 rcases f4 with⟨rfl,c1,hf,cr,cn⟩|⟨rfl,hf,c1,c2⟩|rfl
 ·rw[dT (rfl:(0:Int)=0),hf,J3]
  simp only[c1,List.length_cons,List.length_nil,cond_true,cond_false,rreads_eq,bnd_some,if_true]
  cases hrd:rdB r1 r5 with
  |false=>
   obtain rfl:=cn hrd
   simp only[cond_false]
   unfold onceZ_J5
   rw[dT (show(ByteArray.toList (Go.strOfNums [])=ByteArray.toList (⟨⟨[]⟩⟩:ByteArray))by rfl)]
   rfl
  |true=>
   obtain⟨rfl,c2⟩:=cr hrd
   simp only[cond_true,w5]
   have fin: ∀k:Int,(if r5<(R2.length:Int)then r5 else(R2.length:Int))=k→(bif decide (0≤k)&&decide (k.toNat≤R2.length)then(onceZ_J4 1000 (rdD ⟨r1,r2,r3,r4,r5,O,mx⟩ R2) (Go.strOfNums (List.take k.toNat R2)) x'.2.1.1 x'.2.1.2.1 [callOf ⟨r1,r2,r3,r4,r5,O,mx⟩ []] mx x'.1.2.1 x'.1.2.2.1 x'.1.2.2.2.1 x'.1.2.2.2.2.1 x'.1.2.2.2.2.2.1 x'.1.2.2.2.2.2.2.1 x'.1.2.2.2.2.2.2.2.1 x'.1.2.2.2.2.2.2.2.2.1 x'.1.2.2.2.2.2.2.2.2.2.1 x'.1.2.2.2.2.2.2.2.2.2.2.1 x'.1.2.2.2.2.2.2.2.2.2.2.2.1 x'.1.2.2.2.2.2.2.2.2.2.2.2.2.1 x'.1.2.2.2.2.2.2.2.2.2.2.2.2.2.1 x'.1.2.2.2.2.2.2.2.2.2.2.2.2.2.2.1 (fun d=>bif d then some (false,())else onceZ_J5 1000 (rdD ⟨r1,r2,r3,r4,r5,O,mx⟩ R2) (Go.strOfNums (List.take k.toNat R2)) (fun e=>some (e,()))))else none)=some (true,()):=by
    intro k hk
    have k0:0≤k:=by rw[←hk];split<;>omega
    have k1:k.toNat≤R2.length:=by rw[←hk];split<;>omega
    have er:rdD ⟨r1,r2,r3,r4,r5,O,mx⟩ R2=List.take k.toNat R2:=by unfold rdD;rw[hk]
    rw[dT k0,dT k1,er]
    unfold onceZ_J4
    rw[dF m0,c2]
    simp only[Bool.and_self,cond_true,cond_false,decide_true,Bool.not_true]
    unfold onceZ_J5
    simp only[decide_true,cond_true]
    rfl
   by_cases hk:r5<(R2.length:Int)
   ·rw[dT hk];exact fin r5 (if_pos hk)
   ·rw[dF hk];exact fin _ (if_neg hk)
 ·rw[dF (show ¬(12:Int)=0 by decide),J3,hf]
  simp only[cond_false,decide_true,cond_true,dF (show ¬(12:Int)=0 by decide)]
  unfold onceZ_J6
  unfold rfB at hf
  rw[hf,dF m0,c1,c2]
  rfl
 ·rw[dF (show ¬(11:Int)=0 by decide),J3]
  rfl
theorem onceW_true(r1 r2 r3 r4 r5:Int)(d:List Int)(n:Int)(R1:Int)(R2 w:List Int)(h1:0≤r1∧r1<256)(h2:0≤r2∧r2<256)(h3:0≤r3∧r3<65536)(h4:0≤r4∧r4<65536)(h5:0≤r5)(hn:0≤n)(hw:wrB r1 r5=true):
  onceW_D 1000 (r1,r2,r3,r4,r5,d,n,()) (R1,R2,()) w=some (true,()):=by
 unfold onceW_D onceW_J0
 simp only
 by_cases g1:300<r5
 ·rw[dT g1];rfl
 by_cases g2:(300:Int)<(d.length:Nat)
 ·rw[dF g1,dT g2];rfl
 by_cases g3:(300:Int)<(R2.length:Nat)
 ·rw[dF g1,dF g2,dT g3];rfl
 by_cases g4:(120:Int)<(w.length:Nat)
 ·rw[dF g1,dF g2,dF g3,dT g4];rfl
 rw[dF g1,dF g2,dF g3,dF g4]
 simp only[cond_false]
 obtain⟨mx,hsz,hmx⟩:=sizes_eq 1000 n hn
 obtain⟨O,hO,hout⟩:=outL_eq 1000 r1 r2 r3 r4 r5 d n ⟨h5,by omega⟩ (by omega) (by omega)
 obtain⟨w',hwl,hwire⟩:=wire6_eq 1000 w (by omega) (by omega)
 have hq:Req.Ok ⟨r1,r2,r3,r4,r5,O,mx⟩:=⟨h1,h2,h3,h4,⟨h5,show r5≤300 by omega⟩,hO,hmx⟩
 have hst:=start_eq 1000 ⟨r1,r2,r3,r4,r5,O,mx⟩ hq
 simp only at hst
 have h8:(0:Int)≤Int.tmod r2 8:=by rw[Int.tmod_eq_emod_of_nonneg h2.1];omega
 have w5:Go.IntKind.wrap .i64 r5=r5:=wi64 (by omega) (by omega)
 have m0: ¬mx=0:=by have:=mx_lt hmx;omega
 obtain⟨e',tok',x',wl,hrun,hfin⟩:=runW_eq 1000 (by omega) ⟨r1,r2,r3,r4,r5,O,mx⟩ hq hw R1 R2 w' (by omega)
 simp only at hrun
 obtain⟨f1,f2,f3,f4⟩:=hfin
 simp only at f1 f2 f4
 unfold wfin at f3 f4
 have hrd:=(wr_r5 hq hw).2.2
 simp only at hrd
 unfold onceW_J1
 simp only[hsz,bnd_some,fits8_eq 1000 mx hmx,Bool.not_true,cond_false,hout,hst,decide_true,hwire,hrun,dT h8,cond_true]
 change onceW_J2 1000 e' _ (rfB R1 r2) _ _ _ _ _ _ _ _ _ _ _ _ _ _ _ _ _ _ _ _ _=_
 have f3n:=Int.not_lt.2 f3
 unfold onceW_J2
 rw[f1,dF m0,dF (show ¬1<((x'.2.2.1.length:Nat):Int)by rcases f2 with h|h<;>rw[h]<;>simp),dF f3n]
 simp only[cond_false]
 have J3: ∀ {α:Type} (a1:Int) (a2:List Int) (a3:Bool) (a4:Int×List Int×Unit) (a5:Int) (a6:List Int) (b1 b2 b3 b4 b5 b6:Int) (c1 c2 c3 c4 c5:Bool) (d1:Int) (d2:Bool) (d3:Int) (d4:List Int) (k:Bool→Option α),onceW_J3 1000 a1 a2 a3 (r1,r2,r3,r4,r5,d,n,()) a4 a5 a6 x'.2.2.1 b1 b2 b3 b4 b5 b6 c1 c2 c3 c4 c5 d1 d2 d3 d4 k=k false:=by
  intros
  unfold onceW_J3
  rcases f2 with h|h
  ·rw[h];rfl
  ·rw[h]
   simp only[hout,bnd_some]
   simp only[callOf,inB,List.length_cons,List.length_nil,List.getD_cons_zero,Int.toNat_zero,decide_true,Bool.true_and,Bool.not_true,cond_false,cond_true]
   rfl
 rcases f4 with⟨rfl,c1,hf⟩|⟨rfl,hf,c1,c2⟩|rfl
 ·rw[dT (rfl:(0:Int)=0),hf,J3]
  simp only[c1,List.length_cons,List.length_nil,cond_true,cond_false,rreads_eq,bnd_some,hrd]
  unfold onceW_J5
  rw[dT (show(ByteArray.toList (Go.strOfNums [])=ByteArray.toList (⟨⟨[]⟩⟩:ByteArray))by rfl)]
  rfl
 ·rw[dF (show ¬(12:Int)=0 by decide),J3,hf]
  simp only[cond_false,decide_true,cond_true,dF (show ¬(12:Int)=0 by decide)]
  unfold onceW_J6
  unfold rfB at hf
  rw[hf,dF m0,c1,c2]
  rfl
 ·rw[dF (show ¬(11:Int)=0 by decide),J3]
  rfl
end Go.Proofs.Ytngghkoghbpceaa
