/-
  The statement ControlsFew: the plain law: the rounds of a transfer that reads or has no data, where few packets do not arrive.
  Conditions: none.
-/
import Derived.Test.YtngghkoghbpceaaFeZ
import Derived.Test.YtngghkoghbpceaaN8r
namespace Go.Proofs.Ytngghkoghbpceaa
set_option linter.unusedVariables false
set_option linter.unusedSimpArgs false
set_option maxRecDepth 100000
set_option maxHeartbeats 4000000
def Bs(cs:List ClT)(f0:Int):Prop:=cs.length≤10∧0≤f0∧f0≤10
def xs(R1:Int)(R2:List Int)(z:ZzT)(cs:List ClT):XsZ:=(z,(R1,R2,()),cs,())
inductive IvZ (q:Req) (R1:Int) (R2:List Int) (cs:List ClT) (f0:Int):XsZ→Int→Bool→List Int→Nat→Prop where
 |a1:IvZ q R1 R2 cs f0 (xs R1 R2 (zX q true false false false true [] 0 false f0) cs) 1 true [] 0
 |rA (hr:rdB q.r1 q.r5=true):IvZ q R1 R2 cs f0 (xs R1 R2 (zX q true false false false true [] 0 false f0) cs) 2 true [] 0
 |rR (hr:rdB q.r1 q.r5=true) (hf:rfB R1 q.r2=true):IvZ q R1 R2 cs f0 (xs R1 R2 (zX q true true true false true [] 0 false f0) (cs++ [callOf q []])) 2 true [] 0
 |rB (tg ztg:Bool) (at':Int) (got:List Int) (bh:Nat) (hr:rdB q.r1 q.r5=true) (hf:rfB R1 q.r2=false) (h0:0≤at') (h1:at'≤(rdD q R2).length)
   (hs:(ztg=tg∧at'=got.length∧bh=0)∨(ztg= !tg∧(got.length:Int)=at'+(pk q (rdD q R2) at').length∧((pk q (rdD q R2) at').length:Int)=q.mx∧bh=1))
   (hg:got=(rdD q R2).take got.length) (hl:(got.length:Int)<q.r5):IvZ q R1 R2 cs f0 (xs R1 R2 (zX q true true false false ztg (rdD q R2) at' false f0) (cs++ [callOf q []])) 2 tg got bh
 |rS (cm tg ztg:Bool) (at':Int) (la:Bool) (hr:rdB q.r1 q.r5=true) (hf:rfB R1 q.r2=false):IvZ q R1 R2 cs f0 (xs R1 R2 (zX q true true false cm ztg (rdD q R2) at' la (bif cm then f0+1 else f0)) (cs++ [callOf q []])) 3 tg (rdD q R2) 0
 |nA (hr:rdB q.r1 q.r5=false):IvZ q R1 R2 cs f0 (xs R1 R2 (zX q true false false false true [] 0 false f0) cs) 3 true [] 0
 |nR (hr:rdB q.r1 q.r5=false) (hf:rfB R1 q.r2=true):IvZ q R1 R2 cs f0 (xs R1 R2 (zX q true true true false true [] 0 false f0) (cs++ [callOf q []])) 3 true [] 0
 |nH (cm:Bool) (hr:rdB q.r1 q.r5=false) (hf:rfB R1 q.r2=false):IvZ q R1 R2 cs f0 (xs R1 R2 (zX q true true false cm true [] 0 false (bif cm then f0+1 else f0)) (cs++ [callOf q []])) 3 true [] 0
def zfin(x:XsZ):Int:=x.1.2.2.2.2.2.2.2.2.2.2.2.2.2.2.1
structure FinZ (q:Req) (R1:Int) (R2:List Int) (cs:List ClT) (f0:Int) (x:XsZ) (got:List Int) (e:Int):Prop where
 mx:x.1.1=q.mx
 rr:x.2.1=(R1,R2,())
 cs:x.2.2.1=cs++ [callOf q []]
 fin:f0≤zfin x∧zfin x≤f0+1
 gl:(got.length:Int)≤q.r5
 ee:(e=0∧rfB R1 q.r2=false)∨(e=12∧rfB R1 q.r2=true)
section
variable {cs:List ClT} {f0:Int}
theorem fin11{q:Req}{R1:Int}{R2:List Int}{x:XsZ}{st:Int}{tg:Bool}{got:List Int}{bh:Nat}(h:IvZ q R1 R2 cs f0 x st tg got bh):bh≤1∧(st=1∨st=2∨st=3):=by
 cases h with
 |rB tg ztg at' got bh hr hf h0 h1 hs hg hl=>exact⟨by rcases hs with h|h<;>omega,by omega⟩
 |_=>exact⟨by omega,by omega⟩
def ms(q:Req)(w:List Int)(st:Int)(got:List Int)(bh:Nat):Nat:=2*bad w+(if st=1 then 3+q.r5.toNat / 8 else if st=2 then 2+(q.r5.toNat - got.length) / 8 else 1)+bh
theorem ms1(q:Req)(w:List Int)(got:List Int)(bh:Nat):ms q w 1 got bh=2*bad w+(3+q.r5.toNat / 8)+bh:=rfl
theorem ms2(q:Req)(w:List Int)(got:List Int)(bh:Nat):ms q w 2 got bh=2*bad w+(2+(q.r5.toNat - got.length) / 8)+bh:=rfl
theorem ms3(q:Req)(w:List Int)(got:List Int)(bh:Nat):ms q w 3 got bh=2*bad w+1+bh:=rfl
structure StepZ (m:Nat) (q:Req) (R1:Int) (R2:List Int) (cs:List ClT) (f0:Int) (x:XsZ) (st:Int) (tg:Bool) (got:List Int) (bh:Nat) (er:Int) (tok:Int) (w:List Int) (c:Int) (d:List Int) (x':XsZ) (w':List Int):Prop where
 cr:1≤c∧c≤6
 bw:bad w'≤bad w
 an: ∃st2 tg2 got2 er2 e2,ans8_D m (tOf q st tg 0 got er 0) (c,d,())=some (tOf q st2 tg2 0 got2 er2 e2,())∧((st2=4∧FinZ q R1 R2 cs f0 x' got2 e2)∨(∃bh2,IvZ q R1 R2 cs f0 x' st2 tg2 got2 bh2∧0≤er2∧er2+bad w'≤2∧e2=0∧ms q w' st2 got2 bh2<ms q w st got bh))
theorem step_none{m:Nat}{q:Req}(hq:q.Ok){R1:Int}{R2:List Int}{x x':XsZ}{st:Int}{tg:Bool}{got:List Int}{bh bh':Nat}{er tok:Int}{w w':List Int}(h:IvZ q R1 R2 cs f0 x' st tg got bh')(h0:0≤er)(h1:er+bad w≤2)(hw:bad w'<bad w):
  StepZ m q R1 R2 cs f0 x st tg got bh er tok w 4 [] x' w':=by
 obtain⟨hb,hs⟩:=fin11 h
 obtain⟨st2,e2,ha,hh⟩:=ans_none m q st hs tg 0 got er 0 h0 (by omega)
 refine⟨by omega,by omega,st2,tg,got,er+1,e2,ha,?_⟩
 rcases hh with⟨rfl,rfl,h3⟩|⟨rfl,rfl⟩
 ·refine .inr ⟨bh',h,by omega,by omega,rfl,?_⟩
  unfold ms;omega
 ·exfalso
  have w3:Go.IntKind.wrap .i64 3=3:=by decide
  have hw2:Go.IntKind.wrap .i64 (er+1)=er+1:=wi64 (by omega) (by omega)
  have hn: ¬er+1=3:=by omega
  revert ha
  unfold ans8_D tOf
  rcases hs with rfl|rfl|rfl
  ·unfold ans81_D ans81_J0;simp[hw2,hn,w3]
  ·unfold ans82_D ans82_J0;simp[hw2,hn,w3]
  ·unfold ans83_D ans83_J0;simp[hw2,hn,w3]
theorem step_stall{m:Nat}{q:Req}{R1:Int}{R2:List Int}{x x':XsZ}{st:Int}(hs:st=2∨st=3){tg:Bool}{got:List Int}{bh:Nat}{er tok:Int}{w w':List Int}(h:FinZ q R1 R2 cs f0 x' got 12)(hw:bad w'≤bad w):
  StepZ m q R1 R2 cs f0 x st tg got bh er tok w 3 [] x' w':=
 ⟨by omega,hw,_,_,_,_,_,ans_stall m q st (by omega) tg 0 got er 0,.inl ⟨rfl,h⟩⟩
def doZx(m:Nat)(t:TryT)(tok:Int)(x:XsZ)(w:List Int):Option (((Int×List Int×Unit)×List SnT×Unit)×(Bool×Int×Int×Unit)×ZzT×(Int×List Int×Unit)×List ClT×(List Int×Unit)×Unit):=
 doZ_D m (9,t.2) true 9 tok x.1.1 x.1.2.1 x.1.2.2.1 x.1.2.2.2.1 x.1.2.2.2.2.1 x.1.2.2.2.2.2.1 x.1.2.2.2.2.2.2.1 x.1.2.2.2.2.2.2.2.1 x.1.2.2.2.2.2.2.2.2.1 x.1.2.2.2.2.2.2.2.2.2.1 x.1.2.2.2.2.2.2.2.2.2.2.1 x.1.2.2.2.2.2.2.2.2.2.2.2.1 x.1.2.2.2.2.2.2.2.2.2.2.2.2.1 x.1.2.2.2.2.2.2.2.2.2.2.2.2.2.1 x.1.2.2.2.2.2.2.2.2.2.2.2.2.2.2.1 x.2.1.1 x.2.1.2.1 x.2.2.1 w
def RoundZ(m:Nat)(q:Req)(R1:Int)(R2:List Int)(cs:List ClT)(f0:Int)(x:XsZ)(st:Int)(tg:Bool)(got:List Int)(bh:Nat)(er:Int)(tok:Int)(w:List Int):Prop:=
 ∃t:TryT,next8_D m (tOf q st tg 0 got er 0)=some ((t,true,()),())∧ ∃c d tok' sent,∃x':XsZ,∃w':List Int,doZx m t tok x w=some (((c,d,()),sent,()),(true,9,tok',()),x'.1,x'.2.1,x'.2.2.1,(w',()),())∧StepZ m q R1 R2 cs f0 x st tg got bh er tok w c d x' w'
theorem bl8(t c v i l:Int):(by8 t c v i l).length=8:=rfl
theorem roundZ_a1(m:Nat)(q:Req)(hq:q.Ok)(hw:wrB q.r1 q.r5=false)(R1:Int)(R2:List Int)(er:Int)(w:List Int)(h0:0≤er)(h1:er+bad w≤2)(tok:Int):
  RoundZ m q R1 R2 cs f0 (xs R1 R2 (zX q true false false false true [] 0 false f0) cs) 1 true [] 0 er tok w:=by
 have h5:=hq.h5
 refine⟨_,next_setup m q hq true 0 [] er 0,?_⟩
 have hz2:zhrZs m 13 (pD (bif false then 11 else 3) (by8 q.r1 q.r2 q.r3 q.r4 q.r5)) (xs R1 R2 (zX q true false false false true [] 0 false f0) cs)=some ((pD 2 [],true,()),xs R1 R2 (zX q true false false false true [] 0 false f0) cs):=by
  exact zh_setup m q hq _ _ _ _ _ _ _ _ _ _ _ _ _ f0 R1 R2 cs
 obtain⟨c,tok',sent,x',w',h,hh⟩:=outZ_gen m 13 (by omega) false (by8 q.r1 q.r2 q.r3 q.r4 q.r5) (by rw[bl8];omega) (tk_setup m _ rfl) tok (xs R1 R2 (zX q true false false false true [] 0 false f0) cs) _ w 2 1 (by omega) (hands_ack m) hz2
 refine⟨c,[],tok',sent,x',w',h,?_⟩
 rcases hh with⟨rfl,rfl,hl⟩|⟨rfl,hx,hl⟩
 ·refine⟨by decide,hl,_,_,_,_,_,ans_setup m q true 0 [] er 0,.inr ?_⟩
  cases hr:rdB q.r1 q.r5 with
  |true=>
   have:0<q.r5:=by unfold rdB at hr;simp at hr;omega
   rw[if_pos this]
   refine⟨0,.rA hr,by omega,by omega,rfl,?_⟩
   rw[ms1,ms2];simp only[List.length_nil];omega
  |false=>
   have: ¬0<q.r5:=by
    intro h
    unfold rdB at hr;unfold wrB at hw
    simp[h]at hr hw
    omega
   rw[if_neg this]
   refine⟨0,.nA hr,by omega,by omega,rfl,?_⟩
   rw[ms1,ms3];omega
 ·rcases hx with rfl|rfl
  ·exact step_none hq .a1 h0 h1 hl
  ·exact step_none hq .a1 h0 h1 hl
theorem fin12(q:Req)(hq:q.Ok)(R1:Int)(R2:List Int)(hf:rfB R1 q.r2=true):FinZ q R1 R2 cs f0 (xs R1 R2 (zX q true true true false true [] 0 false f0) (cs++ [callOf q []])) [] 12:=
 ⟨rfl,rfl,rfl,(by constructor<;>(show _≤_)<;>simp only[zfin,xs,zX]<;>omega),(by have:=hq.h5;simp;omega),.inr ⟨rfl,hf⟩⟩
theorem roundZ_R(m:Nat)(q:Req)(hq:q.Ok)(R1:Int)(R2:List Int)(x:XsZ)(st:Int)(hs:st=2∧rdB q.r1 q.r5=true∨st=3∧rdB q.r1 q.r5=false)(hf:rfB R1 q.r2=true)
  (hi:IvZ q R1 R2 cs f0 x st true [] 0)(hz:zhrZs m 9 (pT 9 9 0) x=some ((pD 14 [],true,()),xs R1 R2 (zX q true true true false true [] 0 false f0) (cs++ [callOf q []])))(er:Int)(w:List Int)(h0:0≤er)(h1:er+bad w≤2)(tok:Int):
  RoundZ m q R1 R2 cs f0 x st true [] 0 er tok w:=by
 have hm:=mx_lt hq.hm
 have hn: ∃mx,0≤mx∧mx≤1024∧next8_D m (tOf q st true 0 [] er 0)=some (((0,0,9,true,false,mx,[],()),true,()),()):=by
  rcases hs with⟨rfl,hr⟩|⟨rfl,hr⟩
  ·exact⟨q.mx,by omega,by omega,next_read m q hq hr _ _ _ _ _⟩
  ·refine⟨0,by omega,by omega,?_⟩;rw[next_stat m q hq,hr];rfl
 obtain⟨mx,m0,m1,hn⟩:=hn
 refine⟨_,hn,?_⟩
 obtain⟨c,tok',sent,x',w',h,hh⟩:=inZ_stall m true mx (tk_in m true mx m0 m1) tok x _ w hz
 refine⟨c,[],tok',sent,x',w',h,?_⟩
 rcases hh with⟨rfl,rfl,hl⟩|⟨rfl,hx,hl⟩
 ·exact step_stall (by omega) (fin12 q hq R1 R2 hf) hl
 ·rcases hx with rfl|rfl
  ·exact step_none hq hi h0 h1 hl
  ·rcases hs with⟨rfl,hr⟩|⟨rfl,hr⟩
   ·exact step_none hq (.rR hr hf) h0 h1 hl
   ·exact step_none hq (.nR hr hf) h0 h1 hl
theorem roundZ_N(m:Nat)(q:Req)(hq:q.Ok)(hb:Bs cs f0)(R1:Int)(R2:List Int)(x:XsZ)(cm:Bool)(hr:rdB q.r1 q.r5=false)(hf:rfB R1 q.r2=false)
  (hi:IvZ q R1 R2 cs f0 x 3 true [] 0)(hz:zhrZs m 9 (pT 9 9 0) x=some ((pD 11 [],true,()),xs R1 R2 (zX q true true false cm true [] 0 false (bif cm then f0+1 else f0)) (cs++ [callOf q []])))(er:Int)(w:List Int)(h0:0≤er)(h1:er+bad w≤2)(tok:Int):
  RoundZ m q R1 R2 cs f0 x 3 true [] 0 er tok w:=by
 refine⟨_,(by rw[next_stat m q hq,hr];rfl:next8_D m (tOf q 3 true 0 [] er 0)=some (((0,0,9,true,false,0,[],()),true,()),())),?_⟩
 obtain⟨hb1,hb2,hb3⟩:=hb
 have hfr:0≤(bif cm then f0+1 else f0)∧(bif cm then f0+1 else f0)≤100:=by cases cm<;>simp only[cond_true,cond_false]<;>omega
 have hone:(bif cm then(bif cm then f0+1 else f0)else(bif cm then f0+1 else f0)+1)=f0+1:=by cases cm<;>rfl
 have ha:=zack_nr m q hq hr cm true [] 0 false (bif cm then f0+1 else f0) hfr R1 R2 (cs++ [callOf q []])
 rw[hone]at ha
 have hk:=zh_ack m q hq true false cm true [] 0 false (bif cm then f0+1 else f0) R1 R2 (cs++ [callOf q []]) _ ha
 obtain⟨c,d,tok',sent,x',w',h,hh⟩:=inZ_data m true 0 (tk_in m true 0 (by omega) (by omega)) tok x (xs R1 R2 (zX q true true false cm true [] 0 false (bif cm then f0+1 else f0)) (cs++ [callOf q []])) _ w 11 (by omega) [] (by simp) (by simp) _ hz hk
 refine⟨c,d,tok',sent,x',w',h,?_⟩
 rcases hh with⟨he,hx⟩|⟨rfl,rfl,hx,hl⟩
 ·obtain⟨rfl,rfl⟩:c=1∧d= []:=by simpa using he
  refine⟨by decide,by rcases hx with⟨_,h⟩|⟨_,h⟩<;>omega,_,_,_,_,_,ans_stat m q hq true 0 [] er 0,.inl ⟨rfl,?_⟩⟩
  have h5:=hq.h5
  rcases hx with⟨rfl,_⟩|⟨rfl,_⟩
  ·exact⟨rfl,rfl,rfl,(by constructor<;>simp only[zfin,xs,zX]<;>omega),(by simp;omega),.inl ⟨rfl,hf⟩⟩
  ·exact⟨rfl,rfl,rfl,(by constructor<;>simp only[zfin,xs,zX]<;>cases cm<;>simp only[cond_true,cond_false]<;>omega),(by simp;omega),.inl ⟨rfl,hf⟩⟩
 ·rcases hx with rfl|rfl
  ·exact step_none hq hi h0 h1 hl
  ·exact step_none hq (.nH cm hr hf) h0 h1 hl
theorem roundZ_B(m:Nat)(q:Req)(hq:q.Ok)(R1:Int)(R2:List Int)(hR:R2.length≤300)(x:XsZ)(tg ztg:Bool)(at':Int)(got:List Int)(bh:Nat)(hr:rdB q.r1 q.r5=true)(hf:rfB R1 q.r2=false)(a0:0≤at')(a1:at'≤(rdD q R2).length)
  (hs:(ztg=tg∧at'=got.length∧bh=0)∨(ztg= !tg∧(got.length:Int)=at'+(pk q (rdD q R2) at').length∧((pk q (rdD q R2) at').length:Int)=q.mx∧bh=1))
  (hg:got=(rdD q R2).take got.length)(hl:(got.length:Int)<q.r5)(hi: ∃bh',IvZ q R1 R2 cs f0 x 2 tg got bh')
  (hz:zhrZs m 9 (pT 9 9 0) x=some ((pD (bif ztg then 11 else 3) (pk q (rdD q R2) at'),true,()),xs R1 R2 (zX q true true false false ztg (rdD q R2) at' false f0) (cs++ [callOf q []])))(er:Int)(w:List Int)(h0:0≤er)(h1:er+bad w≤2)(tok:Int):
  RoundZ m q R1 R2 cs f0 x 2 tg got bh er tok w:=by
 have hm:=mx_lt hq.hm
 have h5:=hq.h5
 have hD:=rdD_len q hq R2
 have hp:=pk_len q hq (rdD q R2) at' a0 a1
 refine⟨_,next_read m q hq hr tg 0 got er 0,?_⟩
 have ha:=zack_rd m q hq hr ztg (rdD q R2) (by omega) at' a0 a1 f0 R1 R2 (cs++ [callOf q []])
 have hk:=zh_ack m q hq true false false ztg (rdD q R2) at' false f0 R1 R2 (cs++ [callOf q []]) _ ha
 obtain⟨c,d,tok',sent,x',w',h,hh⟩:=inZ_data m tg q.mx (tk_in m tg q.mx (by omega) (by omega)) tok x (xs R1 R2 (zX q true true false false ztg (rdD q R2) at' false f0) (cs++ [callOf q []])) _ w (bif ztg then 11 else 3) (by cases ztg<;>simp) (pk q (rdD q R2) at') (by omega) (by omega) _ hz hk
 refine⟨c,d,tok',sent,x',w',h,?_⟩
 have hIB:IvZ q R1 R2 cs f0 (xs R1 R2 (zX q true true false false ztg (rdD q R2) at' false f0) (cs++ [callOf q []])) 2 tg got bh:= .rB tg ztg at' got bh hr hf a0 a1 hs hg hl
 rcases hh with⟨he,hx⟩|⟨rfl,rfl,hx,hlt⟩
 ·rcases hs with⟨rfl,ha',rfl⟩|⟨rfl,hb1,hb2,rfl⟩
  ·
   obtain⟨rfl,rfl⟩:c=1∧d=pk q (rdD q R2) at':=by
    have e:decide (decide ((bif ztg then(11:Int)else 3)=11)=ztg)=true:=by cases ztg<;>rfl
    rw[e]at he
    simpa using he
   have ar:=ans_read m q hq hr ztg 0 got (pk q (rdD q R2) at') er 0 (by omega) (by omega)
   have hgt:got++pk q (rdD q R2) at'=(rdD q R2).take (got.length+(pk q (rdD q R2) at').length):=by
    have e1:at'.toNat=got.length:=by omega
    have e2:pk q (rdD q R2) at'=((rdD q R2).drop got.length).take (pk q (rdD q R2) at').length:=by
     unfold pk
     rw[e1,List.take_eq_take_iff]
     simp only[List.length_take,List.length_drop];omega
    rw[List.take_add]
    rw[←e2,←hg]
   refine⟨by decide,by rcases hx with⟨_,h⟩|⟨_,h⟩<;>omega,_,_,_,_,_,ar,.inr ?_⟩
   by_cases hend:((pk q (rdD q R2) at').length:Int)<q.mx∨((got.length+(pk q (rdD q R2) at').length:Nat):Int)=q.r5
   ·rw[if_pos hend]
    have hall:got++pk q (rdD q R2) at'=rdD q R2:=by
     rw[hgt,List.take_of_length_le (by omega)]
    rw[hall]
    refine⟨0,?_,by omega,by rcases hx with⟨_,h⟩|⟨_,h⟩<;>omega,rfl,?_⟩
    ·rcases hx with⟨rfl,_⟩|⟨rfl,_⟩
     ·exact .rS false _ _ _ _ hr hf
     ·exact .rS false _ _ _ _ hr hf
    ·rw[ms3,ms2];rcases hx with⟨_,h⟩|⟨_,h⟩<;>omega
   ·rw[if_neg hend]
    have hlen:(got++pk q (rdD q R2) at').length=got.length+(pk q (rdD q R2) at').length:=List.length_append
    have hgg:got++pk q (rdD q R2) at'=(rdD q R2).take (got++pk q (rdD q R2) at').length:=by rw[hlen];exact hgt
    have hn1: ¬((pk q (rdD q R2) at').length:Int)<q.mx:=fun h=>hend (.inl h)
    have hn2: ¬((got.length+(pk q (rdD q R2) at').length:Nat):Int)=q.r5:=fun h=>hend (.inr h)
    rcases hx with⟨rfl,hwl⟩|⟨rfl,hwl⟩
    ·refine⟨0,?_,by omega,by omega,rfl,?_⟩
     ·have el:(decide (((pk q (rdD q R2) at').length:Int)<q.mx)||decide (at'+((pk q (rdD q R2) at').length:Int)=q.r5))=false:=by
       rw[dF hn1,dF (by omega)];rfl
      rw[el]
      exact .rB (!ztg) (!ztg) _ _ 0 hr hf (by omega) (by omega) (.inl ⟨rfl,by rw[hlen];omega,rfl⟩) hgg (by rw[hlen];omega)
     ·rw[ms2,ms2,hlen];omega
    ·refine⟨1,?_,by omega,by omega,rfl,?_⟩
     ·exact .rB (!ztg) ztg at' _ 1 hr hf a0 a1 (.inr ⟨by simp,by rw[hlen];omega,by omega,rfl⟩) hgg (by rw[hlen];omega)
     ·rw[ms2,ms2,hlen];omega
  ·
   obtain⟨rfl,rfl⟩:c=6∧d= []:=by
    have e:decide (decide ((bif !tg then(11:Int)else 3)=11)=tg)=false:=by cases tg<;>rfl
    rw[e]at he
    simpa using he
   refine⟨by decide,by rcases hx with⟨_,h⟩|⟨_,h⟩<;>omega,_,_,_,_,_,ans_again m q tg 0 got er 0,.inr ?_⟩
   rcases hx with⟨rfl,hwl⟩|⟨rfl,hwl⟩
   ·refine⟨0,?_,by omega,by omega,rfl,?_⟩
    ·have el:(decide (((pk q (rdD q R2) at').length:Int)<q.mx)||decide (at'+((pk q (rdD q R2) at').length:Int)=q.r5))=false:=by
      rw[dF (by omega),dF (by omega)];rfl
     rw[el,Bool.not_not]
     exact .rB tg tg _ _ 0 hr hf (by omega) (by omega) (.inl ⟨rfl,by omega,rfl⟩) hg hl
    ·rw[ms2,ms2];omega
   ·exact⟨1,.rB tg (!tg) at' got 1 hr hf a0 a1 (.inr ⟨rfl,hb1,hb2,rfl⟩) hg hl,by omega,by omega,rfl,by rw[ms2,ms2];omega⟩
 ·rcases hx with rfl|rfl
  ·obtain⟨bh',hi⟩:=hi
   exact step_none hq hi h0 h1 hlt
  ·exact step_none hq hIB h0 h1 hlt
theorem roundZ_S(m:Nat)(q:Req)(hq:q.Ok)(hb:Bs cs f0)(R1:Int)(R2:List Int)(hR:R2.length≤300)(cm tg ztg:Bool)(at':Int)(la:Bool)(hr:rdB q.r1 q.r5=true)(hf:rfB R1 q.r2=false)(er:Int)(w:List Int)(h0:0≤er)(h1:er+bad w≤2)(tok:Int):
  RoundZ m q R1 R2 cs f0 (xs R1 R2 (zX q true true false cm ztg (rdD q R2) at' la (bif cm then f0+1 else f0)) (cs++ [callOf q []])) 3 tg (rdD q R2) 0 er tok w:=by
 have hD:=rdD_len q hq R2
 refine⟨_,(by rw[next_stat m q hq,hr];rfl:next8_D m (tOf q 3 tg 0 (rdD q R2) er 0)=some (((0,0,1,true,false,0,[],()),true,()),())),?_⟩
 obtain⟨hb1,hb2,hb3⟩:=hb
 have hfr:0≤(bif cm then f0+1 else f0)∧(bif cm then f0+1 else f0)≤100:=by cases cm<;>simp only[cond_true,cond_false]<;>omega
 have hz:=zh_out m q hq hr cm ztg (rdD q R2) at' la (bif cm then f0+1 else f0) hfr R1 R2 (cs++ [callOf q []])
 have hone:(bif cm then(bif cm then f0+1 else f0)else(bif cm then f0+1 else f0)+1)=f0+1:=by cases cm<;>rfl
 rw[hone]at hz
 obtain⟨c,tok',sent,x',w',h,hh⟩:=outZ_gen m 1 (by omega) true [] (by simp) (tk_out m true [] (by simp)) tok (xs R1 R2 (zX q true true false cm ztg (rdD q R2) at' la (bif cm then f0+1 else f0)) (cs++ [callOf q []])) _ w 2 1 (by omega) (hands_ack m) hz
 refine⟨c,[],tok',sent,x',w',h,?_⟩
 rcases hh with⟨rfl,rfl,hl⟩|⟨rfl,hx,hl⟩
 ·refine⟨by decide,hl,_,_,_,_,_,ans_stat m q hq tg 0 (rdD q R2) er 0,.inl ⟨rfl,?_⟩⟩
  exact⟨rfl,rfl,rfl,(by constructor<;>simp only[zfin,xs,zX]<;>omega),hD.2,.inl ⟨rfl,hf⟩⟩
 ·rcases hx with rfl|rfl
  ·exact step_none hq (.rS cm tg ztg at' la hr hf) h0 h1 hl
  ·exact step_none hq (.rS true tg ztg at' la hr hf) h0 h1 hl
theorem roundZ(m:Nat)(q:Req)(hq:q.Ok)(hb:Bs cs f0)(hw:wrB q.r1 q.r5=false)(R1:Int)(R2:List Int)(hR:R2.length≤300)(x:XsZ)(st:Int)(tg:Bool)(got:List Int)(bh:Nat)(hi:IvZ q R1 R2 cs f0 x st tg got bh)(er:Int)(w:List Int)(h0:0≤er)(h1:er+bad w≤2)(tok:Int):
  RoundZ m q R1 R2 cs f0 x st tg got bh er tok w:=by
 have h5:=hq.h5
 have hcl:cs.length≤1000:=by have:=hb.1;omega
 cases hi with
 |a1=>exact roundZ_a1 m q hq hw R1 R2 er w h0 h1 tok
 |rA hr=>
  cases hf:rfB R1 q.r2 with
  |true=>
   refine roundZ_R m q hq R1 R2 _ 2 (.inl ⟨rfl,hr⟩) hf (.rA hr) ?_ er w h0 h1 tok
   refine(zh_in m q hq false false true [] 0 false f0 R1 R2 cs).trans ?_
   rw[hr]
   exact zrd_rf m q hq false true [] (by simp) 0 false f0 R1 R2 cs hcl hf
  |false=>
   have h5':0<q.r5:=by unfold rdB at hr;simp at hr;omega
   refine roundZ_B m q hq R1 R2 hR _ true true 0 [] 0 hr hf (by omega) (by omega) (.inl ⟨rfl,rfl,rfl⟩) rfl (by simpa using h5') ⟨0,.rA hr⟩ ?_ er w h0 h1 tok
   refine(zh_in m q hq false false true [] 0 false f0 R1 R2 cs).trans ?_
   rw[hr]
   have hD:=rdD_len q hq R2
   exact zrd_go m q hq false true true [] (rdD q R2) (by omega) 0 (by omega) (by omega) f0 R1 R2 cs _ (zhanZ_rd m q hq false false true [] (by simp) 0 false f0 R1 R2 (by omega) cs hcl hf hr)
 |rR hr hf=>
  exact roundZ_R m q hq R1 R2 _ 2 (.inl ⟨rfl,hr⟩) hf (.rR hr hf) (zh_rf m q hq true false true [] 0 false f0 R1 R2 _) er w h0 h1 tok
 |rB tg ztg at' got bh hr hf a0 a1 hs hg hl=>
  refine roundZ_B m q hq R1 R2 hR _ tg ztg at' got bh hr hf a0 a1 hs hg hl ⟨bh,.rB tg ztg at' got bh hr hf a0 a1 hs hg hl⟩ ?_ er w h0 h1 tok
  refine(zh_in m q hq true false ztg (rdD q R2) at' false f0 R1 R2 _).trans ?_
  rw[hr]
  have hD:=rdD_len q hq R2
  exact zrd_go m q hq true ztg ztg (rdD q R2) (rdD q R2) (by omega) at' a0 a1 f0 R1 R2 _ _ (zhanZ_h m q false false ztg (rdD q R2) at' false f0 R1 R2 _)
 |rS cm tg ztg at' la hr hf=>exact roundZ_S m q hq hb R1 R2 hR cm tg ztg at' la hr hf er w h0 h1 tok
 |nA hr=>
  cases hf:rfB R1 q.r2 with
  |true=>
   refine roundZ_R m q hq R1 R2 _ 3 (.inr ⟨rfl,hr⟩) hf (.nA hr) ?_ er w h0 h1 tok
   refine(zh_in m q hq false false true [] 0 false f0 R1 R2 cs).trans ?_
   rw[hr]
   exact zst_rf m q hq hw false true [] (by simp) 0 false f0 R1 R2 cs hcl hf
  |false=>
   refine roundZ_N m q hq hb R1 R2 _ false hr hf (.nA hr) ?_ er w h0 h1 tok
   refine(zh_in m q hq false false true [] 0 false f0 R1 R2 cs).trans ?_
   rw[hr]
   exact zst_go m q hq hw false false true [] [] 0 false f0 R1 R2 cs _ (zhanZ_nr m q hq false false true [] (by simp) 0 false f0 R1 R2 cs hcl hf hr)
 |nR hr hf=>
  exact roundZ_R m q hq R1 R2 _ 3 (.inr ⟨rfl,hr⟩) hf (.nR hr hf) (zh_rf m q hq true false true [] 0 false f0 R1 R2 _) er w h0 h1 tok
 |nH cm hr hf=>
  refine roundZ_N m q hq hb R1 R2 _ cm hr hf (.nH cm hr hf) ?_ er w h0 h1 tok
  refine(zh_in m q hq true cm true [] 0 false (bif cm then f0+1 else f0) R1 R2 _).trans ?_
  rw[hr]
  exact zst_go m q hq hw true cm true [] [] 0 false (bif cm then f0+1 else f0) R1 R2 _ _ (zhanZ_h m q false cm true [] 0 false (bif cm then f0+1 else f0) R1 R2 _)
theorem tSize(t:ByteArray)(i:Nat)(h:t.size≤7*i)(a b:Nat):(t++ByteArray.extract (⟨⟨[45,100,110,115,120,98,97]⟩⟩:ByteArray) a b).size≤7*(i+1):=by
 have:=ext_size (⟨⟨[45,100,110,115,120,98,97]⟩⟩:ByteArray) a b
 have e:(⟨⟨[45,100,110,115,120,98,97]⟩⟩:ByteArray).size=7:=rfl
 rw[ByteArray.size_append];omega
theorem cR(c:Int)(h:1≤c∧c≤6):decide ((6:Int)<c)=false∧(decide ((0:Int)≤c)&&(decide (c≤Go.IntKind.wrap .u8 (c+1))&&decide (Int.toNat (Go.IntKind.wrap .u8 (c+1))≤ByteArray.size (⟨⟨[45,100,110,115,120,98,97]⟩⟩:ByteArray))))=true:=by
 have e:(⟨⟨[45,100,110,115,120,98,97]⟩⟩:ByteArray).size=7:=rfl
 rw[wu8,e,dF (by omega),dT (by omega),dT (by omega),dT (by omega)]
 exact⟨rfl,rfl⟩
theorem sizeOb(t:ByteArray)(i:Nat)(hi:i≤400)(h:t.size≤7*i)(a b:Nat):decide (((t.size+(ByteArray.extract (⟨⟨[45,100,110,115,120,98,97]⟩⟩:ByteArray) a b).size:Nat):Int)>Go.IntKind.max Go.IntKind.i64)=false:=by
 have:=ext_size (⟨⟨[45,100,110,115,120,98,97]⟩⟩:ByteArray) a b
 have e:(⟨⟨[45,100,110,115,120,98,97]⟩⟩:ByteArray).size=7:=rfl
 have e2:Go.IntKind.max Go.IntKind.i64=9223372036854775807:=by decide
 rw[e2]
 exact dF (by omega)
theorem loopZ(m:Nat)(q:Req)(hq:q.Ok)(hb:Bs cs f0)(hw:wrB q.r1 q.r5=false)(R1:Int)(R2:List Int)(hR:R2.length≤300): ∀(k n i:Nat) (t:ByteArray) (x:XsZ) (st:Int) (tg:Bool) (got:List Int) (bh:Nat) (er tok:Int) (w:List Int),
  IvZ q R1 R2 cs f0 x st tg got bh→0≤er→er+bad w≤2→ms q w st got bh≤k→k+1<n→i+k≤398→t.size≤7*i→
  ∃t' tok' tg' er' got' e',∃x':XsZ,∃w':List Int,runZ_L0 m n 400 t i true 9 tok x.1.1 x.1.2.1 x.1.2.2.1 x.1.2.2.2.1 x.1.2.2.2.2.1 x.1.2.2.2.2.2.1 x.1.2.2.2.2.2.2.1 x.1.2.2.2.2.2.2.2.1 x.1.2.2.2.2.2.2.2.2.1 x.1.2.2.2.2.2.2.2.2.2.1 x.1.2.2.2.2.2.2.2.2.2.2.1 x.1.2.2.2.2.2.2.2.2.2.2.2.1 x.1.2.2.2.2.2.2.2.2.2.2.2.2.1 x.1.2.2.2.2.2.2.2.2.2.2.2.2.2.1 x.1.2.2.2.2.2.2.2.2.2.2.2.2.2.2.1 x.2.1.1 x.2.1.2.1 x.2.2.1 w (tOf q st tg 0 got er 0)=some (.inl ((t',()),(true,9,tok',()),x'.1,x'.2.1,x'.2.2.1,(w',()),tOf q 4 tg' 0 got' er' e',()))∧FinZ q R1 R2 cs f0 x' got' e'∧bad w'≤bad w:=by
 intro k
 induction k with
 |zero=>
  intro n i t x st tg got bh er tok w hi h0 h1 hk
  exfalso
  rcases(fin11 hi).2 with rfl|rfl|rfl
  ·rw[ms1]at hk;omega
  ·rw[ms2]at hk;omega
  ·rw[ms3]at hk;omega
 |succ k ih=>
  intro n i t x st tg got bh er tok w hi h0 h1 hk hn hik ht
  obtain⟨n,rfl⟩: ∃n',n=n'+1:=⟨n - 1,by omega⟩
  obtain⟨tr,hnx,c,d,tok',sent,x',w',hdo,hcr,hbw,st2,tg2,got2,er2,e2,hans,hh⟩:=roundZ m q hq hb hw R1 R2 hR x st tg got bh hi er w h0 h1 tok
  unfold doZx at hdo
  obtain⟨c1,c2⟩:=cR c hcr
  have wi:Go.IntKind.wrap .i64 ((i:Int)+1)=((i+1:Nat):Int):=by rw[wi64 (by omega) (by omega)];omega
  have key:runZ_L0 m (n+1) 400 t i true 9 tok x.1.1 x.1.2.1 x.1.2.2.1 x.1.2.2.2.1 x.1.2.2.2.2.1 x.1.2.2.2.2.2.1 x.1.2.2.2.2.2.2.1 x.1.2.2.2.2.2.2.2.1 x.1.2.2.2.2.2.2.2.2.1 x.1.2.2.2.2.2.2.2.2.2.1 x.1.2.2.2.2.2.2.2.2.2.2.1 x.1.2.2.2.2.2.2.2.2.2.2.2.1 x.1.2.2.2.2.2.2.2.2.2.2.2.2.1 x.1.2.2.2.2.2.2.2.2.2.2.2.2.2.1 x.1.2.2.2.2.2.2.2.2.2.2.2.2.2.2.1 x.2.1.1 x.2.1.2.1 x.2.2.1 w (tOf q st tg 0 got er 0)=runZ_L0 m n 400 (t++ByteArray.extract (⟨⟨[45,100,110,115,120,98,97]⟩⟩:ByteArray) (Int.toNat c) (Int.toNat (Go.IntKind.wrap .u8 (c+1)))) ((i+1:Nat):Int) true 9 tok' x'.1.1 x'.1.2.1 x'.1.2.2.1 x'.1.2.2.2.1 x'.1.2.2.2.2.1 x'.1.2.2.2.2.2.1 x'.1.2.2.2.2.2.2.1 x'.1.2.2.2.2.2.2.2.1 x'.1.2.2.2.2.2.2.2.2.1 x'.1.2.2.2.2.2.2.2.2.2.1 x'.1.2.2.2.2.2.2.2.2.2.2.1 x'.1.2.2.2.2.2.2.2.2.2.2.2.1 x'.1.2.2.2.2.2.2.2.2.2.2.2.2.1 x'.1.2.2.2.2.2.2.2.2.2.2.2.2.2.1 x'.1.2.2.2.2.2.2.2.2.2.2.2.2.2.2.1 x'.2.1.1 x'.2.1.2.1 x'.2.2.1 w' (tOf q st2 tg2 0 got2 er2 e2):=by
   conv=>lhs;unfold runZ_L0
   rw[dT (show(i:Int)<400 by omega),cond_true,hnx,bns]
   simp only[Bool.not_true,cond_false]
   rw[hdo,bns]
   simp only[c1,c2,cond_false,cond_true,sizeOb t i (by omega) ht,Bool.not_false,hans,bns,wi]
  rw[key]
  have ht2:=tSize t i ht (Int.toNat c) (Int.toNat (Go.IntKind.wrap .u8 (c+1)))
  rcases hh with⟨rfl,hfin⟩|⟨bh2,hi2,e0,e1,rfl,hms⟩
  ·obtain⟨n,rfl⟩: ∃n',n=n'+1:=⟨n - 1,by omega⟩
   obtain⟨t4,h4⟩:=next_over m q tg2 0 got2 er2 e2
   refine⟨t++ByteArray.extract (⟨⟨[45,100,110,115,120,98,97]⟩⟩:ByteArray) (Int.toNat c) (Int.toNat (Go.IntKind.wrap .u8 (c+1))),tok',tg2,er2,got2,e2,x',w',?_,hfin,hbw⟩
   conv=>lhs;unfold runZ_L0
   rw[dT (show((i+1:Nat):Int)<400 by omega),cond_true,h4,bns]
   rfl
  ·obtain⟨a1,a2,a3,a4,a5,a6,a7,a8,a9,a10,a11⟩:=ih n (i+1) _ x' st2 tg2 got2 bh2 er2 tok' w' hi2 e0 e1 (by omega) (by omega) (by omega) ht2
   exact⟨a1,a2,a3,a4,a5,a6,a7,a8,a9,a10,by omega⟩
end
end Go.Proofs.Ytngghkoghbpceaa
