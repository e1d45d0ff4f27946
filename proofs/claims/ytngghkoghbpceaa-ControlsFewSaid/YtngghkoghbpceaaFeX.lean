/-
  The statement ControlsFew: the plain law: the rounds of a transfer that writes, where few packets do not arrive.
  Conditions: none.
-/
import Derived.Test.YtngghkoghbpceaaFeV
import Derived.Test.YtngghkoghbpceaaFeP
import Derived.Test.YtngghkoghbpceaaN8j
namespace Go.Proofs.Ytngghkoghbpceaa
set_option linter.unusedVariables false
set_option linter.unusedSimpArgs false
set_option maxRecDepth 100000
set_option maxHeartbeats 4000000
def xw(R1:Int)(R2:List Int)(z:ZwT)(cs:List ClT)(D:List Int):XsW:=(z,(R1,R2,()),cs,D,())
inductive IvW (q:Req) (R1:Int) (R2:List Int) (cs:List ClT) (f0:Int):XsW→Int→Bool→Int→Prop where
 |a1:IvW q R1 R2 cs f0 (xw R1 R2 (zW q true false false false true f0) cs []) 1 true 0
 |wB (tg ztg:Bool) (at' k:Int) (h0:0≤at') (h1:at'<q.O.length) (hs:(ztg=tg∧k=at')∨(ztg= !tg∧k=at'+(outNow q at').length)):IvW q R1 R2 cs f0 (xw R1 R2 (zW q true false false false ztg f0) cs (q.O.take k.toNat)) 2 tg at'
 |sA (tg ztg:Bool):IvW q R1 R2 cs f0 (xw R1 R2 (zW q true false false false ztg f0) cs q.O) 3 tg q.O.length
 |sR (tg ztg:Bool) (hf:rfB R1 q.r2=true):IvW q R1 R2 cs f0 (xw R1 R2 (zW q true true true false ztg f0) (cs++ [callOf q q.O]) q.O) 3 tg q.O.length
 |sH (cm tg ztg:Bool) (hf:rfB R1 q.r2=false):IvW q R1 R2 cs f0 (xw R1 R2 (zW q true true false cm ztg (bif cm then f0+1 else f0)) (cs++ [callOf q q.O]) q.O) 3 tg q.O.length
def wfin(x:XsW):Int:=x.1.2.2.2.2.2.2.2.2.2.2.2.2.2.1
structure FinW (q:Req) (R1:Int) (R2:List Int) (cs:List ClT) (f0:Int) (x:XsW) (e:Int):Prop where
 mx:x.1.1=q.mx
 rr:x.2.1=(R1,R2,())
 cs:x.2.2.1=cs++ [callOf q q.O]
 fin:f0≤wfin x∧wfin x≤f0+1
 ee:(e=0∧rfB R1 q.r2=false)∨(e=12∧rfB R1 q.r2=true)
section
variable {cs:List ClT} {f0:Int}
theorem finW11{q:Req}{R1:Int}{R2:List Int}{x:XsW}{st:Int}{tg:Bool}{at':Int}(h:IvW q R1 R2 cs f0 x st tg at'):st=1∨st=2∨st=3:=by
 cases h<;>omega
def mw(q:Req)(w:List Int)(st at':Int):Nat:=2*bad w+(if st=1 then 3+q.O.length / 8 else if st=2 then 2+(q.O.length - at'.toNat) / 8 else 1)
theorem mw1(q:Req)(w:List Int)(at':Int):mw q w 1 at'=2*bad w+(3+q.O.length / 8):=rfl
theorem mw2(q:Req)(w:List Int)(at':Int):mw q w 2 at'=2*bad w+(2+(q.O.length - at'.toNat) / 8):=rfl
theorem mw3(q:Req)(w:List Int)(at':Int):mw q w 3 at'=2*bad w+1:=rfl
structure StepW (m:Nat) (q:Req) (R1:Int) (R2:List Int) (cs:List ClT) (f0:Int) (st:Int) (tg:Bool) (at':Int) (er:Int) (w:List Int) (c:Int) (d:List Int) (x':XsW) (w':List Int):Prop where
 cr:1≤c∧c≤6
 bw:bad w'≤bad w
 an: ∃st2 tg2 at2 er2 e2,ans8_D m (tOf q st tg at' [] er 0) (c,d,())=some (tOf q st2 tg2 at2 [] er2 e2,())∧((st2=4∧FinW q R1 R2 cs f0 x' e2)∨(IvW q R1 R2 cs f0 x' st2 tg2 at2∧0≤er2∧er2+bad w'≤2∧e2=0∧mw q w' st2 at2<mw q w st at'))
theorem stepW_none{m:Nat}{q:Req}(hq:q.Ok){R1:Int}{R2:List Int}{x':XsW}{st:Int}{tg:Bool}{at':Int}{er:Int}{w w':List Int}(h:IvW q R1 R2 cs f0 x' st tg at')(h0:0≤er)(h1:er+bad w≤2)(hw:bad w'<bad w):
  StepW m q R1 R2 cs f0 st tg at' er w 4 [] x' w':=by
 have hs:=finW11 h
 obtain⟨st2,e2,ha,hh⟩:=ans_none m q st hs tg at' [] er 0 h0 (by omega)
 refine⟨by omega,by omega,st2,tg,at',er+1,e2,ha,?_⟩
 rcases hh with⟨rfl,rfl,h3⟩|⟨rfl,rfl⟩
 ·refine .inr ⟨h,by omega,by omega,rfl,?_⟩
  unfold mw;omega
 ·exfalso
  have w3:Go.IntKind.wrap .i64 3=3:=by decide
  have hw2:Go.IntKind.wrap .i64 (er+1)=er+1:=wi64 (by omega) (by omega)
  have hn: ¬er+1=3:=by omega
  revert ha
  unfold ans8_D tOf
  rcases hs with rfl|rfl|rfl
  ·unfold ans81_D ans81_J0;simp[hw2,hn,w3]
  ·unfold ans82_D ans82_J0;simp[hw2,hn,w3]
  ·unfold ans83_D ans83_J0;simp[hw2,hn,w3]
def doWx(m:Nat)(t:TryT)(tok:Int)(x:XsW)(w:List Int):Option (((Int×List Int×Unit)×List SnT×Unit)×(Bool×Int×Int×Unit)×ZwT×(Int×List Int×Unit)×List ClT×List Int×(List Int×Unit)×Unit):=
 doW_D m (9,t.2) true 9 tok x.1.1 x.1.2.1 x.1.2.2.1 x.1.2.2.2.1 x.1.2.2.2.2.1 x.1.2.2.2.2.2.1 x.1.2.2.2.2.2.2.1 x.1.2.2.2.2.2.2.2.1 x.1.2.2.2.2.2.2.2.2.1 x.1.2.2.2.2.2.2.2.2.2.1 x.1.2.2.2.2.2.2.2.2.2.2.1 x.1.2.2.2.2.2.2.2.2.2.2.2.1 x.1.2.2.2.2.2.2.2.2.2.2.2.2.1 x.1.2.2.2.2.2.2.2.2.2.2.2.2.2.1 x.2.1.1 x.2.1.2.1 x.2.2.1 x.2.2.2.1 w
def RoundW(m:Nat)(q:Req)(R1:Int)(R2:List Int)(cs:List ClT)(f0:Int)(x:XsW)(st:Int)(tg:Bool)(at':Int)(er:Int)(tok:Int)(w:List Int):Prop:=
 ∃t:TryT,next8_D m (tOf q st tg at' [] er 0)=some ((t,true,()),())∧ ∃c d tok' sent,∃x':XsW,∃w':List Int,doWx m t tok x w=some (((c,d,()),sent,()),(true,9,tok',()),x'.1,x'.2.1,x'.2.2.1,x'.2.2.2.1,(w',()),())∧StepW m q R1 R2 cs f0 st tg at' er w c d x' w'
theorem wr_r5{q:Req}(hq:q.Ok)(hw:wrB q.r1 q.r5=true):(q.O.length:Int)=q.r5∧0<q.r5∧rdB q.r1 q.r5=false:=by
 have h:=hq.hO
 rw[if_pos hw]at h
 unfold wrB at hw
 simp at hw
 refine⟨h,by omega,?_⟩
 unfold rdB
 simp;omega
theorem roundW_a1(m:Nat)(q:Req)(hq:q.Ok)(hw:wrB q.r1 q.r5=true)(R1:Int)(R2:List Int)(er:Int)(w:List Int)(h0:0≤er)(h1:er+bad w≤2)(tok:Int):
  RoundW m q R1 R2 cs f0 (xw R1 R2 (zW q true false false false true f0) cs []) 1 true 0 er tok w:=by
 obtain⟨hl5,h5p,hrd⟩:=wr_r5 hq hw
 refine⟨_,next_setup m q hq true 0 [] er 0,?_⟩
 have hz2:zhrWs m 13 (pD (bif false then 11 else 3) (by8 q.r1 q.r2 q.r3 q.r4 q.r5)) (xw R1 R2 (zW q true false false false true f0) cs [])=some ((pD 2 [],true,()),xw R1 R2 (zW q true false false false true f0) cs []):=by
  exact wh_setup m q hq _ _ _ _ _ _ _ _ _ _ f0 R1 R2 cs []
 obtain⟨c,tok',sent,x',w',h,hh⟩:=outW_gen m 13 (by omega) false (by8 q.r1 q.r2 q.r3 q.r4 q.r5) (by rw[bl8];omega) (tk_setup m _ rfl) tok (xw R1 R2 (zW q true false false false true f0) cs []) _ w 2 1 (by omega) (hands_ack m) hz2
 refine⟨c,[],tok',sent,x',w',h,?_⟩
 rcases hh with⟨rfl,rfl,hl⟩|⟨rfl,hx,hl⟩
 ·refine⟨by decide,hl,_,_,_,_,_,ans_setup m q true 0 [] er 0,.inr ?_⟩
  rw[if_pos h5p]
  refine⟨IvW.wB true true 0 0 (by omega) (by omega) (.inl ⟨rfl,rfl⟩),by omega,by omega,rfl,?_⟩
  rw[mw1,mw2];omega
 ·rcases hx with rfl|rfl
  ·exact stepW_none hq .a1 h0 h1 hl
  ·exact stepW_none hq .a1 h0 h1 hl
theorem take_out(q:Req)(hq:q.Ok)(at':Int)(h:0≤at'∧at'≤q.O.length):q.O.take at'.toNat++outNow q at'=q.O.take (at'+(outNow q at').length).toNat:=by
 have hm:=mx_lt hq.hm
 have hl:=outNow_len q hq at' h
 have e:outNow q at'=(q.O.drop at'.toNat).take (outNow q at').length:=by
  unfold outNow
  rw[List.take_eq_take_iff]
  simp only[List.length_take,List.length_drop];omega
 have e2:(at'+((outNow q at').length:Nat)).toNat=at'.toNat+(outNow q at').length:=by omega
 rw[e2,List.take_add,←e]
theorem roundW_B(m:Nat)(q:Req)(hq:q.Ok)(hw:wrB q.r1 q.r5=true)(R1:Int)(R2:List Int)(tg ztg:Bool)(at' k:Int)(a0:0≤at')(a1:at'<q.O.length)(hs:(ztg=tg∧k=at')∨(ztg= !tg∧k=at'+(outNow q at').length))(er:Int)(w:List Int)(h0:0≤er)(h1:er+bad w≤2)(tok:Int):
  RoundW m q R1 R2 cs f0 (xw R1 R2 (zW q true false false false ztg f0) cs (q.O.take k.toNat)) 2 tg at' er tok w:=by
 obtain⟨hl5,h5p,hrd⟩:=wr_r5 hq hw
 have hm:=mx_lt hq.hm
 have hO:=O_len q hq
 have hol:=outNow_len q hq at' ⟨a0,by omega⟩
 have hto:=take_out q hq at' ⟨a0,by omega⟩
 refine⟨_,next_write m q hq tg at' [] er 0 ⟨a0,by omega⟩ hrd,?_⟩
 have hk:(((q.O.take k.toNat).length:Nat):Int)=k:=by
  simp only[List.length_take]
  rcases hs with⟨_,rfl⟩|⟨_,rfl⟩<;>omega
 have hz:=wh_out m q hq hrd hw tg ztg f0 R1 R2 cs (q.O.take k.toNat) (outNow q at') (by omega) (by
  intro e
  rcases hs with⟨_,rfl⟩|⟨h,_⟩
  ·omega
  ·subst e;cases tg<;>cases h)
 have hnew:xw R1 R2 (zW q true false false false (bif decide (tg=ztg)then !ztg else ztg) f0) cs (bif decide (tg=ztg)then q.O.take k.toNat++outNow q at' else q.O.take k.toNat)=xw R1 R2 (zW q true false false false (!tg) f0) cs (q.O.take (at'+(outNow q at').length).toNat):=by
  rcases hs with⟨rfl,rfl⟩|⟨rfl,rfl⟩
  ·rw[dT rfl];simp only[cond_true];rw[hto]
  ·rw[dF (by cases tg<;>simp)];rfl
 change _=some (_,xw R1 R2 (zW q true false false false (bif decide (tg=ztg)then !ztg else ztg) f0) cs (bif decide (tg=ztg)then q.O.take k.toNat++outNow q at' else q.O.take k.toNat))at hz
 rw[hnew]at hz
 obtain⟨c,tok',sent,x',w',h,hh⟩:=outW_gen m 1 (by omega) tg (outNow q at') (by omega) (tk_out m tg _ (by omega)) tok (xw R1 R2 (zW q true false false false ztg f0) cs (q.O.take k.toNat)) _ w 2 1 (by omega) (hands_ack m) hz
 refine⟨c,[],tok',sent,x',w',h,?_⟩
 rcases hh with⟨rfl,rfl,hl⟩|⟨rfl,hx,hl⟩
 ·refine⟨by decide,hl,_,_,_,_,_,ans_write m q hq hrd tg at' [] er 0 ⟨a0,by omega⟩,.inr ?_⟩
  by_cases hend:at'+((outNow q at').length:Int)=q.O.length
  ·rw[if_pos hend,hend,Int.toNat_natCast,List.take_length]
   refine⟨.sA (!tg) (!tg),by omega,by omega,rfl,?_⟩
   rw[mw3,mw2];omega
  ·rw[if_neg hend]
   refine⟨.wB (!tg) (!tg) _ _ (by omega) (by omega) (.inl ⟨rfl,rfl⟩),by omega,by omega,rfl,?_⟩
   rw[mw2,mw2];omega
 ·rcases hx with rfl|rfl
  ·exact stepW_none hq (.wB tg ztg at' k a0 a1 hs) h0 h1 hl
  ·exact stepW_none hq (.wB tg (!tg) at' _ a0 a1 (.inr ⟨rfl,rfl⟩)) h0 h1 hl
theorem roundW_R(m:Nat)(q:Req)(hq:q.Ok)(hw:wrB q.r1 q.r5=true)(R1:Int)(R2:List Int)(x:XsW)(tg ztg:Bool)(hf:rfB R1 q.r2=true)
  (hi:IvW q R1 R2 cs f0 x 3 tg q.O.length)(hz:zhrWs m 9 (pT 9 9 0) x=some ((pD 14 [],true,()),xw R1 R2 (zW q true true true false ztg f0) (cs++ [callOf q q.O]) q.O))(er:Int)(w:List Int)(h0:0≤er)(h1:er+bad w≤2)(tok:Int):
  RoundW m q R1 R2 cs f0 x 3 tg q.O.length er tok w:=by
 obtain⟨hl5,h5p,hrd⟩:=wr_r5 hq hw
 refine⟨_,(by rw[next_stat m q hq,hrd];rfl:next8_D m (tOf q 3 tg q.O.length [] er 0)=some (((0,0,9,true,false,0,[],()),true,()),())),?_⟩
 obtain⟨c,tok',sent,x',w',h,hh⟩:=inW_stall m true 0 (tk_in m true 0 (by omega) (by omega)) tok x _ w hz
 refine⟨c,[],tok',sent,x',w',h,?_⟩
 rcases hh with⟨rfl,rfl,hl⟩|⟨rfl,hx,hl⟩
 ·exact⟨by omega,hl,_,_,_,_,_,ans_stall m q 3 (by omega) tg q.O.length [] er 0,.inl ⟨rfl,rfl,rfl,rfl,(by constructor<;>simp only[wfin,xw,zW]<;>omega),.inr ⟨rfl,hf⟩⟩⟩
 ·rcases hx with rfl|rfl
  ·exact stepW_none hq hi h0 h1 hl
  ·exact stepW_none hq (.sR tg ztg hf) h0 h1 hl
theorem roundW_H(m:Nat)(q:Req)(hq:q.Ok)(hb:Bs cs f0)(hw:wrB q.r1 q.r5=true)(R1:Int)(R2:List Int)(x:XsW)(cm tg ztg:Bool)(hf:rfB R1 q.r2=false)
  (hi:IvW q R1 R2 cs f0 x 3 tg q.O.length)(hz:zhrWs m 9 (pT 9 9 0) x=some ((pD 11 [],true,()),xw R1 R2 (zW q true true false cm ztg (bif cm then f0+1 else f0)) (cs++ [callOf q q.O]) q.O))(er:Int)(w:List Int)(h0:0≤er)(h1:er+bad w≤2)(tok:Int):
  RoundW m q R1 R2 cs f0 x 3 tg q.O.length er tok w:=by
 obtain⟨hl5,h5p,hrd⟩:=wr_r5 hq hw
 refine⟨_,(by rw[next_stat m q hq,hrd];rfl:next8_D m (tOf q 3 tg q.O.length [] er 0)=some (((0,0,9,true,false,0,[],()),true,()),())),?_⟩
 obtain⟨hb1,hb2,hb3⟩:=hb
 have hfr:0≤(bif cm then f0+1 else f0)∧(bif cm then f0+1 else f0)≤100:=by cases cm<;>simp only[cond_true,cond_false]<;>omega
 have hone:(bif cm then(bif cm then f0+1 else f0)else(bif cm then f0+1 else f0)+1)=f0+1:=by cases cm<;>rfl
 have hk:=wh_ack m q hq hrd cm ztg (bif cm then f0+1 else f0) hfr R1 R2 (cs++ [callOf q q.O]) q.O
 rw[hone]at hk
 obtain⟨c,d,tok',sent,x',w',h,hh⟩:=inW_data m true 0 (tk_in m true 0 (by omega) (by omega)) tok x (xw R1 R2 (zW q true true false cm ztg (bif cm then f0+1 else f0)) (cs++ [callOf q q.O]) q.O) _ w 11 (by omega) [] (by simp) (by simp) _ hz hk
 refine⟨c,d,tok',sent,x',w',h,?_⟩
 rcases hh with⟨he,hx⟩|⟨rfl,rfl,hx,hl⟩
 ·obtain⟨rfl,rfl⟩:c=1∧d= []:=by simpa using he
  refine⟨by decide,by rcases hx with⟨_,h⟩|⟨_,h⟩<;>omega,_,_,_,_,_,ans_stat m q hq tg q.O.length [] er 0,.inl ⟨rfl,?_⟩⟩
  rcases hx with⟨rfl,_⟩|⟨rfl,_⟩
  ·exact⟨rfl,rfl,rfl,(by constructor<;>simp only[wfin,xw,zW]<;>omega),.inl ⟨rfl,hf⟩⟩
  ·exact⟨rfl,rfl,rfl,(by constructor<;>simp only[wfin,xw,zW]<;>cases cm<;>simp only[cond_true,cond_false]<;>omega),.inl ⟨rfl,hf⟩⟩
 ·rcases hx with rfl|rfl
  ·exact stepW_none hq hi h0 h1 hl
  ·exact stepW_none hq (.sH cm tg ztg hf) h0 h1 hl
theorem roundW(m:Nat)(q:Req)(hq:q.Ok)(hb:Bs cs f0)(hw:wrB q.r1 q.r5=true)(R1:Int)(R2:List Int)(x:XsW)(st:Int)(tg:Bool)(at':Int)(hi:IvW q R1 R2 cs f0 x st tg at')(er:Int)(w:List Int)(h0:0≤er)(h1:er+bad w≤2)(tok:Int):
  RoundW m q R1 R2 cs f0 x st tg at' er tok w:=by
 obtain⟨hl5,h5p,hrd⟩:=wr_r5 hq hw
 have hO:=O_len q hq
 have hcl:cs.length≤1000:=by have:=hb.1;omega
 cases hi with
 |a1=>exact roundW_a1 m q hq hw R1 R2 er w h0 h1 tok
 |wB tg ztg at' k a0 a1 hs=>exact roundW_B m q hq hw R1 R2 tg ztg at' k a0 a1 hs er w h0 h1 tok
 |sA tg ztg=>
  cases hf:rfB R1 q.r2 with
  |true=>
   refine roundW_R m q hq hw R1 R2 _ tg ztg hf (.sA tg ztg) ?_ er w h0 h1 tok
   exact(wh_in m q hq hrd false false ztg f0 R1 R2 cs q.O).trans (wst_rf m q hq false ztg f0 R1 R2 cs hcl q.O hl5 hf)
  |false=>
   refine roundW_H m q hq hb hw R1 R2 _ false tg ztg hf (.sA tg ztg) ?_ er w h0 h1 tok
   exact(wh_in m q hq hrd false false ztg f0 R1 R2 cs q.O).trans (wst_go m q hq false false ztg f0 R1 R2 cs _ q.O hl5 (zhanW_nr m q hq hrd false ztg f0 R1 R2 cs hcl q.O (by omega) hf))
 |sR tg ztg hf=>exact roundW_R m q hq hw R1 R2 _ tg ztg hf (.sR tg ztg hf) (wh_rf m q hq true false ztg f0 R1 R2 _ q.O) er w h0 h1 tok
 |sH cm tg ztg hf=>
  refine roundW_H m q hq hb hw R1 R2 _ cm tg ztg hf (.sH cm tg ztg hf) ?_ er w h0 h1 tok
  exact(wh_in m q hq hrd true cm ztg (bif cm then f0+1 else f0) R1 R2 _ q.O).trans (wst_go m q hq true cm ztg (bif cm then f0+1 else f0) R1 R2 _ _ q.O hl5 (zhanW_h m q cm ztg (bif cm then f0+1 else f0) R1 R2 _ q.O))
theorem loopV(m:Nat)(q:Req)(hq:q.Ok)(hb:Bs cs f0)(hw:wrB q.r1 q.r5=true)(R1:Int)(R2:List Int): ∀(k n i:Nat) (t:ByteArray) (x:XsW) (st:Int) (tg:Bool) (at' er tok:Int) (w:List Int),
  IvW q R1 R2 cs f0 x st tg at'→0≤er→er+bad w≤2→mw q w st at'≤k→k+1<n→i+k≤398→t.size≤7*i→
  ∃t' tok' tg' at2 er' e',∃x':XsW,∃w':List Int,runV_L0 m n 400 t i true 9 tok x.1.1 x.1.2.1 x.1.2.2.1 x.1.2.2.2.1 x.1.2.2.2.2.1 x.1.2.2.2.2.2.1 x.1.2.2.2.2.2.2.1 x.1.2.2.2.2.2.2.2.1 x.1.2.2.2.2.2.2.2.2.1 x.1.2.2.2.2.2.2.2.2.2.1 x.1.2.2.2.2.2.2.2.2.2.2.1 x.1.2.2.2.2.2.2.2.2.2.2.2.1 x.1.2.2.2.2.2.2.2.2.2.2.2.2.1 x.1.2.2.2.2.2.2.2.2.2.2.2.2.2.1 x.2.1.1 x.2.1.2.1 x.2.2.1 w (tOf q st tg at' [] er 0) x.2.2.2.1=some (.inl ((t',()),(true,9,tok',()),x'.1,x'.2.1,x'.2.2.1,(w',()),tOf q 4 tg' at2 [] er' e',x'.2.2.2.1,()))∧FinW q R1 R2 cs f0 x' e'∧bad w'≤bad w:=by
 intro k
 induction k with
 |zero=>
  intro n i t x st tg at' er tok w hi h0 h1 hk
  exfalso
  rcases finW11 hi with rfl|rfl|rfl
  ·rw[mw1]at hk;omega
  ·rw[mw2]at hk;omega
  ·rw[mw3]at hk;omega
 |succ k ih=>
  intro n i t x st tg at' er tok w hi h0 h1 hk hn hik ht
  obtain⟨n,rfl⟩: ∃n',n=n'+1:=⟨n - 1,by omega⟩
  obtain⟨tr,hnx,c,d,tok',sent,x',w',hdo,hcr,hbw,st2,tg2,at2,er2,e2,hans,hh⟩:=roundW m q hq hb hw R1 R2 x st tg at' hi er w h0 h1 tok
  unfold doWx at hdo
  obtain⟨c1,c2⟩:=cR c hcr
  have wi:Go.IntKind.wrap .i64 ((i:Int)+1)=((i+1:Nat):Int):=by rw[wi64 (by omega) (by omega)];omega
  have key:runV_L0 m (n+1) 400 t i true 9 tok x.1.1 x.1.2.1 x.1.2.2.1 x.1.2.2.2.1 x.1.2.2.2.2.1 x.1.2.2.2.2.2.1 x.1.2.2.2.2.2.2.1 x.1.2.2.2.2.2.2.2.1 x.1.2.2.2.2.2.2.2.2.1 x.1.2.2.2.2.2.2.2.2.2.1 x.1.2.2.2.2.2.2.2.2.2.2.1 x.1.2.2.2.2.2.2.2.2.2.2.2.1 x.1.2.2.2.2.2.2.2.2.2.2.2.2.1 x.1.2.2.2.2.2.2.2.2.2.2.2.2.2.1 x.2.1.1 x.2.1.2.1 x.2.2.1 w (tOf q st tg at' [] er 0) x.2.2.2.1=runV_L0 m n 400 (t++ByteArray.extract (⟨⟨[45,100,110,115,120,98,97]⟩⟩:ByteArray) (Int.toNat c) (Int.toNat (Go.IntKind.wrap .u8 (c+1)))) ((i+1:Nat):Int) true 9 tok' x'.1.1 x'.1.2.1 x'.1.2.2.1 x'.1.2.2.2.1 x'.1.2.2.2.2.1 x'.1.2.2.2.2.2.1 x'.1.2.2.2.2.2.2.1 x'.1.2.2.2.2.2.2.2.1 x'.1.2.2.2.2.2.2.2.2.1 x'.1.2.2.2.2.2.2.2.2.2.1 x'.1.2.2.2.2.2.2.2.2.2.2.1 x'.1.2.2.2.2.2.2.2.2.2.2.2.1 x'.1.2.2.2.2.2.2.2.2.2.2.2.2.1 x'.1.2.2.2.2.2.2.2.2.2.2.2.2.2.1 x'.2.1.1 x'.2.1.2.1 x'.2.2.1 w' (tOf q st2 tg2 at2 [] er2 e2) x'.2.2.2.1:=by
   conv=>lhs;unfold runV_L0
   rw[dT (show(i:Int)<400 by omega),cond_true,hnx,bns]
   simp only[Bool.not_true,cond_false]
   rw[hdo,bns]
   simp only[c1,c2,cond_false,cond_true,sizeOb t i (by omega) ht,Bool.not_false,hans,bns,wi]
  rw[key]
  have ht2:=tSize t i ht (Int.toNat c) (Int.toNat (Go.IntKind.wrap .u8 (c+1)))
  rcases hh with⟨rfl,hfin⟩|⟨hi2,e0,e1,rfl,hms⟩
  ·obtain⟨n,rfl⟩: ∃n',n=n'+1:=⟨n - 1,by omega⟩
   obtain⟨t4,h4⟩:=next_over m q tg2 at2 [] er2 e2
   refine⟨t++ByteArray.extract (⟨⟨[45,100,110,115,120,98,97]⟩⟩:ByteArray) (Int.toNat c) (Int.toNat (Go.IntKind.wrap .u8 (c+1))),tok',tg2,at2,er2,e2,x',w',?_,hfin,hbw⟩
   conv=>lhs;unfold runV_L0
   rw[dT (show((i+1:Nat):Int)<400 by omega),cond_true,h4,bns]
   rfl
  ·obtain⟨a1,a2,a3,a4,a5,a6,a8,a9,a10,a11,a12⟩:=ih n (i+1) _ x' st2 tg2 at2 er2 tok' w' hi2 e0 e1 (by omega) (by omega) (by omega) ht2
   exact⟨a1,a2,a3,a4,a5,a6,a8,a9,a10,a11,by omega⟩
end
end Go.Proofs.Ytngghkoghbpceaa
