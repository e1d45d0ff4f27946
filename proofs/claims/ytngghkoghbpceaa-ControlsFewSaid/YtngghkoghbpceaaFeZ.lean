/-
  The statement ControlsOnce: the plain law, part 2: what a Zero does with what it hears, for a request that reads or has no data.
  Conditions: none.
-/
import Derived.Test.YtngghkoghbpceaaOnA
import Derived.Test.YtngghkoghbpceaaDoF
namespace Go.Proofs.Ytngghkoghbpceaa
set_option linter.unusedVariables false
set_option linter.unusedSimpArgs false
set_option maxRecDepth 100000
set_option maxHeartbeats 4000000
def rfB(R1 r2:Int):Bool:=decide (Go.bits .and .u8 (Int.fdiv R1 ((2:Int) ^ Min.min (Int.toNat (Int.tmod r2 (8:Int))) (Go.IntKind.bits .u8))) (1:Int)=(1:Int))
def callOf(q:Req)(b:List Int):ClT:=(q.r1,q.r2,q.r3,q.r4,q.r5,b,())
theorem gr32'(n:Nat)(h:n≤1000000000):growOb 32 n=true:=growT (by omega) (by omega)
theorem req8_eq(m:Nat)(q:Req)(hq:q.Ok)(b:List Int)(hb:b.length≤1000)(R1:Int)(R2:List Int)(cs:List ClT)(hc:cs.length≤1000):
  req8_D m (q.r1,q.r2,q.r3,q.r4,q.r5,()) b R1 R2 cs=some ((bif rfB R1 q.r2 then []else R2,!rfB R1 q.r2,()),(R1,R2,()),cs++ [callOf q b],()):=by
 have h2:=hq.h2
 have h8:(0:Int)≤Int.tmod q.r2 8:=by rw[Int.tmod_eq_emod_of_nonneg h2.1];omega
 unfold req8_D rfB callOf
 simp only[List.nil_append]
 rw[gr1 _ (by omega),gr32' _ (by simp only[List.length_cons,List.length_nil];omega),dT h8,dT (show 16<nat_lit 38 by decide),dT (show 19<nat_lit 38 by decide)]
 simp only[Bool.and_self,cond_true]
 cases decide (Go.bits .and .u8 (Int.fdiv R1 ((2:Int) ^ Min.min (Int.toNat (Int.tmod q.r2 (8:Int))) (Go.IntKind.bits .u8))) (1:Int)=(1:Int))<;>rfl
def rdD(q:Req)(R2:List Int):List Int:=R2.take (if q.r5<(R2.length:Int)then q.r5 else(R2.length:Int)).toNat
theorem rdD_len(q:Req)(hq:q.Ok)(R2:List Int):(rdD q R2).length≤R2.length∧((rdD q R2).length:Int)≤q.r5:=by
 have:=hq.h5
 unfold rdD
 simp only[List.length_take]
 split<;>omega
def zX(q:Req)(has hd rf cm tg:Bool)(D:List Int)(at':Int)(la:Bool)(fin:Int):ZzT:=(q.mx,q.r1,q.r2,q.r3,q.r4,q.r5,has,hd,rf,cm,tg,D,at',la,fin,())
theorem zhanZ_rf(m:Nat)(q:Req)(hq:q.Ok)(rf cm tg:Bool)(D:List Int)(hD:D.length≤1000)(at':Int)(la:Bool)(fin:Int)(R1:Int)(R2:List Int)(cs:List ClT)(hc:cs.length≤1000)(hr:rfB R1 q.r2=true):
  zhanZ_D m q.mx q.r1 q.r2 q.r3 q.r4 q.r5 true false rf cm tg D at' la fin R1 R2 cs=some (false,zX q true true true cm tg D at' la fin,(R1,R2,()),cs++ [callOf q D],()):=by
 unfold zhanZ_D zX
 simp only[cond_false,clone8_eq m D (by omega),bns,req8_eq m q hq D hD R1 R2 cs hc,hr,Bool.not_true,Bool.not_false,cond_true]
theorem zhanZ_rd(m:Nat)(q:Req)(hq:q.Ok)(rf cm tg:Bool)(D:List Int)(hD:D.length≤1000)(at':Int)(la:Bool)(fin:Int)(R1:Int)(R2:List Int)(hR:R2.length≤1000)(cs:List ClT)(hc:cs.length≤1000)(hr:rfB R1 q.r2=false)(hrd:rdB q.r1 q.r5=true):
  zhanZ_D m q.mx q.r1 q.r2 q.r3 q.r4 q.r5 true false rf cm tg D at' la fin R1 R2 cs=some (true,zX q true true rf cm tg (rdD q R2) at' la fin,(R1,R2,()),cs++ [callOf q D],()):=by
 have h5:=hq.h5
 have w5:Go.IntKind.wrap .i64 q.r5=q.r5:=wi64 (by omega) (by omega)
 have hl:=rdD_len q hq R2
 have hn0:(0:Int)≤(if q.r5<(R2.length:Int)then q.r5 else(R2.length:Int)):=by split<;>omega
 have hn1:(if q.r5<(R2.length:Int)then q.r5 else(R2.length:Int)).toNat≤R2.length:=by split<;>omega
 unfold zhanZ_D zX
 simp only[cond_false,clone8_eq m D (by omega),bns,req8_eq m q hq D hD R1 R2 cs hc,hr,Bool.not_false,Bool.not_true,cond_true,reads_eq m _ _ _ _ _ hq.h1.1 hq.h1.2,hrd,w5]
 rw[dT hn0,dT hn1]
 change bnd (clone8_D m (rdD q R2)) _=_
 rw[clone8_eq m (rdD q R2) (by omega)]
 rfl
theorem zhanZ_nr(m:Nat)(q:Req)(hq:q.Ok)(rf cm tg:Bool)(D:List Int)(hD:D.length≤1000)(at':Int)(la:Bool)(fin:Int)(R1:Int)(R2:List Int)(cs:List ClT)(hc:cs.length≤1000)(hr:rfB R1 q.r2=false)(hrd:rdB q.r1 q.r5=false):
  zhanZ_D m q.mx q.r1 q.r2 q.r3 q.r4 q.r5 true false rf cm tg D at' la fin R1 R2 cs=some (true,zX q true true rf cm tg D at' la fin,(R1,R2,()),cs++ [callOf q D],()):=by
 unfold zhanZ_D zX
 simp only[cond_false,clone8_eq m D (by omega),bns,req8_eq m q hq D hD R1 R2 cs hc,hr,Bool.not_false,Bool.not_true,cond_true,reads_eq m _ _ _ _ _ hq.h1.1 hq.h1.2,hrd]
theorem zhanZ_h(m:Nat)(q:Req)(rf cm tg:Bool)(D:List Int)(at':Int)(la:Bool)(fin:Int)(R1:Int)(R2:List Int)(cs:List ClT):
  zhanZ_D m q.mx q.r1 q.r2 q.r3 q.r4 q.r5 true true rf cm tg D at' la fin R1 R2 cs=some (true,zX q true true rf cm tg D at' la fin,(R1,R2,()),cs,()):=rfl
def pk(q:Req)(D:List Int)(at':Int):List Int:=(D.drop at'.toNat).take q.mx.toNat
theorem pk_eq(q:Req)(hq:q.Ok)(D:List Int)(hD:D.length≤1000)(at':Int)(h0:0≤at')(h1:at'≤D.length):
  ((decide ((0:Int)≤at')&&(decide (at'≤if(D.length:Int)<Go.IntKind.wrap .i64 (at'+q.mx)then(D.length:Int)else Go.IntKind.wrap .i64 (at'+q.mx))&&decide (Int.toNat (if(D.length:Int)<Go.IntKind.wrap .i64 (at'+q.mx)then(D.length:Int)else Go.IntKind.wrap .i64 (at'+q.mx))≤D.length)))=true)∧
  List.drop (Int.toNat at') (List.take (Int.toNat (if(D.length:Int)<Go.IntKind.wrap .i64 (at'+q.mx)then(D.length:Int)else Go.IntKind.wrap .i64 (at'+q.mx))) D)=pk q D at':=by
 have hm:=mx_lt hq.hm
 rw[wi64 (by omega) (by omega)]
 have e:(if(D.length:Int)<at'+q.mx then(D.length:Int)else at'+q.mx)=min (D.length:Int) (at'+q.mx):=by split<;>omega
 rw[e]
 constructor
 ·rw[dT h0,dT (by omega),dT (by omega)];rfl
 ·unfold pk
  rw[List.drop_take,List.take_eq_take_iff]
  simp only[List.length_drop];omega
theorem pk_len(q:Req)(hq:q.Ok)(D:List Int)(at':Int)(h0:0≤at')(h1:at'≤D.length):((pk q D at').length:Int)=min q.mx (D.length - at'):=by
 have:=mx_lt hq.hm
 unfold pk
 simp only[List.length_take,List.length_drop];omega
theorem mx0{q:Req}(hq:q.Ok): ¬q.mx=0:=by have:=mx_lt hq.hm;omega
theorem zh_setup(m:Nat)(q:Req)(hq:q.Ok)(c1 c2 c3 c4 c5:Int)(b1 b2 b3 b4 b5:Bool)(D:List Int)(at':Int)(la:Bool)(fin:Int)(R1:Int)(R2:List Int)(cs:List ClT):
  zhrZ_D m 13 (pD 3 (by8 q.r1 q.r2 q.r3 q.r4 q.r5)) q.mx c1 c2 c3 c4 c5 b1 b2 b3 b4 b5 D at' la fin R1 R2 cs=some ((pD 2 [],true,()),zX q true false false false true [] 0 false fin,(R1,R2,()),cs,()):=by
 have h5:=hq.h5
 unfold zhrZ_D
 rw[dF (mx0 hq)]
 unfold zhrZ_J0 zhrZ_J7 zhrZ_J1 pD
 simp only[decide_true,cond_true,cond_false]
 unfold zsetZ_D
 simp only[join_by8 m _ _ _ _ _ hq.h3 hq.h4 (show 0≤q.r5∧q.r5<65536 by omega),bns]
 rfl
theorem zh_in(m:Nat)(q:Req)(hq:q.Ok)(hd cm tg:Bool)(D:List Int)(at':Int)(la:Bool)(fin:Int)(R1:Int)(R2:List Int)(cs:List ClT):
  zhrZ_D m 9 (pT 9 9 0) q.mx q.r1 q.r2 q.r3 q.r4 q.r5 true hd false cm tg D at' la fin R1 R2 cs=(bif rdB q.r1 q.r5 then zrdZ_D m q.mx q.r1 q.r2 q.r3 q.r4 q.r5 true hd false cm tg D at' la fin R1 R2 cs else zstZ_D m q.mx q.r1 q.r2 q.r3 q.r4 q.r5 true hd false cm tg D at' la fin R1 R2 cs):=by
 unfold zhrZ_D
 rw[dF (mx0 hq)]
 unfold zhrZ_J0 zhrZ_J7 zhrZ_J1 zhrZ_J2 zhrZ_J3 pT
 have e1:decide ((9:Int)=13)=false:=by decide
 have e2:decide ((9:Int)=3)=false:=by decide
 have e3:decide ((9:Int)=11)=false:=by decide
 simp only[decide_true,cond_true,cond_false,e1,e2,e3,Bool.not_true,reads_eq m _ _ _ _ _ hq.h1.1 hq.h1.2,bns]
 cases rdB q.r1 q.r5 with
 |true=>
  simp only[cond_true]
  cases zrdZ_D m q.mx q.r1 q.r2 q.r3 q.r4 q.r5 true hd false cm tg D at' la fin R1 R2 cs<;>rfl
 |false=>
  simp only[cond_false]
  cases zstZ_D m q.mx q.r1 q.r2 q.r3 q.r4 q.r5 true hd false cm tg D at' la fin R1 R2 cs<;>rfl
theorem zh_rf(m:Nat)(q:Req)(hq:q.Ok)(hd cm tg:Bool)(D:List Int)(at':Int)(la:Bool)(fin:Int)(R1:Int)(R2:List Int)(cs:List ClT):
  zhrZ_D m 9 (pT 9 9 0) q.mx q.r1 q.r2 q.r3 q.r4 q.r5 true hd true cm tg D at' la fin R1 R2 cs=some ((pD 14 [],true,()),zX q true hd true cm tg D at' la fin,(R1,R2,()),cs,()):=by
 unfold zhrZ_D
 rw[dF (mx0 hq)]
 rfl
theorem zrd_rf(m:Nat)(q:Req)(hq:q.Ok)(cm tg:Bool)(D:List Int)(hD:D.length≤1000)(at':Int)(la:Bool)(fin:Int)(R1:Int)(R2:List Int)(cs:List ClT)(hc:cs.length≤1000)(hr:rfB R1 q.r2=true):
  zrdZ_D m q.mx q.r1 q.r2 q.r3 q.r4 q.r5 true false false cm tg D at' la fin R1 R2 cs=some ((pD 14 [],true,()),zX q true true true cm tg D at' la fin,(R1,R2,()),cs++ [callOf q D],()):=by
 unfold zrdZ_D zrdZ_J0
 rw[zhanZ_rf m q hq false cm tg D hD at' la fin R1 R2 cs hc hr]
 rfl
theorem zrd_go(m:Nat)(q:Req)(hq:q.Ok)(hd tg tg2:Bool)(D D2:List Int)(hD:D2.length≤1000)(at':Int)(h0:0≤at')(h1:at'≤D2.length)(fin:Int)(R1:Int)(R2:List Int)(cs cs2:List ClT)
  (h:zhanZ_D m q.mx q.r1 q.r2 q.r3 q.r4 q.r5 true hd false false tg D at' false fin R1 R2 cs=some (true,zX q true true false false tg2 D2 at' false fin,(R1,R2,()),cs2,())):
  zrdZ_D m q.mx q.r1 q.r2 q.r3 q.r4 q.r5 true hd false false tg D at' false fin R1 R2 cs=some ((pD (bif tg2 then 11 else 3) (pk q D2 at'),true,()),zX q true true false false tg2 D2 at' false fin,(R1,R2,()),cs2,()):=by
 obtain⟨e1,e2⟩:=pk_eq q hq D2 hD at' h0 h1
 have hl:=pk_len q hq D2 at' h0 h1
 unfold zrdZ_D zrdZ_J0
 rw[h]
 unfold zX
 simp only[bns,Bool.not_true,cond_false,e1,e2,cond_true]
 rw[clone8_eq m (pk q D2 at') (by omega)]
 cases tg2<;>rfl
theorem zst_rf(m:Nat)(q:Req)(hq:q.Ok)(hw:wrB q.r1 q.r5=false)(cm tg:Bool)(D:List Int)(hD:D.length≤1000)(at':Int)(la:Bool)(fin:Int)(R1:Int)(R2:List Int)(cs:List ClT)(hc:cs.length≤1000)(hr:rfB R1 q.r2=true):
  zstZ_D m q.mx q.r1 q.r2 q.r3 q.r4 q.r5 true false false cm tg D at' la fin R1 R2 cs=some ((pD 14 [],true,()),zX q true true true cm tg D at' la fin,(R1,R2,()),cs++ [callOf q D],()):=by
 unfold zstZ_D zstZ_J0 zstZ_J1
 simp only[writes_eq m _ _ _ _ _ hq.h1.1 hq.h1.2,hw,bns,cond_false]
 rw[zhanZ_rf m q hq false cm tg D hD at' la fin R1 R2 cs hc hr]
 rfl
theorem zst_go(m:Nat)(q:Req)(hq:q.Ok)(hw:wrB q.r1 q.r5=false)(hd cm tg:Bool)(D D2:List Int)(at':Int)(la:Bool)(fin:Int)(R1:Int)(R2:List Int)(cs cs2:List ClT)
  (h:zhanZ_D m q.mx q.r1 q.r2 q.r3 q.r4 q.r5 true hd false cm tg D at' la fin R1 R2 cs=some (true,zX q true true false cm tg D2 at' la fin,(R1,R2,()),cs2,())):
  zstZ_D m q.mx q.r1 q.r2 q.r3 q.r4 q.r5 true hd false cm tg D at' la fin R1 R2 cs=some ((pD 11 [],true,()),zX q true true false cm tg D2 at' la fin,(R1,R2,()),cs2,()):=by
 unfold zstZ_D zstZ_J0 zstZ_J1
 simp only[writes_eq m _ _ _ _ _ hq.h1.1 hq.h1.2,hw,bns,cond_false]
 rw[h]
 rfl
theorem zh_ack(m:Nat)(q:Req)(hq:q.Ok)(hd rf cm tg:Bool)(D:List Int)(at':Int)(la:Bool)(fin:Int)(R1:Int)(R2:List Int)(cs:List ClT)(x1:XsZ)
  (h:zackZ_D m q.mx q.r1 q.r2 q.r3 q.r4 q.r5 true hd rf cm tg D at' la fin R1 R2 cs=some ((),x1)):
  zhrZ_D m 9 (pD 2 []) q.mx q.r1 q.r2 q.r3 q.r4 q.r5 true hd rf cm tg D at' la fin R1 R2 cs=some ((zP,false,()),x1):=by
 unfold zhrZ_D
 rw[dF (mx0 hq)]
 unfold zhrZ_J0 zhrZ_J7 zhrZ_J1 zhrZ_J2 zhrZ_J4 pD
 have e1:decide ((9:Int)=13)=false:=by decide
 have e2:decide ((2:Int)=3)=false:=by decide
 have e3:decide ((2:Int)=11)=false:=by decide
 have e4:decide ((2:Int)=9)=false:=by decide
 simp only[decide_true,cond_true,cond_false,e1,e2,e3,e4,h,bns]
 rfl
theorem zack_rd(m:Nat)(q:Req)(hq:q.Ok)(hrd:rdB q.r1 q.r5=true)(tg:Bool)(D:List Int)(hD:D.length≤1000)(at':Int)(h0:0≤at')(h1:at'≤D.length)(fin:Int)(R1:Int)(R2:List Int)(cs:List ClT):
  zackZ_D m q.mx q.r1 q.r2 q.r3 q.r4 q.r5 true true false false tg D at' false fin R1 R2 cs=some ((),zX q true true false false (!tg) D (at'+(pk q D at').length) (decide ((pk q D at').length<q.mx)||decide (at'+(pk q D at').length=q.r5)) fin,(R1,R2,()),cs,()):=by
 have hm:=mx_lt hq.hm
 have h5:=hq.h5
 have w5:Go.IntKind.wrap .i64 q.r5=q.r5:=wi64 (by omega) (by omega)
 obtain⟨e1,e2⟩:=pk_eq q hq D hD at' h0 h1
 have hl:=pk_len q hq D at' h0 h1
 have wa:Go.IntKind.wrap .i64 (at'+((pk q D at').length:Nat))=at'+(pk q D at').length:=wi64 (by omega) (by omega)
 unfold zackZ_D zackZ_J0 zackZ_J1 zX
 simp only[Bool.not_true,Bool.not_false,cond_true,cond_false,reads_eq m _ _ _ _ _ hq.h1.1 hq.h1.2,hrd,bns,e1,e2,wa,w5]
 by_cases h:((pk q D at').length:Int)<q.mx
 ·rw[dT h];rfl
 ·rw[dF h];rfl
theorem zack_nr(m:Nat)(q:Req)(hq:q.Ok)(hrd:rdB q.r1 q.r5=false)(cm tg:Bool)(D:List Int)(at':Int)(la:Bool)(fin:Int)(hf:0≤fin∧fin≤100)(R1:Int)(R2:List Int)(cs:List ClT):
  zackZ_D m q.mx q.r1 q.r2 q.r3 q.r4 q.r5 true true false cm tg D at' la fin R1 R2 cs=some ((),zX q true true false true tg D at' la (bif cm then fin else fin+1),(R1,R2,()),cs,()):=by
 have wf:Go.IntKind.wrap .i64 (fin+1)=fin+1:=wi64 (by omega) (by omega)
 unfold zackZ_D zackZ_J0 zX
 simp only[Bool.not_true,Bool.not_false,cond_true,cond_false,reads_eq m _ _ _ _ _ hq.h1.1 hq.h1.2,hrd,bns,wf]
 cases cm<;>rfl
theorem zh_out(m:Nat)(q:Req)(hq:q.Ok)(hrd:rdB q.r1 q.r5=true)(cm tg:Bool)(D:List Int)(at':Int)(la:Bool)(fin:Int)(hf:0≤fin∧fin≤100)(R1:Int)(R2:List Int)(cs:List ClT):
  zhrZ_D m 1 (pD 11 []) q.mx q.r1 q.r2 q.r3 q.r4 q.r5 true true false cm tg D at' la fin R1 R2 cs=some ((pD 2 [],true,()),zX q true true false true tg D at' la (bif cm then fin else fin+1),(R1,R2,()),cs,()):=by
 have wf:Go.IntKind.wrap .i64 (fin+1)=fin+1:=wi64 (by omega) (by omega)
 unfold zhrZ_D
 rw[dF (mx0 hq)]
 unfold zhrZ_J0 zhrZ_J7 zhrZ_J1 zhrZ_J2 zhrZ_J4 zhrZ_J5 zhrZ_J6 pD
 have e1:decide ((1:Int)=13)=false:=by decide
 have e2:decide ((1:Int)=9)=false:=by decide
 have e3:decide ((11:Int)=3)=false:=by decide
 simp only[decide_true,cond_true,cond_false,e1,e2,e3,Bool.not_true]
 unfold zoutZ_D zoutZ_J0 zX
 have e4:decide ((0:Int)<(([]:List Int).length:Nat))=false:=by decide
 simp only[reads_eq m _ _ _ _ _ hq.h1.1 hq.h1.2,hrd,bns,cond_true,cond_false,Bool.not_true,decide_true,e4,wf]
 cases cm<;>rfl
end Go.Proofs.Ytngghkoghbpceaa
