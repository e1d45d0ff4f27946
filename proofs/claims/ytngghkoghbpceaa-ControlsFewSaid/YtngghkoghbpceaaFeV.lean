/-
  The statement ControlsOnce: the plain law, part 4: what a Zero does with what it hears, for a request that writes.
  Conditions: none.
-/
import Derived.Test.YtngghkoghbpceaaFeZ
import Derived.Test.YtngghkoghbpceaaDoG
namespace Go.Proofs.Ytngghkoghbpceaa
set_option linter.unusedVariables false
set_option linter.unusedSimpArgs false
set_option maxRecDepth 100000
set_option maxHeartbeats 4000000
theorem cloneQ_eq(m:Nat)(xs:List Int)(h:xs.length≤1000000):cloneQ_D m xs=some ((),xs,()):=by
 unfold cloneQ_D
 rw[mkA 1 _ true (by omega) (by omega) (by omega),gr1 _ (by simp;omega)]
 rfl
def zW(q:Req)(has hd rf cm tg:Bool)(fin:Int):ZwT:=(q.mx,q.r1,q.r2,q.r3,q.r4,q.r5,has,hd,rf,cm,tg,0,false,fin,())
theorem zhanW_rf(m:Nat)(q:Req)(hq:q.Ok)(cm tg:Bool)(fin:Int)(R1:Int)(R2:List Int)(cs:List ClT)(hc:cs.length≤1000)(D:List Int)(hD:D.length≤1000)(hr:rfB R1 q.r2=true):
  zhanW_D m q.mx q.r1 q.r2 q.r3 q.r4 q.r5 true false false cm tg 0 false fin R1 R2 cs D=some (false,zW q true true true cm tg fin,(R1,R2,()),cs++ [callOf q D],D,()):=by
 unfold zhanW_D zW
 simp only[cond_false,cloneQ_eq m D (by omega),bns,req8_eq m q hq D hD R1 R2 cs hc,hr,Bool.not_true,Bool.not_false,cond_true]
theorem zhanW_nr(m:Nat)(q:Req)(hq:q.Ok)(hrd:rdB q.r1 q.r5=false)(cm tg:Bool)(fin:Int)(R1:Int)(R2:List Int)(cs:List ClT)(hc:cs.length≤1000)(D:List Int)(hD:D.length≤1000)(hr:rfB R1 q.r2=false):
  zhanW_D m q.mx q.r1 q.r2 q.r3 q.r4 q.r5 true false false cm tg 0 false fin R1 R2 cs D=some (true,zW q true true false cm tg fin,(R1,R2,()),cs++ [callOf q D],D,()):=by
 unfold zhanW_D zW
 simp only[cond_false,cloneQ_eq m D (by omega),bns,req8_eq m q hq D hD R1 R2 cs hc,hr,Bool.not_false,Bool.not_true,cond_true,reads_eq m _ _ _ _ _ hq.h1.1 hq.h1.2,hrd]
theorem zhanW_h(m:Nat)(q:Req)(cm tg:Bool)(fin:Int)(R1:Int)(R2:List Int)(cs:List ClT)(D:List Int):
  zhanW_D m q.mx q.r1 q.r2 q.r3 q.r4 q.r5 true true false cm tg 0 false fin R1 R2 cs D=some (true,zW q true true false cm tg fin,(R1,R2,()),cs,D,()):=rfl
theorem wh_setup(m:Nat)(q:Req)(hq:q.Ok)(c1 c2 c3 c4 c5:Int)(b1 b2 b3 b4 b5:Bool)(fin:Int)(R1:Int)(R2:List Int)(cs:List ClT)(D:List Int):
  zhrW_D m 13 (pD 3 (by8 q.r1 q.r2 q.r3 q.r4 q.r5)) q.mx c1 c2 c3 c4 c5 b1 b2 b3 b4 b5 0 false fin R1 R2 cs D=some ((pD 2 [],true,()),zW q true false false false true fin,(R1,R2,()),cs,[],()):=by
 have h5:=hq.h5
 unfold zhrW_D
 rw[dF (mx0 hq)]
 unfold zhrW_J0 zhrW_J7 zhrW_J1 pD
 simp only[decide_true,cond_true,cond_false]
 unfold zsetW_D
 simp only[join_by8 m _ _ _ _ _ hq.h3 hq.h4 (show 0≤q.r5∧q.r5<65536 by omega),bns]
 rfl
theorem wh_in(m:Nat)(q:Req)(hq:q.Ok)(hrd:rdB q.r1 q.r5=false)(hd cm tg:Bool)(fin:Int)(R1:Int)(R2:List Int)(cs:List ClT)(D:List Int):
  zhrW_D m 9 (pT 9 9 0) q.mx q.r1 q.r2 q.r3 q.r4 q.r5 true hd false cm tg 0 false fin R1 R2 cs D=zstW_D m q.mx q.r1 q.r2 q.r3 q.r4 q.r5 true hd false cm tg 0 false fin R1 R2 cs D:=by
 unfold zhrW_D
 rw[dF (mx0 hq)]
 unfold zhrW_J0 zhrW_J7 zhrW_J1 zhrW_J2 zhrW_J3 pT
 have e1:decide ((9:Int)=13)=false:=by decide
 have e2:decide ((9:Int)=3)=false:=by decide
 have e3:decide ((9:Int)=11)=false:=by decide
 simp only[decide_true,cond_true,cond_false,e1,e2,e3,Bool.not_true,reads_eq m _ _ _ _ _ hq.h1.1 hq.h1.2,hrd,bns]
 cases zstW_D m q.mx q.r1 q.r2 q.r3 q.r4 q.r5 true hd false cm tg 0 false fin R1 R2 cs D<;>rfl
theorem wh_rf(m:Nat)(q:Req)(hq:q.Ok)(hd cm tg:Bool)(fin:Int)(R1:Int)(R2:List Int)(cs:List ClT)(D:List Int):
  zhrW_D m 9 (pT 9 9 0) q.mx q.r1 q.r2 q.r3 q.r4 q.r5 true hd true cm tg 0 false fin R1 R2 cs D=some ((pD 14 [],true,()),zW q true hd true cm tg fin,(R1,R2,()),cs,D,()):=by
 unfold zhrW_D
 rw[dF (mx0 hq)]
 rfl
theorem wst_rf(m:Nat)(q:Req)(hq:q.Ok)(cm tg:Bool)(fin:Int)(R1:Int)(R2:List Int)(cs:List ClT)(hc:cs.length≤1000)(D:List Int)(hD:(D.length:Int)=q.r5)(hr:rfB R1 q.r2=true):
  zstW_D m q.mx q.r1 q.r2 q.r3 q.r4 q.r5 true false false cm tg 0 false fin R1 R2 cs D=some ((pD 14 [],true,()),zW q true true true cm tg fin,(R1,R2,()),cs++ [callOf q D],D,()):=by
 have h5:=hq.h5
 have w5:Go.IntKind.wrap .i64 q.r5=q.r5:=wi64 (by omega) (by omega)
 unfold zstW_D zstW_J0 zstW_J1
 simp only[writes_eq m _ _ _ _ _ hq.h1.1 hq.h1.2,bns,w5,dF (show ¬(D.length:Int)<q.r5 by omega)]
 rw[zhanW_rf m q hq cm tg fin R1 R2 cs hc D (by omega) hr]
 cases wrB q.r1 q.r5<;>rfl
theorem wst_go(m:Nat)(q:Req)(hq:q.Ok)(hd cm tg:Bool)(fin:Int)(R1:Int)(R2:List Int)(cs cs2:List ClT)(D:List Int)(hD:(D.length:Int)=q.r5)
  (h:zhanW_D m q.mx q.r1 q.r2 q.r3 q.r4 q.r5 true hd false cm tg 0 false fin R1 R2 cs D=some (true,zW q true true false cm tg fin,(R1,R2,()),cs2,D,())):
  zstW_D m q.mx q.r1 q.r2 q.r3 q.r4 q.r5 true hd false cm tg 0 false fin R1 R2 cs D=some ((pD 11 [],true,()),zW q true true false cm tg fin,(R1,R2,()),cs2,D,()):=by
 have h5:=hq.h5
 have w5:Go.IntKind.wrap .i64 q.r5=q.r5:=wi64 (by omega) (by omega)
 unfold zstW_D zstW_J0 zstW_J1
 simp only[writes_eq m _ _ _ _ _ hq.h1.1 hq.h1.2,bns,w5,dF (show ¬(D.length:Int)<q.r5 by omega)]
 rw[h]
 cases wrB q.r1 q.r5<;>rfl
theorem wh_ack(m:Nat)(q:Req)(hq:q.Ok)(hrd:rdB q.r1 q.r5=false)(cm tg:Bool)(fin:Int)(hf:0≤fin∧fin≤100)(R1:Int)(R2:List Int)(cs:List ClT)(D:List Int):
  zhrW_D m 9 (pD 2 []) q.mx q.r1 q.r2 q.r3 q.r4 q.r5 true true false cm tg 0 false fin R1 R2 cs D=some ((zP,false,()),zW q true true false true tg (bif cm then fin else fin+1),(R1,R2,()),cs,D,()):=by
 have wf:Go.IntKind.wrap .i64 (fin+1)=fin+1:=wi64 (by omega) (by omega)
 unfold zhrW_D
 rw[dF (mx0 hq)]
 unfold zhrW_J0 zhrW_J7 zhrW_J1 zhrW_J2 zhrW_J4 pD
 have e1:decide ((9:Int)=13)=false:=by decide
 have e2:decide ((2:Int)=3)=false:=by decide
 have e3:decide ((2:Int)=11)=false:=by decide
 have e4:decide ((2:Int)=9)=false:=by decide
 simp only[decide_true,cond_true,cond_false,e1,e2,e3,e4]
 unfold zackW_D zackW_J0 zW
 simp only[Bool.not_true,Bool.not_false,cond_true,cond_false,reads_eq m _ _ _ _ _ hq.h1.1 hq.h1.2,hrd,bns,wf]
 cases cm<;>rfl
theorem ttA{α:Type}(t:Bool)(a b:α):(bif !t then a else bif t then a else b)=a:=by cases t<;>rfl
theorem wh_out(m:Nat)(q:Req)(hq:q.Ok)(hrd:rdB q.r1 q.r5=false)(hwr:wrB q.r1 q.r5=true)(tog tg:Bool)(fin:Int)(R1:Int)(R2:List Int)(cs:List ClT)(D b:List Int)(hb:(b.length:Int)≤q.mx)(hd:tog=tg→(D.length:Int)+b.length≤q.r5):
  zhrW_D m 1 (pD (bif tog then 11 else 3) b) q.mx q.r1 q.r2 q.r3 q.r4 q.r5 true false false false tg 0 false fin R1 R2 cs D=some ((pD 2 [],true,()),zW q true false false false (bif decide (tog=tg)then !tg else tg) fin,(R1,R2,()),cs,(bif decide (tog=tg)then D++b else D),()):=by
 have h5:=hq.h5
 have hm:=mx_lt hq.hm
 have w5:Go.IntKind.wrap .i64 q.r5=q.r5:=wi64 (by omega) (by omega)
 unfold zhrW_D
 rw[dF (mx0 hq)]
 have e0:decide ((bif tog then(11:Int)else 3)=3)= !tog:=by cases tog<;>rfl
 unfold zhrW_J0 zhrW_J7 zhrW_J1 zhrW_J2 zhrW_J4 zhrW_J5 zhrW_J6 pD
 have e1:decide ((1:Int)=13)=false:=by decide
 have e2:decide ((1:Int)=9)=false:=by decide
 have e3:decide ((bif tog then(11:Int)else 3)=11)=tog:=by cases tog<;>rfl
 simp only[decide_true,cond_true,cond_false,e1,e2,e0,e3,Bool.not_true,ttA]
 unfold zoutW_D zoutW_J1 zW
 simp only[reads_eq m _ _ _ _ _ hq.h1.1 hq.h1.2,writes_eq m _ _ _ _ _ hq.h1.1 hq.h1.2,hrd,hwr,bns,cond_true,cond_false,Bool.not_true,e3,w5,dF (show ¬q.mx<(b.length:Int)by omega)]
 by_cases h:tog=tg
 ·have hd':=hd h
  have wl:Go.IntKind.wrap .i64 ((D.length:Int)+(b.length:Int))=D.length+b.length:=wi64 (by omega) (by omega)
  rw[dT h,wl,dF (show ¬q.r5<(D.length:Int)+(b.length:Int)by omega),gr1 _ (by omega),dT (show 17<nat_lit 119 by decide)]
  rfl
 ·rw[dF h];rfl
end Go.Proofs.Ytngghkoghbpceaa
