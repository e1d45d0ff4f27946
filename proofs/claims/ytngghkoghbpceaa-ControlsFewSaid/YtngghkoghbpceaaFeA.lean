/-
  The statement ControlsFew: the plain law: a Setup transaction with a Zero whose data are forgotten, and a run from there.
  Conditions: none.
-/
import Derived.Test.YtngghkoghbpceaaFeX
import Derived.Test.YtngghkoghbpceaaN8A
namespace Go.Proofs.Ytngghkoghbpceaa
set_option linter.unusedVariables false
set_option linter.unusedSimpArgs false
set_option maxRecDepth 100000
set_option maxHeartbeats 4000000
theorem test1{R:Type}(e:SntT)(a b c d:Option R):(bif decide ((0:Int)<((([e]:List SntT).length:Nat):Int))then(bif inB (0:Int) ([e]:List SntT).length then(bif !decide ((List.getD [e] (Int.toNat (0:Int)) ((0:Int),(0:Int),(0:Int),(0:Int),(0:Int),(0:Int),false,false,(0:Int),[],false,(0:Int),())).2.2.2.2.2.2.2.2.2.2.2.1=(0:Int))then a else b)else c)else d)=bif !decide (e.2.2.2.2.2.2.2.2.2.2.2.1=(0:Int))then a else b:=rfl
theorem same2{R:Type}(x y z:Bool)(a c:Option R)(hx:x=true)(hy:y=true):(bif x then(bif y then(bif z then a else a)else c)else a)=a:=by subst hx;subst hy;cases z<;>rfl
theorem zhA_eq(m:Nat)(q:Req)(hq:q.Ok)(c1 c2 c3 c4 c5:Int)(b1 b2 b3 b4 b5:Bool)(at0:Int)(la:Bool)(fin:Int)(R1:Int)(R2:List Int)(cs:List ClT):
  zhrA_D m 0 0 0 0 0 false false 0 (by8 q.r1 q.r2 q.r3 q.r4 q.r5) q.mx c1 c2 c3 c4 c5 b1 b2 b3 b4 b5 at0 la fin R1 R2 cs=some (.inl ((pD 2 [],()),(q.mx,q.r1,q.r2,q.r3,q.r4,q.r5,true,false,false,false,true,0,false,fin,()),(R1,R2,()),cs,())):=by
 have h5:=hq.h5
 unfold zhrA_D
 rw[dF (mx0 hq)]
 simp only[cond_false,join_by8 m _ _ _ _ _ hq.h3 hq.h4 (show 0≤q.r5∧q.r5<65536 by omega),bns]
 rfl
theorem hA3_eq(m:Nat)(q:Req)(hq:q.Ok)(c1 c2 c3 c4 c5:Int)(b1 b2 b3 b4 b5:Bool)(at0:Int)(la:Bool)(fin:Int)(R1:Int)(R2:List Int)(cs:List ClT):
  hA3_D m 0 0 0 0 0 false false 0 (by8 q.r1 q.r2 q.r3 q.r4 q.r5) true 9 q.mx c1 c2 c3 c4 c5 b1 b2 b3 b4 b5 at0 la fin R1 R2 cs=some (.inl ((pD 2 [],()),(true,9,0,()),(q.mx,q.r1,q.r2,q.r3,q.r4,q.r5,true,false,false,false,true,0,false,fin,()),(R1,R2,()),cs,())):=by
 have hc3:=chk_data m 3 (.inl rfl) (by8 q.r1 q.r2 q.r3 q.r4 q.r5) (by rw[bl8];omega)
 unfold pD at hc3
 unfold hA3_D
 simp only[Bool.not_true,cond_false,hc3,bns,decide_true,zhA_eq m q hq c1 c2 c3 c4 c5 b1 b2 b3 b4 b5 at0 la fin R1 R2 cs,sumK_l]
theorem hA1_eq(m:Nat)(q:Req)(tok:Int)(c1 c2 c3 c4 c5:Int)(b1 b2 b3 b4 b5:Bool)(at0:Int)(la:Bool)(fin:Int)(R1:Int)(R2:List Int)(cs:List ClT):
  hA1_D m 9 0 0 0 0 false false 0 [] true 9 tok q.mx c1 c2 c3 c4 c5 b1 b2 b3 b4 b5 at0 la fin R1 R2 cs=some ((zP,()),(true,9,()),(q.mx,c1,c2,c3,c4,c5,b1,b2,b3,b4,b5,at0,la,fin,()),(R1,R2,()),cs,()):=by
 have hc1:=chk_tok m 13 (by omega)
 unfold pT at hc1
 unfold hA1_D
 simp only[Bool.not_true,cond_false,hc1,bns,decide_true,cond_true]
 rfl
theorem sA1_ok(m:Nat)(q:Req)(tok:Int)(c1 c2 c3 c4 c5:Int)(b1 b2 b3 b4 b5:Bool)(at0:Int)(la:Bool)(fin:Int)(R1:Int)(R2:List Int)(cs:List ClT)(w:List Int)(hf:hdF w=0):
  ∃e:SntT,sayA1_D m 9 0 0 0 0 false false 0 [] true 9 tok q.mx c1 c2 c3 c4 c5 b1 b2 b3 b4 b5 at0 la fin R1 R2 cs w []=some (.inl ((zP,()),(true,9,()),(q.mx,c1,c2,c3,c4,c5,b1,b2,b3,b4,b5,at0,la,fin,()),(R1,R2,()),cs,(w.drop 1,()),[e],())):=by
 obtain⟨e,he,hs⟩:=send6_eq m (pT 13 9 0) true w [] (by simp[pT]) (by simp)
 have hc1:=chk_tok m 13 (by omega)
 unfold pT at hc1 hs
 refine⟨e,?_⟩
 have hk:spkA1_D m 9 0 0 0 0 false false 0 [] true 9 tok q.mx c1 c2 c3 c4 c5 b1 b2 b3 b4 b5 at0 la fin R1 R2 cs w=some (.inl ((zP,[e],()),(true,9,()),(q.mx,c1,c2,c3,c4,c5,b1,b2,b3,b4,b5,at0,la,fin,()),(R1,R2,()),cs,(w.drop 1,()),())):=by
  unfold spkA1_D
  simp only[hc1,bns,decide_true,Bool.not_true,cond_false,hs,dT hf,clipT,takeAll,List.nil_append,cond_true,cloneB_eq m [] (by simp),hA1_eq]
  rfl
 unfold sayA1_D
 rw[hk,bns,sumK_l]
 rw[test1,gr48 _ (by simp),he,dT hf]
 rfl
theorem sA1_lost(m:Nat)(q:Req)(tok:Int)(c1 c2 c3 c4 c5:Int)(b1 b2 b3 b4 b5:Bool)(at0:Int)(la:Bool)(fin:Int)(R1:Int)(R2:List Int)(cs:List ClT)(w:List Int)(hf: ¬hdF w=0):
  ∃e:SntT,sayA1_D m 9 0 0 0 0 false false 0 [] true 9 tok q.mx c1 c2 c3 c4 c5 b1 b2 b3 b4 b5 at0 la fin R1 R2 cs w []=some (.inr ((zP,()),(true,9,tok,()),(q.mx,c1,c2,c3,c4,c5,b1,b2,b3,b4,b5,at0,la,fin,()),(R1,R2,()),cs,(w.drop 1,()),[e],())):=by
 obtain⟨e,he,hs⟩:=send6_eq m (pT 13 9 0) true w [] (by simp[pT]) (by simp)
 have hc1:=chk_tok m 13 (by omega)
 unfold pT at hc1 hs
 refine⟨e,?_⟩
 have hk:spkA1_D m 9 0 0 0 0 false false 0 [] true 9 tok q.mx c1 c2 c3 c4 c5 b1 b2 b3 b4 b5 at0 la fin R1 R2 cs w=some (.inr ((zP,[e],()),(true,9,tok,()),(q.mx,c1,c2,c3,c4,c5,b1,b2,b3,b4,b5,at0,la,fin,()),(R1,R2,()),cs,(w.drop 1,()),())):=by
  unfold spkA1_D
  simp only[hc1,bns,decide_true,Bool.not_true,cond_false,hs,dF hf,clipT,takeAll,List.nil_append,cond_true]
  rfl
 unfold sayA1_D
 rw[hk,bns,sumK_r]
 rw[test1,gr48 _ (by simp),he,dF hf]
 rfl
theorem sA0_eq(m:Nat)(q:Req)(w:List Int)(sent:List SntT)(hn:sent.length≤10):
  ∃sent2,sayA0_D m 0 0 0 0 0 false false 0 (by8 q.r1 q.r2 q.r3 q.r4 q.r5) w sent=some ((zP,()),(w.drop 1,()),sent2,()):=by
 obtain⟨e,he,hs⟩:=send6_eq m (pD 3 (by8 q.r1 q.r2 q.r3 q.r4 q.r5)) true w [] (by simp[pD,bl8]) (by simp)
 have hc3:=chk_data m 3 (.inl rfl) (by8 q.r1 q.r2 q.r3 q.r4 q.r5) (by rw[bl8];omega)
 unfold pD at hc3 hs
 refine⟨sent++ [e],?_⟩
 have hk:spkA0_D m 0 0 0 0 0 false false 0 (by8 q.r1 q.r2 q.r3 q.r4 q.r5) w=some ((zP,[e],()),(w.drop 1,()),()):=by
  unfold spkA0_D
  by_cases hf:hdF w=0
  ·simp only[hc3,bns,decide_true,Bool.not_true,cond_false,hs,dT hf,clipT,takeAll,List.nil_append,cond_true]
   rfl
  ·simp only[hc3,bns,decide_true,Bool.not_true,cond_false,hs,dF hf,clipT,takeAll,List.nil_append,cond_true]
   rfl
 unfold sayA0_D
 rw[hk,bns]
 rw[test1,gr48 _ (by simp;omega)]
 cases decide (e.2.2.2.2.2.2.2.2.2.2.2.1=(0:Int))<;>rfl
theorem sA3_lost(m:Nat)(q:Req)(c1 c2 c3 c4 c5:Int)(b1 b2 b3 b4 b5:Bool)(at0:Int)(la:Bool)(fin:Int)(R1:Int)(R2:List Int)(cs:List ClT)(w:List Int)(hf: ¬hdF w=0)(sent:List SntT)(hn:sent.length≤10):
  ∃sent2 tok',sayA3_D m 0 0 0 0 0 false false 0 (by8 q.r1 q.r2 q.r3 q.r4 q.r5) true 9 q.mx c1 c2 c3 c4 c5 b1 b2 b3 b4 b5 at0 la fin R1 R2 cs w sent=some (.inr ((zP,()),(true,9,tok',()),(q.mx,c1,c2,c3,c4,c5,b1,b2,b3,b4,b5,at0,la,fin,()),(R1,R2,()),cs,(w.drop 1,()),sent2,())):=by
 obtain⟨e,he,hs⟩:=send6_eq m (pD 3 (by8 q.r1 q.r2 q.r3 q.r4 q.r5)) true w [] (by simp[pD,bl8]) (by simp)
 have hc3:=chk_data m 3 (.inl rfl) (by8 q.r1 q.r2 q.r3 q.r4 q.r5) (by rw[bl8];omega)
 unfold pD at hc3 hs
 refine⟨sent++ [e],13,?_⟩
 have hk:spkA3_D m 0 0 0 0 0 false false 0 (by8 q.r1 q.r2 q.r3 q.r4 q.r5) true 9 q.mx c1 c2 c3 c4 c5 b1 b2 b3 b4 b5 at0 la fin R1 R2 cs w=some (.inr ((zP,[e],()),(true,9,13,()),(q.mx,c1,c2,c3,c4,c5,b1,b2,b3,b4,b5,at0,la,fin,()),(R1,R2,()),cs,(w.drop 1,()),())):=by
  unfold spkA3_D
  simp only[hc3,bns,decide_true,Bool.not_true,cond_false,hs,dF hf,clipT,takeAll,List.nil_append,cond_true]
  rfl
 unfold sayA3_D
 rw[hk,bns,sumK_r]
 rw[test1,gr48 _ (by simp;omega)]
 cases decide (e.2.2.2.2.2.2.2.2.2.2.2.1=(0:Int))<;>rfl
theorem sA3_ok(m:Nat)(q:Req)(hq:q.Ok)(c1 c2 c3 c4 c5:Int)(b1 b2 b3 b4 b5:Bool)(at0:Int)(la:Bool)(fin:Int)(R1:Int)(R2:List Int)(cs:List ClT)(w:List Int)(hf:hdF w=0)(sent:List SntT)(hn:sent.length≤10):
  ∃sent2 tok',sayA3_D m 0 0 0 0 0 false false 0 (by8 q.r1 q.r2 q.r3 q.r4 q.r5) true 9 q.mx c1 c2 c3 c4 c5 b1 b2 b3 b4 b5 at0 la fin R1 R2 cs w sent=some (.inl (((bif decide (hdF (w.drop 1)=0)then pD 2 []else zP),decide (hdF (w.drop 1)=0),()),(true,9,tok',()),(q.mx,q.r1,q.r2,q.r3,q.r4,q.r5,true,false,false,false,true,0,false,fin,()),(R1,R2,()),cs,((w.drop 1).drop 1,()),sent2,())):=by
 obtain⟨e,he,hs⟩:=send6_eq m (pD 3 (by8 q.r1 q.r2 q.r3 q.r4 q.r5)) true w [] (by simp[pD,bl8]) (by simp)
 obtain⟨e2,he2,hs2⟩:=send6_eq m (pD 2 []) false (w.drop 1) ([]++ [e]) (by simp[pD]) (by simp)
 have hc3:=chk_data m 3 (.inl rfl) (by8 q.r1 q.r2 q.r3 q.r4 q.r5) (by rw[bl8];omega)
 have hc2:=chk_hand m 2 (.inl rfl)
 unfold pD at hc3 hs hs2 hc2
 have hh:=hA3_eq m q hq c1 c2 c3 c4 c5 b1 b2 b3 b4 b5 at0 la fin R1 R2 cs
 unfold pD at hh
 have hcl:=cloneB_eq m (by8 q.r1 q.r2 q.r3 q.r4 q.r5) (by rw[bl8];omega)
 have hcn:=cloneB_eq m [] (by simp)
 refine⟨sent++ [e,e2],0,?_⟩
 have hk:spkA3_D m 0 0 0 0 0 false false 0 (by8 q.r1 q.r2 q.r3 q.r4 q.r5) true 9 q.mx c1 c2 c3 c4 c5 b1 b2 b3 b4 b5 at0 la fin R1 R2 cs w=some (.inl (((bif decide (hdF (w.drop 1)=0)then pD 2 []else zP),decide (hdF (w.drop 1)=0),[e,e2],()),(true,9,0,()),(q.mx,q.r1,q.r2,q.r3,q.r4,q.r5,true,false,false,false,true,0,false,fin,()),(R1,R2,()),cs,((w.drop 1).drop 1,()),())):=by
  unfold spkA3_D
  by_cases h2:hdF (w.drop 1)=0
  ·simp only[hc3,bns,decide_true,Bool.not_true,cond_false,hs,dT hf,clipT,takeAll,cond_true,hcl,hh,sumK_l,hc2,hs2,dT h2,hcn]
   rfl
  ·simp only[hc3,bns,decide_true,Bool.not_true,cond_false,hs,dT hf,clipT,takeAll,cond_true,hcl,hh,sumK_l,hc2,hs2,dF h2]
   rfl
 unfold sayA3_D
 rw[hk,bns,sumK_l]
 rw[gr48 _ (by simp;omega),cond_true]
 refine same2 _ _ _ _ _ ?_ ?_<;>rfl
theorem doA_eq(m:Nat)(q:Req)(hq:q.Ok)(tok:Int)(c1 c2 c3 c4 c5:Int)(b1 b2 b3 b4 b5:Bool)(at0:Int)(la:Bool)(fin:Int)(R1:Int)(R2:List Int)(cs:List ClT)(w:List Int):
  ∃tok' sent,∃w':List Int,
   (∃c,doA_D m (by8 q.r1 q.r2 q.r3 q.r4 q.r5) true 9 tok q.mx c1 c2 c3 c4 c5 b1 b2 b3 b4 b5 at0 la fin R1 R2 cs w=some (.inl (((c,[],()),sent,()),(true,9,tok',()),(q.mx,q.r1,q.r2,q.r3,q.r4,q.r5,true,false,false,false,true,0,false,fin,()),(R1,R2,()),cs,(w',()),()))∧((c=1∧bad w'≤bad w)∨(c=4∧bad w'<bad w)))∨
   (doA_D m (by8 q.r1 q.r2 q.r3 q.r4 q.r5) true 9 tok q.mx c1 c2 c3 c4 c5 b1 b2 b3 b4 b5 at0 la fin R1 R2 cs w=some (.inr (((4,[],()),sent,()),(true,9,tok',()),(q.mx,c1,c2,c3,c4,c5,b1,b2,b3,b4,b5,at0,la,fin,()),(R1,R2,()),cs,(w',()),()))∧bad w'<bad w):=by
 have hk:=tk_setup m (by8 q.r1 q.r2 q.r3 q.r4 q.r5) rfl
 have l1:=drop_le w
 have l2:=drop_le (w.drop 1)
 have l3:=drop_le ((w.drop 1).drop 1)
 by_cases hf:hdF w=0
 ·obtain⟨e1,h1⟩:=sA1_ok m q tok c1 c2 c3 c4 c5 b1 b2 b3 b4 b5 at0 la fin R1 R2 cs w hf
  by_cases hf2:hdF (w.drop 1)=0
  ·obtain⟨s2,tk,h2⟩:=sA3_ok m q hq c1 c2 c3 c4 c5 b1 b2 b3 b4 b5 at0 la fin R1 R2 cs (w.drop 1) hf2 [e1] (by simp)
   by_cases hf3:hdF ((w.drop 1).drop 1)=0
   ·rw[dT hf3]at h2
    refine⟨tk,s2,((w.drop 1).drop 1).drop 1,.inl ⟨1,?_,.inl ⟨rfl,by omega⟩⟩⟩
    unfold doA_D
    rw[hk,bns]
    simp only[decide_true,Bool.not_true,cond_false]
    unfold outA_D
    simp only[h1,bns,sumK_l,h2,Bool.not_true,cond_false,cond_true,pD,hands_ack,decide_true,clipT,takeAll]
   ·rw[dF hf3]at h2
    have:=drop_lt hf3
    refine⟨tk,s2,((w.drop 1).drop 1).drop 1,.inl ⟨4,?_,.inr ⟨rfl,by omega⟩⟩⟩
    unfold doA_D
    rw[hk,bns]
    simp only[decide_true,Bool.not_true,cond_false]
    unfold outA_D
    simp only[h1,bns,sumK_l,h2,Bool.not_false,cond_true,clipT,takeAll]
  ·obtain⟨s2,tk,h2⟩:=sA3_lost m q c1 c2 c3 c4 c5 b1 b2 b3 b4 b5 at0 la fin R1 R2 cs (w.drop 1) hf2 [e1] (by simp)
   have:=drop_lt hf2
   refine⟨tk,s2,(w.drop 1).drop 1,.inr ⟨?_,by omega⟩⟩
   unfold doA_D
   rw[hk,bns]
   simp only[decide_true,Bool.not_true,cond_false]
   unfold outA_D
   simp only[h1,bns,sumK_l,h2,sumK_r,clipT,takeAll,cond_true]
 ·obtain⟨e1,h1⟩:=sA1_lost m q tok c1 c2 c3 c4 c5 b1 b2 b3 b4 b5 at0 la fin R1 R2 cs w hf
  obtain⟨s2,h2⟩:=sA0_eq m q (w.drop 1) [e1] (by simp)
  have:=drop_lt hf
  refine⟨tok,s2,(w.drop 1).drop 1,.inr ⟨?_,by omega⟩⟩
  unfold doA_D
  rw[hk,bns]
  simp only[decide_true,Bool.not_true,cond_false]
  unfold outA_D
  simp only[h1,bns,sumK_r,h2,clipT,takeAll,cond_true]
theorem next81_eq(m:Nat)(q:Req)(hq:q.Ok)(er:Int):next81_D m q.r1 q.r2 q.r3 q.r4 q.r5 q.O q.mx er=some ((((by8 q.r1 q.r2 q.r3 q.r4 q.r5),()),()),()):=by
 have h5:=hq.h5
 unfold next81_D
 rw[split8_eq m _ _ _ _ _ hq.h3 hq.h4 (by omega)]
 rfl
theorem ans81A_1(m:Nat)(q:Req)(er:Int):ans81A_D m q.r1 q.r2 q.r3 q.r4 q.r5 q.O q.mx er (1,[],())=some (.inr (tOf q (if 0<q.r5 then 2 else 3) true 0 [] 0 0,())):=by
 unfold ans81A_D tOf
 by_cases h:0<q.r5<;>simp[h]
theorem ans81A_4(m:Nat)(q:Req)(er:Int)(h0:0≤er)(h1:er+1<3):ans81A_D m q.r1 q.r2 q.r3 q.r4 q.r5 q.O q.mx er (4,[],())=some (.inl ((q.r1,q.r2,q.r3,q.r4,q.r5,q.O,q.mx,er+1,()),())):=by
 have hw:Go.IntKind.wrap .i64 (er+1)=er+1:=wi64 (by omega) (by omega)
 have w3:Go.IntKind.wrap .i64 3=3:=by decide
 have hn: ¬er+1=3:=by omega
 unfold ans81A_D
 simp[hw,w3,hn]
structure RunR (q:Req) (R1:Int) (R2:List Int) (cs:List ClT) (fin:Int) (z:ZwT) (r:Int×List Int×Unit) (cs':List ClT) (e:Int) (b:List Int):Prop where
 mx:z.1=q.mx
 rr:r=(R1,R2,())
 cs:cs'=cs++ [callOf q q.O]
 fin:fin≤z.2.2.2.2.2.2.2.2.2.2.2.2.2.1∧z.2.2.2.2.2.2.2.2.2.2.2.2.2.1≤fin+1
 gl:(b.length:Int)≤q.r5
 ee:(e=0∧rfB R1 q.r2=false)∨(e=12∧rfB R1 q.r2=true)
def nod(z:ZzT):ZwT:=(z.1,z.2.1,z.2.2.1,z.2.2.2.1,z.2.2.2.2.1,z.2.2.2.2.2.1,z.2.2.2.2.2.2.1,z.2.2.2.2.2.2.2.1,z.2.2.2.2.2.2.2.2.1,z.2.2.2.2.2.2.2.2.2.1,z.2.2.2.2.2.2.2.2.2.2.1,z.2.2.2.2.2.2.2.2.2.2.2.2.1,z.2.2.2.2.2.2.2.2.2.2.2.2.2.1,z.2.2.2.2.2.2.2.2.2.2.2.2.2.2.1,())
theorem loopAZ(m:Nat)(hm:400≤m)(q:Req)(hq:q.Ok)(hO:q.O= [])(hw:wrB q.r1 q.r5=false)(R1:Int)(R2:List Int)(hR:R2.length≤300)(cs:List ClT)(fin:Int)(hb:Bs cs fin): ∀(k n i:Nat) (t:ByteArray) (tok c1 c2 c3 c4 c5:Int) (b1 b2 b3 b4 b5:Bool) (at0:Int) (la:Bool) (er:Int) (w:List Int),
  0≤er→er+bad w≤2→bad w≤k→k<n→i+k≤2→t.size≤7*i→
  ∃t' tok' tg' er' got' e',∃z':ZwT,∃r':Int×List Int×Unit,∃cs':List ClT,∃w':List Int,runAZ_L0 m n t i true 9 tok q.mx c1 c2 c3 c4 c5 b1 b2 b3 b4 b5 at0 la fin R1 R2 cs w q.r1 q.r2 q.r3 q.r4 q.r5 q.O q.mx er=some (.inr ((t',()),(true,9,tok',()),z',r',cs',(w',()),tOf q 4 tg' 0 got' er' e',()))∧RunR q R1 R2 cs fin z' r' cs' e' got'∧bad w'≤bad w:=by
 intro k
 induction k using Nat.strongRecOn with
 |_ k ih=>
  intro n i t tok c1 c2 c3 c4 c5 b1 b2 b3 b4 b5 at0 la er w h0 h1 hk hn hik ht
  obtain⟨n,rfl⟩: ∃n',n=n'+1:=⟨n - 1,by omega⟩
  have hn1:=next81_eq m q hq er
  have wi:Go.IntKind.wrap .i64 ((i:Int)+1)=((i+1:Nat):Int):=by rw[wi64 (by omega) (by omega)];omega
  obtain⟨tok',sent,w',hd⟩:=doA_eq m q hq tok c1 c2 c3 c4 c5 b1 b2 b3 b4 b5 at0 la fin R1 R2 cs w
  rcases hd with⟨c,hdo,hc⟩|⟨hdo,hlt⟩
  ·have hcr:1≤c∧c≤6:=by rcases hc with⟨rfl,_⟩|⟨rfl,_⟩<;>omega
   obtain⟨k1,k2⟩:=cR c hcr
   have so:=sizeOb t i (by omega) ht (Int.toNat c) (Int.toNat (Go.IntKind.wrap .u8 (c+1)))
   have ht2:=tSize t i ht (Int.toNat c) (Int.toNat (Go.IntKind.wrap .u8 (c+1)))
   generalize ht3:t++ByteArray.extract (⟨⟨[45,100,110,115,120,98,97]⟩⟩:ByteArray) (Int.toNat c) (Int.toNat (Go.IntKind.wrap .u8 (c+1)))=t2 at ht2
   rcases hc with⟨rfl,hle⟩|⟨rfl,hlt⟩
   ·have ha:=ans81A_1 m q er
    by_cases h5:0<q.r5
    ·rw[if_pos h5]at ha
     have hrd:rdB q.r1 q.r5=true:=by unfold wrB at hw;unfold rdB;simp[h5]at hw ⊢;omega
     obtain⟨t',tk,tg',er',got',e',x',w2,h,hf,hbw⟩:=loopZ m q hq hb hw R1 R2 hR 390 m (i+1) t2 (xs R1 R2 (zX q true false false false true [] 0 false fin) cs) 2 true [] 0 0 tok' w' (.rA hrd) (by omega) (by omega) (by unfold ms;have:=hq.h5;simp only[List.length_nil];split<;>(try split)<;>omega) (by omega) (by omega) ht2
     refine⟨t',tk,tg',er',got',e',nod x'.1,x'.2.1,x'.2.2.1,w2,?_,⟨hf.mx,hf.rr,by rw[hf.cs,hO],hf.fin,hf.gl,hf.ee⟩,by omega⟩
     have h':runZ_L0 m m 400 t2 ((i+1:Nat):Int) true 9 tok' q.mx q.r1 q.r2 q.r3 q.r4 q.r5 true false false false true [] 0 false fin R1 R2 cs w' (tOf q 2 true 0 [] 0 0)=_:=h
     unfold runAZ_L0
     rw[dT (show(i:Int)<400 by omega),cond_true,hn1,bns]
     simp only[hdo,bns,sumK_l,k1,k2,cond_false,cond_true,so,Bool.not_false,ha,sumK_r,wi,ht3]
     unfold tOf at h' ⊢
     rw[h']
     rfl
    ·rw[if_neg h5]at ha
     have hrd:rdB q.r1 q.r5=false:=by unfold rdB;simp[h5]
     obtain⟨t',tk,tg',er',got',e',x',w2,h,hf,hbw⟩:=loopZ m q hq hb hw R1 R2 hR 390 m (i+1) t2 (xs R1 R2 (zX q true false false false true [] 0 false fin) cs) 3 true [] 0 0 tok' w' (.nA hrd) (by omega) (by omega) (by unfold ms;have:=hq.h5;simp only[List.length_nil];split<;>(try split)<;>omega) (by omega) (by omega) ht2
     refine⟨t',tk,tg',er',got',e',nod x'.1,x'.2.1,x'.2.2.1,w2,?_,⟨hf.mx,hf.rr,by rw[hf.cs,hO],hf.fin,hf.gl,hf.ee⟩,by omega⟩
     have h':runZ_L0 m m 400 t2 ((i+1:Nat):Int) true 9 tok' q.mx q.r1 q.r2 q.r3 q.r4 q.r5 true false false false true [] 0 false fin R1 R2 cs w' (tOf q 3 true 0 [] 0 0)=_:=h
     unfold runAZ_L0
     rw[dT (show(i:Int)<400 by omega),cond_true,hn1,bns]
     simp only[hdo,bns,sumK_l,k1,k2,cond_false,cond_true,so,Bool.not_false,ha,sumK_r,wi,ht3]
     unfold tOf at h' ⊢
     rw[h']
     rfl
   ·have ha:=ans81A_4 m q er h0 (by omega)
    obtain⟨t',tk,tg',er',got',e',x',w2,h,hf,hbw⟩:=loopZ m q hq hb hw R1 R2 hR 390 m (i+1) t2 (xs R1 R2 (zX q true false false false true [] 0 false fin) cs) 1 true [] 0 (er+1) tok' w' .a1 (by omega) (by omega) (by unfold ms;have:=hq.h5;simp only[List.length_nil];split<;>(try split)<;>omega) (by omega) (by omega) ht2
    refine⟨t',tk,tg',er',got',e',nod x'.1,x'.2.1,x'.2.2.1,w2,?_,⟨hf.mx,hf.rr,by rw[hf.cs,hO],hf.fin,hf.gl,hf.ee⟩,by omega⟩
    have h':runZ_L0 m m 400 t2 ((i+1:Nat):Int) true 9 tok' q.mx q.r1 q.r2 q.r3 q.r4 q.r5 true false false false true [] 0 false fin R1 R2 cs w' (tOf q 1 true 0 [] (er+1) 0)=_:=h
    unfold runAZ_L0
    rw[dT (show(i:Int)<400 by omega),cond_true,hn1,bns]
    simp only[hdo,bns,sumK_l,k1,k2,cond_false,cond_true,so,Bool.not_false,ha,sumK_l,wi,ht3]
    unfold tOf at h' ⊢
    rw[h']
    rfl
  ·obtain⟨k1,k2⟩:=cR 4 (by omega)
   have so:=sizeOb t i (by omega) ht (Int.toNat 4) (Int.toNat (Go.IntKind.wrap .u8 (4+1)))
   have ht2:=tSize t i ht (Int.toNat 4) (Int.toNat (Go.IntKind.wrap .u8 (4+1)))
   have ha:=ans81A_4 m q er h0 (by omega)
   obtain⟨a1,a2,a3,a4,a5,a6,a7,a8,a9,a10,h,hR',hbw⟩:=ih (k - 1) (by omega) n (i+1) _ tok' c1 c2 c3 c4 c5 b1 b2 b3 b4 b5 at0 la (er+1) w' (by omega) (by omega) (by omega) (by omega) (by omega) ht2
   refine⟨a1,a2,a3,a4,a5,a6,a7,a8,a9,a10,?_,hR',by omega⟩
   unfold runAZ_L0
   rw[dT (show(i:Int)<400 by omega),cond_true,hn1,bns]
   simp only[hdo,bns,sumK_r,k1,k2,cond_false,cond_true,so,Bool.not_false,ha,sumK_l,wi]
   exact h
theorem loopAW(m:Nat)(hm:400≤m)(q:Req)(hq:q.Ok)(hw:wrB q.r1 q.r5=true)(R1:Int)(R2:List Int)(hR:R2.length≤300)(cs:List ClT)(fin:Int)(hb:Bs cs fin): ∀(k n i:Nat) (t:ByteArray) (tok c1 c2 c3 c4 c5:Int) (b1 b2 b3 b4 b5:Bool) (at0:Int) (la:Bool) (er:Int) (w:List Int),
  0≤er→er+bad w≤2→bad w≤k→k<n→i+k≤2→t.size≤7*i→
  ∃t' tok' tg' at2 er' e',∃z':ZwT,∃r':Int×List Int×Unit,∃cs':List ClT,∃w':List Int,runAW_L0 m n t i true 9 tok q.mx c1 c2 c3 c4 c5 b1 b2 b3 b4 b5 at0 la fin R1 R2 cs w q.r1 q.r2 q.r3 q.r4 q.r5 q.O q.mx er=some (.inr ((t',()),(true,9,tok',()),z',r',cs',(w',()),tOf q 4 tg' at2 [] er' e',()))∧RunR q R1 R2 cs fin z' r' cs' e' []∧bad w'≤bad w:=by
 intro k
 induction k using Nat.strongRecOn with
 |_ k ih=>
  intro n i t tok c1 c2 c3 c4 c5 b1 b2 b3 b4 b5 at0 la er w h0 h1 hk hn hik ht
  obtain⟨n,rfl⟩: ∃n',n=n'+1:=⟨n - 1,by omega⟩
  have hn1:=next81_eq m q hq er
  have wi:Go.IntKind.wrap .i64 ((i:Int)+1)=((i+1:Nat):Int):=by rw[wi64 (by omega) (by omega)];omega
  obtain⟨tok',sent,w',hd⟩:=doA_eq m q hq tok c1 c2 c3 c4 c5 b1 b2 b3 b4 b5 at0 la fin R1 R2 cs w
  rcases hd with⟨c,hdo,hc⟩|⟨hdo,hlt⟩
  ·have hcr:1≤c∧c≤6:=by rcases hc with⟨rfl,_⟩|⟨rfl,_⟩<;>omega
   obtain⟨k1,k2⟩:=cR c hcr
   have so:=sizeOb t i (by omega) ht (Int.toNat c) (Int.toNat (Go.IntKind.wrap .u8 (c+1)))
   have ht2:=tSize t i ht (Int.toNat c) (Int.toNat (Go.IntKind.wrap .u8 (c+1)))
   generalize ht3:t++ByteArray.extract (⟨⟨[45,100,110,115,120,98,97]⟩⟩:ByteArray) (Int.toNat c) (Int.toNat (Go.IntKind.wrap .u8 (c+1)))=t2 at ht2
   rcases hc with⟨rfl,hle⟩|⟨rfl,hlt⟩
   ·have ha:=ans81A_1 m q er
    have h5:=(wr_r5 hq hw).2.1
    have h5O:=(wr_r5 hq hw).1
    rw[if_pos h5]at ha
    obtain⟨t',tk,tg',at2,er',e',x',w2,h,hf,hbw⟩:=loopV m q hq hb hw R1 R2 390 m (i+1) t2 (xw R1 R2 (zW q true false false false true fin) cs []) 2 true 0 0 tok' w' (IvW.wB true true 0 0 (by omega) (by omega) (.inl ⟨rfl,rfl⟩)) (by omega) (by omega) (by unfold mw;have:=O_len q hq;split<;>(try split)<;>omega) (by omega) (by omega) ht2
    refine⟨t',tk,tg',at2,er',e',x'.1,x'.2.1,x'.2.2.1,w2,?_,⟨hf.mx,hf.rr,hf.cs,hf.fin,by have:=hq.h5;simp;omega,hf.ee⟩,by omega⟩
    have h':runV_L0 m m 400 t2 ((i+1:Nat):Int) true 9 tok' q.mx q.r1 q.r2 q.r3 q.r4 q.r5 true false false false true 0 false fin R1 R2 cs w' (tOf q 2 true 0 [] 0 0) []=_:=h
    unfold runAW_L0
    rw[dT (show(i:Int)<400 by omega),cond_true,hn1,bns]
    simp only[hdo,bns,sumK_l,k1,k2,cond_false,cond_true,so,Bool.not_false,ha,sumK_r,wi,ht3]
    unfold tOf at h' ⊢
    rw[h']
    rfl
   ·have ha:=ans81A_4 m q er h0 (by omega)
    obtain⟨t',tk,tg',at2,er',e',x',w2,h,hf,hbw⟩:=loopV m q hq hb hw R1 R2 390 m (i+1) t2 (xw R1 R2 (zW q true false false false true fin) cs []) 1 true 0 (er+1) tok' w' .a1 (by omega) (by omega) (by unfold mw;have:=O_len q hq;split<;>(try split)<;>omega) (by omega) (by omega) ht2
    refine⟨t',tk,tg',at2,er',e',x'.1,x'.2.1,x'.2.2.1,w2,?_,⟨hf.mx,hf.rr,hf.cs,hf.fin,by have:=hq.h5;simp;omega,hf.ee⟩,by omega⟩
    have h':runV_L0 m m 400 t2 ((i+1:Nat):Int) true 9 tok' q.mx q.r1 q.r2 q.r3 q.r4 q.r5 true false false false true 0 false fin R1 R2 cs w' (tOf q 1 true 0 [] (er+1) 0) []=_:=h
    unfold runAW_L0
    rw[dT (show(i:Int)<400 by omega),cond_true,hn1,bns]
    simp only[hdo,bns,sumK_l,k1,k2,cond_false,cond_true,so,Bool.not_false,ha,sumK_l,wi,ht3]
    unfold tOf at h' ⊢
    rw[h']
    rfl
  ·obtain⟨k1,k2⟩:=cR 4 (by omega)
   have so:=sizeOb t i (by omega) ht (Int.toNat 4) (Int.toNat (Go.IntKind.wrap .u8 (4+1)))
   have ht2:=tSize t i ht (Int.toNat 4) (Int.toNat (Go.IntKind.wrap .u8 (4+1)))
   have ha:=ans81A_4 m q er h0 (by omega)
   obtain⟨a1,a2,a3,a4,a5,a6,a7,a8,a9,a10,h,hR',hbw⟩:=ih (k - 1) (by omega) n (i+1) _ tok' c1 c2 c3 c4 c5 b1 b2 b3 b4 b5 at0 la (er+1) w' (by omega) (by omega) (by omega) (by omega) (by omega) ht2
   refine⟨a1,a2,a3,a4,a5,a6,a7,a8,a9,a10,?_,hR',by omega⟩
   unfold runAW_L0
   rw[dT (show(i:Int)<400 by omega),cond_true,hn1,bns]
   simp only[hdo,bns,sumK_r,k1,k2,cond_false,cond_true,so,Bool.not_false,ha,sumK_l,wi]
   exact h
end Go.Proofs.Ytngghkoghbpceaa
