/-
  A host's isochronous transactions with the endpoints of a set, the plain law.
  Conditions: none.
-/
import Derived.Test.YtngghkoghbpceaaDoorDoSW
import Derived.Test.YtngghkoghbpceaaDoorE7u
import Derived.Test.YtngghkoghbpceaaDoorE7v
namespace Go.Proofs.YtngghkoghbpceaaDoor
set_option linter.unusedVariables false
set_option linter.unusedSimpArgs false
set_option maxRecDepth 100000
set_option maxHeartbeats 4000000
def fE(e:SntT):Int:=e.2.2.2.2.2.2.2.2.2.2.2.1
theorem hTokI_eq(m:Nat)(ad:Int)(hc:pkChk_D m (pT 1 ad 1)=some (0,()))(rm:Int)(t:Bool)(q tq:List (List Int))(room:Int)(t1:Bool)(tk:List (List Int)):
  hTokI_D m ad 1 0 0 0 false false 0 [] true ad 1 true 1 false rm 1 true 1 8 t false q tq room 1 false 1 8 t1 false tk=some (.inl ((zP,()),(true,ad,1,()),ky,(rm,1,true,1,8,t,false,()),q,tq,(room,1,false,1,8,t1,false,()),tk,())):=by
 unfold pT at hc
 unfold hTokI_D
 have e1:decide (decide ((1:Int)=9)=true)=false:=by decide
 have e2:decide (decide ((1:Int)=9)=false)=true:=by decide
 have e3:decide ((0:Int)<1)=true:=by decide
 simp only[hc,bnd_some,Bool.not_true,cond_false,decide_true,cond_true,e1,e2,e3,Bool.false_and,Bool.and_false,Bool.and_true]
 rfl
theorem spkTI_lost(m:Nat)(ad:Int)(hc:pkChk_D m (pT 1 ad 1)=some (0,()))(rm:Int)(t:Bool)(q tq:List (List Int))(room:Int)(t1:Bool)(tk:List (List Int))(w:List Int)(hf: ¬hdF w=0):
  ∃e:SntT,fE e=hdF w∧spkTI_D m ad 1 0 0 0 false false 0 [] true ad 1 true 1 false rm 1 true 1 8 t false q tq room 1 false 1 8 t1 false tk w=some (.inr ((zP,false,[e],()),(true,ad,()),ky,(rm,1,true,1,8,t,false,()),q,tq,(room,1,false,1,8,t1,false,()),tk,(w.drop 1,()),())):=by
 obtain⟨e,he,hs⟩:=send6_eq m (pT 1 ad 1) true w [] (by simp[pT]) (by simp)
 refine⟨e,he,?_⟩
 unfold pT at hs hc
 unfold spkTI_D
 simp only[hc,bnd_some,decide_true,Bool.not_true,cond_false,hs,dF hf,clipT,takeAll,List.nil_append,cond_true]
 all_goals rfl
theorem spkTI_arr(m:Nat)(ad:Int)(hc:pkChk_D m (pT 1 ad 1)=some (0,()))(rm:Int)(t:Bool)(q tq:List (List Int))(room:Int)(t1:Bool)(tk:List (List Int))(w:List Int)(hf:hdF w=0):
  ∃e:SntT,fE e=hdF w∧spkTI_D m ad 1 0 0 0 false false 0 [] true ad 1 true 1 false rm 1 true 1 8 t false q tq room 1 false 1 8 t1 false tk w=some (.inl ((zP,[e],()),(true,ad,1,()),ky,(rm,1,true,1,8,t,false,()),q,tq,(room,1,false,1,8,t1,false,()),tk,(w.drop 1,()),())):=by
 obtain⟨e,he,hs⟩:=send6_eq m (pT 1 ad 1) true w [] (by simp[pT]) (by simp)
 refine⟨e,he,?_⟩
 have hH:=hTokI_eq m ad hc rm t q tq room t1 tk
 unfold pT at hs hc
 unfold spkTI_D
 simp only[hc,bnd_some,decide_true,Bool.not_true,cond_false,hs,dT hf,clipT,takeAll,List.nil_append,cond_true,cloneB_eq m [] (by simp),hH,sumK_l]
 all_goals rfl
theorem sayTI_lost(m:Nat)(ad:Int)(hc:pkChk_D m (pT 1 ad 1)=some (0,()))(rm:Int)(t:Bool)(q tq:List (List Int))(room:Int)(t1:Bool)(tk:List (List Int))(w:List Int)(hf: ¬hdF w=0):
  ∃e:SntT,fE e=hdF w∧sayTI_D m ad 1 0 0 0 false false 0 [] true ad 1 true 1 false rm 1 true 1 8 t false q tq room 1 false 1 8 t1 false tk w []=some (.inr (.inr ((zP,false,()),(true,ad,()),ky,(rm,1,true,1,8,t,false,()),q,tq,(room,1,false,1,8,t1,false,()),tk,(w.drop 1,()),[e],()))):=by
 obtain⟨e,he,h⟩:=spkTI_lost m ad hc rm t q tq room t1 tk w hf
 refine⟨e,he,?_⟩
 unfold sayTI_D
 rw[h]
 simp only[bnd_some,sumK_l,sumK_r]
 rw[gr48 _ (by simp),dT (by simp:(0:Int)<(([e]:List SntT).length:Nat)),inT (by omega) (by simp:(0:Int)<(([e]:List SntT).length:Nat))]
 simp only[cond_true]
 rw[dF (show ¬(List.getD [e] (Int.toNat 0) (0,0,0,0,0,0,false,false,0,[],false,0,())).2.2.2.2.2.2.2.2.2.2.2.1=0 from fun hh=>hf (he.symm.trans hh))]
 rfl
theorem sayTI_arr(m:Nat)(ad:Int)(hc:pkChk_D m (pT 1 ad 1)=some (0,()))(rm:Int)(t:Bool)(q tq:List (List Int))(room:Int)(t1:Bool)(tk:List (List Int))(w:List Int)(hf:hdF w=0):
  ∃e:SntT,fE e=hdF w∧sayTI_D m ad 1 0 0 0 false false 0 [] true ad 1 true 1 false rm 1 true 1 8 t false q tq room 1 false 1 8 t1 false tk w []=some (.inl ((zP,()),(true,ad,1,()),ky,(rm,1,true,1,8,t,false,()),q,tq,(room,1,false,1,8,t1,false,()),tk,(w.drop 1,()),[e],())):=by
 obtain⟨e,he,h⟩:=spkTI_arr m ad hc rm t q tq room t1 tk w hf
 refine⟨e,he,?_⟩
 unfold sayTI_D
 rw[h]
 simp only[bnd_some,sumK_l,sumK_r]
 rw[gr48 _ (by simp),dT (by simp:(0:Int)<(([e]:List SntT).length:Nat)),inT (by omega) (by simp:(0:Int)<(([e]:List SntT).length:Nat))]
 simp only[cond_true]
 rw[dT (show(List.getD [e] (Int.toNat 0) (0,0,0,0,0,0,false,false,0,[],false,0,())).2.2.2.2.2.2.2.2.2.2.2.1=0 from he.trans hf)]
 rfl
theorem sayZ_one(m:Nat)(p:Pkt)(w:List Int)(s0:SntT)(hc:pkChk_D m p=some (0,()))(hl:p.2.2.2.2.2.2.2.2.2.1.length≤1000000):
  ∃e:SntT,fE e=hdF w∧sayZ_D m p w [s0]=some ((zP,false,()),(w.drop 1,()),[s0,e],()):=by
 obtain⟨e,he,hs⟩:=send6_eq m p true w [] hl (by simp)
 refine⟨e,he,?_⟩
 have h:spkZ_D m p w=some ((zP,false,[e],()),(w.drop 1,()),()):=by
  unfold spkZ_D
  by_cases hf:hdF w=0
  ·simp only[hc,bnd_some,decide_true,Bool.not_true,cond_false,hs,dT hf,clipT,takeAll,List.nil_append,cond_true]
   all_goals rfl
  ·simp only[hc,bnd_some,decide_true,Bool.not_true,cond_false,hs,dF hf,clipT,takeAll,List.nil_append,cond_true]
   all_goals rfl
 unfold sayZ_D
 try unfold sayZ_J0
 rw[h]
 simp only[bnd_some]
 rw[gr48 _ (by simp),dT (by simp:(0:Int)<(([e]:List SntT).length:Nat)),inT (by omega) (by simp:(0:Int)<(([e]:List SntT).length:Nat))]
 simp only[cond_true]
 cases !decide ((List.getD [e] (Int.toNat 0) (0,0,0,0,0,0,false,false,0,[],false,0,())).2.2.2.2.2.2.2.2.2.2.2.1=0)<;>rfl
theorem hD3I_eq(m:Nat)(ad:Int)(b:List Int)(hb:b.length≤8)(rm:Int)(t:Bool)(q tq:List (List Int))(room:Int)(t1:Bool)(tk:List (List Int))(htk:tk.length≤1000):
  hD3I_D m 0 0 0 0 0 false false 0 b true ad 1 1 true 1 false rm 1 true 1 8 t false q tq room 1 false 1 8 t1 false tk=some ((zP,false,()),(true,ad,()),ky,(rm,1,true,1,8,t,false,()),q,tq,(bif decide (0<room)then Go.IntKind.wrap .i64 (room - 1)else room,1,false,1,8,t1,false,()),(bif decide (0<room)then tk++ [b]else tk),()):=by
 have hc:=chk_data m 3 (by decide) b (by omega)
 have h8:decide ((b.length:Int)≤8)=true:=dT (by omega)
 unfold pD at hc
 unfold hD3I_D
 simp only[hc,bnd_some,Bool.not_true,Bool.not_false,cond_false,decide_true,cond_true,h8,eclone_eq m b (by omega)]
 by_cases hr:0<room
 ·simp only[dT hr,cond_true]
  rw[gr24 _ (by simp only[List.length_cons,List.length_nil];omega)]
  simp only[Bool.true_and]
  rfl
 ·simp only[dF hr,cond_false]
  try rfl
theorem spkD3I_lost(m:Nat)(ad:Int)(b:List Int)(hb:b.length≤8)(rm:Int)(t:Bool)(q tq:List (List Int))(room:Int)(t1:Bool)(tk:List (List Int))(w:List Int)(hf: ¬hdF w=0):
  ∃e:SntT,fE e=hdF w∧spkD3I_D m 0 0 0 0 0 false false 0 b true ad 1 1 true 1 false rm 1 true 1 8 t false q tq room 1 false 1 8 t1 false tk w=some ((zP,false,[e],()),(true,ad,()),ky,(rm,1,true,1,8,t,false,()),q,tq,(room,1,false,1,8,t1,false,()),tk,(w.drop 1,()),()):=by
 have hc:=chk_data m 3 (by decide) b (by omega)
 obtain⟨e,he,hs⟩:=send6_eq m (pD 3 b) true w [] (by simp[pD];omega) (by simp)
 refine⟨e,he,?_⟩
 unfold pD at hc hs
 unfold spkD3I_D
 simp only[hc,bnd_some,decide_true,Bool.not_true,cond_false,hs,dF hf,clipT,takeAll,List.nil_append,cond_true]
 all_goals rfl
theorem spkD3I_arr(m:Nat)(ad:Int)(b:List Int)(hb:b.length≤8)(rm:Int)(t:Bool)(q tq:List (List Int))(room:Int)(t1:Bool)(tk:List (List Int))(htk:tk.length≤1000)(w:List Int)(hf:hdF w=0):
  ∃e:SntT,fE e=hdF w∧spkD3I_D m 0 0 0 0 0 false false 0 b true ad 1 1 true 1 false rm 1 true 1 8 t false q tq room 1 false 1 8 t1 false tk w=some ((zP,false,[e],()),(true,ad,()),ky,(rm,1,true,1,8,t,false,()),q,tq,(bif decide (0<room)then Go.IntKind.wrap .i64 (room - 1)else room,1,false,1,8,t1,false,()),(bif decide (0<room)then tk++ [b]else tk),(w.drop 1,()),()):=by
 have hc:=chk_data m 3 (by decide) b (by omega)
 have hH:=hD3I_eq m ad b hb rm t q tq room t1 tk htk
 obtain⟨e,he,hs⟩:=send6_eq m (pD 3 b) true w [] (by simp[pD];omega) (by simp)
 refine⟨e,he,?_⟩
 unfold pD at hc hs
 unfold spkD3I_D
 simp only[hc,bnd_some,decide_true,Bool.not_true,cond_false,hs,dT hf,clipT,takeAll,List.nil_append,cond_true,cloneB_eq m b (by omega),hH]
 all_goals rfl
theorem sayD3I_lost(m:Nat)(ad:Int)(b:List Int)(hb:b.length≤8)(rm:Int)(t:Bool)(q tq:List (List Int))(room:Int)(t1:Bool)(tk:List (List Int))(w:List Int)(hf: ¬hdF w=0)(s0:SntT):
  ∃e:SntT,fE e=hdF w∧sayD3I_D m 0 0 0 0 0 false false 0 b true ad 1 1 true 1 false rm 1 true 1 8 t false q tq room 1 false 1 8 t1 false tk w [s0]=some (.inr ((zP,false,()),(true,ad,()),ky,(rm,1,true,1,8,t,false,()),q,tq,(room,1,false,1,8,t1,false,()),tk,(w.drop 1,()),[s0,e],())):=by
 obtain⟨e,he,h⟩:=spkD3I_lost m ad b hb rm t q tq room t1 tk w hf
 refine⟨e,he,?_⟩
 unfold sayD3I_D
 rw[h]
 simp only[bnd_some]
 rw[gr48 _ (by simp),dT (by simp:(0:Int)<(([e]:List SntT).length:Nat)),inT (by omega) (by simp:(0:Int)<(([e]:List SntT).length:Nat))]
 simp only[cond_true]
 rw[dF (show ¬(List.getD [e] (Int.toNat 0) (0,0,0,0,0,0,false,false,0,[],false,0,())).2.2.2.2.2.2.2.2.2.2.2.1=0 from fun hh=>hf (he.symm.trans hh))]
 rfl
theorem sayD3I_arr(m:Nat)(ad:Int)(b:List Int)(hb:b.length≤8)(rm:Int)(t:Bool)(q tq:List (List Int))(room:Int)(t1:Bool)(tk:List (List Int))(htk:tk.length≤1000)(w:List Int)(hf:hdF w=0)(s0:SntT):
  ∃e:SntT,fE e=hdF w∧sayD3I_D m 0 0 0 0 0 false false 0 b true ad 1 1 true 1 false rm 1 true 1 8 t false q tq room 1 false 1 8 t1 false tk w [s0]=some (.inl ((zP,false,()),(true,ad,()),ky,(rm,1,true,1,8,t,false,()),q,tq,(bif decide (0<room)then Go.IntKind.wrap .i64 (room - 1)else room,1,false,1,8,t1,false,()),(bif decide (0<room)then tk++ [b]else tk),(w.drop 1,()),[s0,e],())):=by
 obtain⟨e,he,h⟩:=spkD3I_arr m ad b hb rm t q tq room t1 tk htk w hf
 refine⟨e,he,?_⟩
 unfold sayD3I_D
 rw[h]
 simp only[bnd_some]
 rw[gr48 _ (by simp),dT (by simp:(0:Int)<(([e]:List SntT).length:Nat)),inT (by omega) (by simp:(0:Int)<(([e]:List SntT).length:Nat))]
 simp only[cond_true]
 rw[dT (show(List.getD [e] (Int.toNat 0) (0,0,0,0,0,0,false,false,0,[],false,0,())).2.2.2.2.2.2.2.2.2.2.2.1=0 from he.trans hf)]
 rfl
theorem doWI_eq(m:Nat)(ad:Int)(hc:pkChk_D m (pT 1 ad 1)=some (0,()))(b:List Int)(hb:b.length≤8)(hk:tchk6_D m (ad,1,1,false,true,0,b,())=some (0,()))(rm:Int)(t:Bool)(q tq:List (List Int))(room:Int)(t1:Bool)(tk:List (List Int))(htk:tk.length≤1000)(w:List Int):
  ∃e e2:SntT,∃hit:Bool,doWI_D m ad 1 0 b true ad 1 true 1 false rm 1 true 1 8 t false q tq room 1 false 1 8 t1 false tk w=some (((1,[],()),[e,e2],()),(true,ad,()),ky,(rm,1,true,1,8,t,false,()),q,tq,(bif hit&&decide (0<room)then Go.IntKind.wrap .i64 (room - 1)else room,1,false,1,8,t1,false,()),(bif hit&&decide (0<room)then tk++ [b]else tk),((w.drop 1).drop 1,()),())∧hit=(decide (fE e=0)&&decide (fE e2=0)):=by
 by_cases f1:hdF w=0
 ·obtain⟨e,he,h1⟩:=sayTI_arr m ad hc rm t q tq room t1 tk w f1
  by_cases f2:hdF (w.drop 1)=0
  ·obtain⟨e2,he2,h2⟩:=sayD3I_arr m ad b hb rm t q tq room t1 tk htk (w.drop 1) f2 e
   refine⟨e,e2,true,?_,by rw[dT (he.trans f1),dT (he2.trans f2)];rfl⟩
   unfold doWI_D
   simp only[hk,bnd_some,decide_true,Bool.not_true,cond_false]
   unfold outI_D
   simp only[h1,bnd_some,sumK_l,cond_true,cond_false,h2,clipT,takeAll,Bool.true_and]
   try rfl
  ·obtain⟨e2,he2,h2⟩:=sayD3I_lost m ad b hb rm t q tq room t1 tk (w.drop 1) f2 e
   refine⟨e,e2,false,?_,by rw[dF (fun hh=>f2 (he2.symm.trans hh))];simp⟩
   unfold doWI_D
   simp only[hk,bnd_some,decide_true,Bool.not_true,cond_false]
   unfold outI_D
   simp only[h1,bnd_some,sumK_l,sumK_r,cond_true,cond_false,h2,clipT,takeAll,Bool.false_and]
   try rfl
 ·obtain⟨e,he,h1⟩:=sayTI_lost m ad hc rm t q tq room t1 tk w f1
  obtain⟨e2,he2,h2⟩:=sayZ_one m (pD 3 b) (w.drop 1) e (chk_data m 3 (by decide) b (by omega)) (by simp[pD];omega)
  refine⟨e,e2,false,?_,by rw[dF (fun hh=>f1 (he.symm.trans hh))];rfl⟩
  unfold pD at h2
  unfold doWI_D
  simp only[hk,bnd_some,decide_true,Bool.not_true,cond_false]
  unfold outI_D
  simp only[h1,bnd_some,sumK_l,sumK_r,cond_true,cond_false,h2,clipT,takeAll,Bool.false_and]
  try rfl
theorem hInI_eq(m:Nat)(ad:Int)(hc:pkChk_D m (pT 9 ad 1)=some (0,()))(rm:Int)(t:Bool)(tq:List (List Int))(room:Int)(t1:Bool)(tk:List (List Int))(b:List Int):
  hInI_D m ad 1 0 0 0 false false 0 [] true ad 1 true 1 false rm 1 true 1 8 t false [b] tq room 1 false 1 8 t1 false tk=some (.inr (.inr (.inr ((pD 3 b,true,()),(true,ad,()),ky,(rm,1,true,1,8,t,false,()),[],tq,(room,1,false,1,8,t1,false,()),tk,())))):=by
 unfold pT at hc
 unfold hInI_D
 have e3:decide ((0:Int)<1)=true:=by decide
 have e5:decide ((9:Int)=9)=true:=by decide
 have e6:decide ((true:Bool)=true)=true:=by decide
 have e7:decide ((0:Int)<(([b]:List (List Int)).length:Nat))=true:=dT (by simp)
 have e8:inB 0 ([b]:List (List Int)).length=true:=inT (by omega) (by simp)
 have e9:decide (Int.toNat 0<([b]:List (List Int)).length)=true:=dT (by simp)
 have e10:(decide ((0:Int)≤1)&&decide (Int.toNat 1≤([b]:List (List Int)).length))=true:=by rw[dT (by decide:(0:Int)≤1),dT (by simp:Int.toNat 1≤([b]:List (List Int)).length)];rfl
 simp only[hc,bnd_some,Bool.not_true,cond_false,decide_true,cond_true,e3,e5,e6,e7,e8,e9,e10,Bool.and_true,Bool.and_self]
 try rfl
theorem spkII_lost(m:Nat)(ad:Int)(hc:pkChk_D m (pT 9 ad 1)=some (0,()))(rm:Int)(t:Bool)(q tq:List (List Int))(room:Int)(t1:Bool)(tk:List (List Int))(w:List Int)(hf: ¬hdF w=0):
  ∃e:SntT,fE e=hdF w∧spkII_D m ad 1 0 0 0 false false 0 [] true ad 1 true 1 false rm 1 true 1 8 t false q tq room 1 false 1 8 t1 false tk w=some (.inr (.inr (.inr (.inl ((zP,[e],()),(true,ad,()),ky,(rm,1,true,1,8,t,false,()),q,tq,(room,1,false,1,8,t1,false,()),tk,(w.drop 1,()),()))))):=by
 obtain⟨e,he,hs⟩:=send6_eq m (pT 9 ad 1) true w [] (by simp[pT]) (by simp)
 refine⟨e,he,?_⟩
 unfold pT at hs hc
 unfold spkII_D
 simp only[hc,bnd_some,decide_true,Bool.not_true,cond_false,hs,dF hf,clipT,takeAll,List.nil_append,cond_true]
 all_goals rfl
theorem spkII_ans(m:Nat)(ad:Int)(hc:pkChk_D m (pT 9 ad 1)=some (0,()))(rm:Int)(t:Bool)(tq:List (List Int))(room:Int)(t1:Bool)(tk:List (List Int))(b:List Int)(hb:b.length≤8)(w:List Int)(hf:hdF w=0):
  ∃e e2:SntT,fE e=hdF w∧fE e2=hdF (w.drop 1)∧spkII_D m ad 1 0 0 0 false false 0 [] true ad 1 true 1 false rm 1 true 1 8 t false [b] tq room 1 false 1 8 t1 false tk w=some (bif decide (hdF (w.drop 1)=0)then .inr (.inr (.inr (.inr ((pD 3 b,true,[e,e2],()),(true,ad,()),ky,(rm,1,true,1,8,t,false,()),[],tq,(room,1,false,1,8,t1,false,()),tk,((w.drop 1).drop 1,()),()))))else .inr (.inr (.inr (.inl ((zP,[e,e2],()),(true,ad,()),ky,(rm,1,true,1,8,t,false,()),[],tq,(room,1,false,1,8,t1,false,()),tk,((w.drop 1).drop 1,()),()))))):=by
 have hH:=hInI_eq m ad hc rm t tq room t1 tk b
 have hca:=chk_data m 3 (by decide) b (by omega)
 obtain⟨e,he,hs⟩:=send6_eq m (pT 9 ad 1) true w [] (by simp[pT]) (by simp)
 obtain⟨e2,he2,hs2⟩:=send6_eq m (pD 3 b) false (w.drop 1) ([]++ [e]) (by simp[pD];omega) (by simp)
 refine⟨e,e2,he,he2,?_⟩
 unfold pT at hs hc
 unfold spkII_D
 by_cases f2:hdF (w.drop 1)=0
 ·simp only[hc,bnd_some,decide_true,Bool.not_true,cond_false,hs,dT hf,clipT,takeAll,cond_true,cloneB_eq m [] (by simp),hH,sumK_l,sumK_r,hca,hs2,dT f2]
  unfold pD
  simp only[cloneB_eq m b (by omega),bnd_some,clipT,takeAll,cond_true]
  all_goals rfl
 ·simp only[hc,bnd_some,decide_true,Bool.not_true,cond_false,hs,dT hf,clipT,takeAll,cond_true,cloneB_eq m [] (by simp),hH,sumK_l,sumK_r,hca,hs2,dF f2]
  all_goals rfl
theorem doRI_eq(m:Nat)(ad:Int)(hc:pkChk_D m (pT 9 ad 1)=some (0,()))(b:List Int)(hb:b.length≤8)(hk:tchk6_D m (ad,1,9,false,true,8,[],())=some (0,()))(rm:Int)(t:Bool)(tq:List (List Int))(room:Int)(t1:Bool)(tk:List (List Int))(w:List Int):
  ∃(r:Int) (dt:List Int) (q2:List (List Int)) (sent:List SntT) (w2:List Int),doRI_D m ad 1 8 [] true ad 1 true 1 false rm 1 true 1 8 t false [b] tq room 1 false 1 8 t1 false tk w=some (((r,dt,()),sent,()),(true,ad,()),ky,(rm,1,true,1,8,t,false,()),q2,tq,(room,1,false,1,8,t1,false,()),tk,(w2,()),())∧
   ((r=4∧q2= [b]∧ ∃e,sent= [e]∧ ¬fE e=0)∨(r=4∧q2= []∧ ∃e e2,sent= [e,e2]∧fE e=0∧ ¬fE e2=0)∨(r=1∧dt=b∧q2= []∧ ∃e e2,sent= [e,e2]∧fE e=0∧fE e2=0)):=by
 have h8:decide ((8:Int)<(b.length:Int))=false:=dF (by omega)
 have d33:decide ((3:Int)=3)=true:=by decide
 by_cases f1:hdF w=0
 ·obtain⟨e,e2,he,he2,h⟩:=spkII_ans m ad hc rm t tq room t1 tk b hb w f1
  have hg:growOb 48 (([]:List SntT).length+ [e,e2].length)=true:=gr48 _ (by simp)
  have hp:decide ((0:Int)<(([e,e2]:List SntT).length:Nat))=true:=dT (by simp)
  have hi:inB 0 ([e,e2]:List SntT).length=true:=inT (by omega) (by simp)
  have hz:decide ((List.getD [e,e2] (Int.toNat 0) (0,0,0,0,0,0,false,false,0,[],false,0,())).2.2.2.2.2.2.2.2.2.2.2.1=0)=true:=dT (he.trans f1)
  by_cases f2:hdF (w.drop 1)=0
  ·rw[dT f2]at h
   simp only[cond_true]at h
   refine⟨1,b,[],[e,e2],(w.drop 1).drop 1,?_,.inr (.inr ⟨rfl,rfl,rfl,e,e2,rfl,he.trans f1,he2.trans f2⟩)⟩
   unfold doRI_D
   simp only[hk,bnd_some,decide_true,Bool.not_true,cond_false]
   unfold inI_D sayII_D
   simp only[h,bnd_some,sumK_l,sumK_r]
   rw[hg,hp,hi]
   simp only[cond_true]
   rw[hz]
   simp only[Bool.not_true,cond_false,bnd_some,sumK_l,sumK_r,cond_true,pD,d33,h8,clipT,takeAll,List.nil_append]
   try rfl
  ·rw[dF f2]at h
   simp only[cond_false]at h
   refine⟨4,[],[],[e,e2],(w.drop 1).drop 1,?_,.inr (.inl ⟨rfl,rfl,e,e2,rfl,he.trans f1,fun hh=>f2 (he2.symm.trans hh)⟩)⟩
   unfold doRI_D
   simp only[hk,bnd_some,decide_true,Bool.not_true,cond_false]
   unfold inI_D sayII_D
   simp only[h,bnd_some,sumK_l,sumK_r]
   rw[hg,hp,hi]
   simp only[cond_true]
   rw[hz]
   simp only[Bool.not_true,cond_false,bnd_some,sumK_l,sumK_r,cond_true,clipT,takeAll,List.nil_append]
   try rfl
 ·obtain⟨e,he,h⟩:=spkII_lost m ad hc rm t [b] tq room t1 tk w f1
  have hg:growOb 48 (([]:List SntT).length+ [e].length)=true:=gr48 _ (by simp)
  have hp:decide ((0:Int)<(([e]:List SntT).length:Nat))=true:=dT (by simp)
  have hi:inB 0 ([e]:List SntT).length=true:=inT (by omega) (by simp)
  have hz:decide ((List.getD [e] (Int.toNat 0) (0,0,0,0,0,0,false,false,0,[],false,0,())).2.2.2.2.2.2.2.2.2.2.2.1=0)=false:=dF (fun hh=>f1 (he.symm.trans hh))
  refine⟨4,[],[b],[e],w.drop 1,?_,.inl ⟨rfl,rfl,e,rfl,fun hh=>f1 (he.symm.trans hh)⟩⟩
  unfold doRI_D
  simp only[hk,bnd_some,decide_true,Bool.not_true,cond_false]
  unfold inI_D sayII_D
  simp only[h,bnd_some,sumK_l,sumK_r]
  rw[hg,hp,hi]
  simp only[cond_true]
  rw[hz]
  simp only[Bool.not_true,Bool.not_false,cond_false,bnd_some,sumK_l,sumK_r,cond_true,clipT,takeAll,List.nil_append]
  try rfl
end Go.Proofs.YtngghkoghbpceaaDoor
