/-
  A host that reads from an endpoint of a set, the plain law: what the endpoint offers, and what comes back.
  Conditions: none.
-/
import Derived.Test.YtngghkoghbpceaaDoS9
import Derived.Test.YtngghkoghbpceaaE9r
namespace Go.Proofs.Ytngghkoghbpceaa
set_option linter.unusedVariables false
set_option linter.unusedSimpArgs false
set_option maxRecDepth 100000
set_option maxHeartbeats 4000000
theorem hIn_nil(m:Nat)(ad:Int)(hc:pkChk_D m (pT 9 ad 1)=some (0,()))(rm:Int)(t:Bool)(r1 n1:Int)(i1:Bool)(k1 m1:Int)(t1 h1:Bool):
  hInR_D m ad 1 0 0 0 false false 0 [] true ad 1 true 1 false rm 1 true 2 8 t false [] r1 n1 i1 k1 m1 t1 h1=some (.inr (.inl ((((0,0,0,0,0,false,false,0,[],()):Int×Int×Int×Int×Int×Bool×Bool×Int×List Int×Unit),()),(true,ad,()),ky,(rm,1,true,2,8,t,false,()),[],(r1,n1,i1,k1,m1,t1,h1,()),()))):=by
 unfold pT at hc
 unfold hInR_D
 have e3:decide ((0:Int)<1)=true:=by decide
 have e4:decide ((2:Int)=1)=false:=by decide
 have e5:decide ((9:Int)=9)=true:=by decide
 have e6:decide ((true:Bool)=true)=true:=by decide
 simp only[hc,bnd_some,Bool.not_true,cond_false,decide_true,cond_true,e3,e4,e5,e6,Bool.and_true,Bool.and_self,List.length_nil,Bool.not_false,Int.ofNat_zero]
 try rfl
theorem hIn_data(m:Nat)(ad:Int)(hc:pkChk_D m (pT 9 ad 1)=some (0,()))(rm:Int)(t:Bool)(r1 n1:Int)(i1:Bool)(k1 m1:Int)(t1 h1:Bool)(b:List Int)(q:List (List Int))(hb:b.length≤8):
  hInR_D m ad 1 0 0 0 false false 0 [] true ad 1 true 1 false rm 1 true 2 8 t false (b::q) r1 n1 i1 k1 m1 t1 h1=some (.inl ((pD (bif t then 11 else 3) b,()),(true,ad,9,()),ky,(rm,1,true,2,8,t,false,()),b::q,(r1,n1,i1,k1,m1,t1,h1,()),())):=by
 unfold pT at hc
 unfold hInR_D
 have e3:decide ((0:Int)<1)=true:=by decide
 have e4:decide ((2:Int)=1)=false:=by decide
 have e5:decide ((9:Int)=9)=true:=by decide
 have e6:decide ((true:Bool)=true)=true:=by decide
 have e7:decide ((((b::q).length:Nat):Int)=0)=false:=dF (by simp only[List.length_cons];omega)
 have e8:inB 0 (b::q).length=true:=inT (by omega) (by simp only[List.length_cons];omega)
 have e9:decide (Int.toNat 0<(b::q).length)=true:=dT (by simp)
 have e10:(b::q).getD (Int.toNat 0) []=b:=rfl
 simp only[hc,bnd_some,Bool.not_true,cond_false,decide_true,cond_true,e3,e4,e5,e6,e7,e8,e9,e10,Bool.and_true,Bool.and_self,Bool.not_false,eclone_eq m b (by omega)]
 cases t<;>rfl
theorem spkI_lost(m:Nat)(ad:Int)(hc:pkChk_D m (pT 9 ad 1)=some (0,()))(rm:Int)(t:Bool)(r1 n1:Int)(i1:Bool)(k1 m1:Int)(t1 h1:Bool)(q:List (List Int))(w:List Int)(hf: ¬hdF w=0):
  ∃snt:List SntT,0<snt.length∧snt.length≤2∧(snt.getD 0 ftD).2.2.2.2.2.2.2.2.2.2.2.1=hdF w∧
   spkIR_D m ad 1 0 0 0 false false 0 [] true ad 1 true 1 false rm 1 true 2 8 t false q r1 n1 i1 k1 m1 t1 h1 w=some (.inr (.inr (.inr (.inl ((zP,snt,()),(true,ad,()),ky,(rm,1,true,2,8,t,false,()),q,(r1,n1,i1,k1,m1,t1,h1,()),(w.drop 1,()),()))))):=by
 obtain⟨e,he,hs⟩:=send6_eq m (pT 9 ad 1) true w [] (by simp[pT]) (by simp)
 refine⟨[e],by simp,by simp,by simpa using he,?_⟩
 unfold pT at hs hc
 unfold spkIR_D
 simp only[hc,bnd_some,decide_true,Bool.not_true,cond_false,hs,dF hf,clipT,takeAll,List.nil_append,cond_true]
 all_goals rfl
theorem spkI_nak(m:Nat)(ad:Int)(hc:pkChk_D m (pT 9 ad 1)=some (0,()))(rm:Int)(t:Bool)(r1 n1:Int)(i1:Bool)(k1 m1:Int)(t1 h1:Bool)(w:List Int)(hf:hdF w=0)(hf2:hdF (w.drop 1)=0):
  ∃snt:List SntT,0<snt.length∧snt.length≤2∧(snt.getD 0 ftD).2.2.2.2.2.2.2.2.2.2.2.1=hdF w∧
   spkIR_D m ad 1 0 0 0 false false 0 [] true ad 1 true 1 false rm 1 true 2 8 t false [] r1 n1 i1 k1 m1 t1 h1 w=some (.inr (.inl ((((0,0,0,0,0,false,false,0,[],()):Int×Int×Int×Int×Int×Bool×Bool×Int×List Int×Unit),snt,()),(true,ad,()),ky,(rm,1,true,2,8,t,false,()),[],(r1,n1,i1,k1,m1,t1,h1,()),((w.drop 1).drop 1,()),()))):=by
 have hH:=hIn_nil m ad hc rm t r1 n1 i1 k1 m1 t1 h1
 have hca:=chk_hand m 10 (by decide)
 obtain⟨e,he,hs⟩:=send6_eq m (pT 9 ad 1) true w [] (by simp[pT]) (by simp)
 obtain⟨e2,he2,hs2⟩:=send6_eq m (pD 10 []) false (w.drop 1) ([]++ [e]) (by simp[pD]) (by simp)
 refine⟨[]++ [e]++ [e2],by simp,by simp,by simpa using he,?_⟩
 unfold pT at hs hc
 unfold pD at hca hs2
 unfold spkIR_D
 simp only[hc,bnd_some,decide_true,Bool.not_true,cond_false,hs,dT hf,clipT,takeAll,cond_true,cloneB_eq m [] (by simp),hH,sumK_l,sumK_r,hca,hs2,dT hf2]
 all_goals rfl
theorem spkI_nakl(m:Nat)(ad:Int)(hc:pkChk_D m (pT 9 ad 1)=some (0,()))(rm:Int)(t:Bool)(r1 n1:Int)(i1:Bool)(k1 m1:Int)(t1 h1:Bool)(w:List Int)(hf:hdF w=0)(hf2: ¬hdF (w.drop 1)=0):
  ∃snt:List SntT,0<snt.length∧snt.length≤2∧(snt.getD 0 ftD).2.2.2.2.2.2.2.2.2.2.2.1=hdF w∧
   spkIR_D m ad 1 0 0 0 false false 0 [] true ad 1 true 1 false rm 1 true 2 8 t false [] r1 n1 i1 k1 m1 t1 h1 w=some (.inr (.inr (.inr (.inl ((zP,snt,()),(true,ad,()),ky,(rm,1,true,2,8,t,false,()),[],(r1,n1,i1,k1,m1,t1,h1,()),((w.drop 1).drop 1,()),()))))):=by
 have hH:=hIn_nil m ad hc rm t r1 n1 i1 k1 m1 t1 h1
 have hca:=chk_hand m 10 (by decide)
 obtain⟨e,he,hs⟩:=send6_eq m (pT 9 ad 1) true w [] (by simp[pT]) (by simp)
 obtain⟨e2,he2,hs2⟩:=send6_eq m (pD 10 []) false (w.drop 1) ([]++ [e]) (by simp[pD]) (by simp)
 refine⟨[]++ [e]++ [e2],by simp,by simp,by simpa using he,?_⟩
 unfold pT at hs hc
 unfold pD at hca hs2
 unfold spkIR_D
 simp only[hc,bnd_some,decide_true,Bool.not_true,cond_false,hs,dT hf,clipT,takeAll,cond_true,cloneB_eq m [] (by simp),hH,sumK_l,sumK_r,hca,hs2,dF hf2]
 all_goals rfl
theorem spkI_data(m:Nat)(ad:Int)(hc:pkChk_D m (pT 9 ad 1)=some (0,()))(rm:Int)(t:Bool)(r1 n1:Int)(i1:Bool)(k1 m1:Int)(t1 h1:Bool)(b:List Int)(q:List (List Int))(hb:b.length≤8)(w:List Int)(hf:hdF w=0)(hf2:hdF (w.drop 1)=0):
  ∃snt:List SntT,0<snt.length∧snt.length≤2∧(snt.getD 0 ftD).2.2.2.2.2.2.2.2.2.2.2.1=hdF w∧
   spkIR_D m ad 1 0 0 0 false false 0 [] true ad 1 true 1 false rm 1 true 2 8 t false (b::q) r1 n1 i1 k1 m1 t1 h1 w=some (.inl ((pD (bif t then 11 else 3) b,snt,()),(true,ad,9,()),ky,(rm,1,true,2,8,t,false,()),b::q,(r1,n1,i1,k1,m1,t1,h1,()),((w.drop 1).drop 1,()),())):=by
 have hH:=hIn_data m ad hc rm t r1 n1 i1 k1 m1 t1 h1 b q hb
 have hca:=chk_data m (bif t then 11 else 3) (by cases t<;>simp) b (by omega)
 obtain⟨e,he,hs⟩:=send6_eq m (pT 9 ad 1) true w [] (by simp[pT]) (by simp)
 obtain⟨e2,he2,hs2⟩:=send6_eq m (pD (bif t then 11 else 3) b) false (w.drop 1) ([]++ [e]) (by simp[pD];omega) (by simp)
 refine⟨[]++ [e]++ [e2],by simp,by simp,by simpa using he,?_⟩
 unfold pT at hs hc
 unfold spkIR_D
 simp only[hc,bnd_some,decide_true,Bool.not_true,cond_false,hs,dT hf,clipT,takeAll,cond_true,cloneB_eq m [] (by simp),hH,sumK_l,sumK_r,hca,hs2,dT hf2]
 unfold pD
 simp only[cloneB_eq m b (by omega),bnd_some,clipT,takeAll,cond_true]
 all_goals rfl
theorem spkI_datal(m:Nat)(ad:Int)(hc:pkChk_D m (pT 9 ad 1)=some (0,()))(rm:Int)(t:Bool)(r1 n1:Int)(i1:Bool)(k1 m1:Int)(t1 h1:Bool)(b:List Int)(q:List (List Int))(hb:b.length≤8)(w:List Int)(hf:hdF w=0)(hf2: ¬hdF (w.drop 1)=0):
  ∃snt:List SntT,0<snt.length∧snt.length≤2∧(snt.getD 0 ftD).2.2.2.2.2.2.2.2.2.2.2.1=hdF w∧
   spkIR_D m ad 1 0 0 0 false false 0 [] true ad 1 true 1 false rm 1 true 2 8 t false (b::q) r1 n1 i1 k1 m1 t1 h1 w=some (.inr (.inr (.inr (.inl ((zP,snt,()),(true,ad,()),ky,(rm,1,true,2,8,t,false,()),b::q,(r1,n1,i1,k1,m1,t1,h1,()),((w.drop 1).drop 1,()),()))))):=by
 have hH:=hIn_data m ad hc rm t r1 n1 i1 k1 m1 t1 h1 b q hb
 have hca:=chk_data m (bif t then 11 else 3) (by cases t<;>simp) b (by omega)
 obtain⟨e,he,hs⟩:=send6_eq m (pT 9 ad 1) true w [] (by simp[pT]) (by simp)
 obtain⟨e2,he2,hs2⟩:=send6_eq m (pD (bif t then 11 else 3) b) false (w.drop 1) ([]++ [e]) (by simp[pD];omega) (by simp)
 refine⟨[]++ [e]++ [e2],by simp,by simp,by simpa using he,?_⟩
 unfold pT at hs hc
 unfold spkIR_D
 simp only[hc,bnd_some,decide_true,Bool.not_true,cond_false,hs,dT hf,clipT,takeAll,cond_true,cloneB_eq m [] (by simp),hH,sumK_l,sumK_r,hca,hs2,dF hf2]
 all_goals rfl
theorem sayI_lost(m:Nat)(ad:Int)(hc:pkChk_D m (pT 9 ad 1)=some (0,()))(rm:Int)(t:Bool)(r1 n1:Int)(i1:Bool)(k1 m1:Int)(t1 h1:Bool)(q:List (List Int))(w:List Int)(hf: ¬hdF w=0)(sent:List SntT)(hn:sent.length≤900):
  ∃sent2:List SntT,sent2.length≤sent.length+2∧sayIR_D m ad 1 0 0 0 false false 0 [] true ad 1 true 1 false rm 1 true 2 8 t false q r1 n1 i1 k1 m1 t1 h1 w sent=some (.inr (.inr (.inr (.inr (.inr ((zP,false,()),(true,ad,()),ky,(rm,1,true,2,8,t,false,()),q,(r1,n1,i1,k1,m1,t1,h1,()),((w.drop 1),()),sent2,())))))):=by
 obtain⟨snt,g0,g1,hft,h⟩:=spkI_lost m ad hc rm t r1 n1 i1 k1 m1 t1 h1 q w hf
 refine⟨sent++snt,by simp only[List.length_append];omega,?_⟩
 unfold sayIR_D
 rw[h]
 simp only[bnd_some,sumK_l,sumK_r]
 rw[gr48 _ (by omega),dT (by omega:(0:Int)<(snt.length:Nat)),inT (by omega) (by omega:(0:Int)<(snt.length:Nat))]
 simp only[cond_true]
 rw[dF (show ¬(List.getD snt (Int.toNat 0) (0,0,0,0,0,0,false,false,0,[],false,0,())).snd.snd.snd.snd.snd.snd.snd.snd.snd.snd.snd.fst=0 from fun hh=>hf (hft.symm.trans hh))]
 rfl
theorem sayI_nak(m:Nat)(ad:Int)(hc:pkChk_D m (pT 9 ad 1)=some (0,()))(rm:Int)(t:Bool)(r1 n1:Int)(i1:Bool)(k1 m1:Int)(t1 h1:Bool)(w:List Int)(hf:hdF w=0)(hf2:hdF (w.drop 1)=0)(sent:List SntT)(hn:sent.length≤900):
  ∃sent2:List SntT,sent2.length≤sent.length+2∧sayIR_D m ad 1 0 0 0 false false 0 [] true ad 1 true 1 false rm 1 true 2 8 t false [] r1 n1 i1 k1 m1 t1 h1 w sent=some (.inr (.inl ((((0,0,0,0,0,false,false,0,[],()):Int×Int×Int×Int×Int×Bool×Bool×Int×List Int×Unit),()),(true,ad,()),ky,(rm,1,true,2,8,t,false,()),[],(r1,n1,i1,k1,m1,t1,h1,()),(((w.drop 1).drop 1),()),sent2,()))):=by
 obtain⟨snt,g0,g1,hft,h⟩:=spkI_nak m ad hc rm t r1 n1 i1 k1 m1 t1 h1 w hf hf2
 refine⟨sent++snt,by simp only[List.length_append];omega,?_⟩
 unfold sayIR_D
 rw[h]
 simp only[bnd_some,sumK_l,sumK_r]
 rw[gr48 _ (by omega),dT (by omega:(0:Int)<(snt.length:Nat)),inT (by omega) (by omega:(0:Int)<(snt.length:Nat))]
 simp only[cond_true]
 rw[dT (show(List.getD snt (Int.toNat 0) (0,0,0,0,0,0,false,false,0,[],false,0,())).snd.snd.snd.snd.snd.snd.snd.snd.snd.snd.snd.fst=0 from hft.trans hf)]
 rfl
theorem sayI_nakl(m:Nat)(ad:Int)(hc:pkChk_D m (pT 9 ad 1)=some (0,()))(rm:Int)(t:Bool)(r1 n1:Int)(i1:Bool)(k1 m1:Int)(t1 h1:Bool)(w:List Int)(hf:hdF w=0)(hf2: ¬hdF (w.drop 1)=0)(sent:List SntT)(hn:sent.length≤900):
  ∃sent2:List SntT,sent2.length≤sent.length+2∧sayIR_D m ad 1 0 0 0 false false 0 [] true ad 1 true 1 false rm 1 true 2 8 t false [] r1 n1 i1 k1 m1 t1 h1 w sent=some (.inr (.inr (.inr (.inl ((zP,()),(true,ad,()),ky,(rm,1,true,2,8,t,false,()),[],(r1,n1,i1,k1,m1,t1,h1,()),(((w.drop 1).drop 1),()),sent2,()))))):=by
 obtain⟨snt,g0,g1,hft,h⟩:=spkI_nakl m ad hc rm t r1 n1 i1 k1 m1 t1 h1 w hf hf2
 refine⟨sent++snt,by simp only[List.length_append];omega,?_⟩
 unfold sayIR_D
 rw[h]
 simp only[bnd_some,sumK_l,sumK_r]
 rw[gr48 _ (by omega),dT (by omega:(0:Int)<(snt.length:Nat)),inT (by omega) (by omega:(0:Int)<(snt.length:Nat))]
 simp only[cond_true]
 rw[dT (show(List.getD snt (Int.toNat 0) (0,0,0,0,0,0,false,false,0,[],false,0,())).snd.snd.snd.snd.snd.snd.snd.snd.snd.snd.snd.fst=0 from hft.trans hf)]
 rfl
theorem sayI_data(m:Nat)(ad:Int)(hc:pkChk_D m (pT 9 ad 1)=some (0,()))(rm:Int)(t:Bool)(r1 n1:Int)(i1:Bool)(k1 m1:Int)(t1 h1:Bool)(b:List Int)(q:List (List Int))(hb:b.length≤8)(w:List Int)(hf:hdF w=0)(hf2:hdF (w.drop 1)=0)(sent:List SntT)(hn:sent.length≤900):
  ∃sent2:List SntT,sent2.length≤sent.length+2∧sayIR_D m ad 1 0 0 0 false false 0 [] true ad 1 true 1 false rm 1 true 2 8 t false (b::q) r1 n1 i1 k1 m1 t1 h1 w sent=some (.inl ((pD (bif t then 11 else 3) b,()),(true,ad,9,()),ky,(rm,1,true,2,8,t,false,()),b::q,(r1,n1,i1,k1,m1,t1,h1,()),(((w.drop 1).drop 1),()),sent2,())):=by
 obtain⟨snt,g0,g1,hft,h⟩:=spkI_data m ad hc rm t r1 n1 i1 k1 m1 t1 h1 b q hb w hf hf2
 refine⟨sent++snt,by simp only[List.length_append];omega,?_⟩
 unfold sayIR_D
 rw[h]
 simp only[bnd_some,sumK_l,sumK_r]
 rw[gr48 _ (by omega),dT (by omega:(0:Int)<(snt.length:Nat)),inT (by omega) (by omega:(0:Int)<(snt.length:Nat))]
 simp only[cond_true]
 rw[dT (show(List.getD snt (Int.toNat 0) (0,0,0,0,0,0,false,false,0,[],false,0,())).snd.snd.snd.snd.snd.snd.snd.snd.snd.snd.snd.fst=0 from hft.trans hf)]
 rfl
theorem sayI_datal(m:Nat)(ad:Int)(hc:pkChk_D m (pT 9 ad 1)=some (0,()))(rm:Int)(t:Bool)(r1 n1:Int)(i1:Bool)(k1 m1:Int)(t1 h1:Bool)(b:List Int)(q:List (List Int))(hb:b.length≤8)(w:List Int)(hf:hdF w=0)(hf2: ¬hdF (w.drop 1)=0)(sent:List SntT)(hn:sent.length≤900):
  ∃sent2:List SntT,sent2.length≤sent.length+2∧sayIR_D m ad 1 0 0 0 false false 0 [] true ad 1 true 1 false rm 1 true 2 8 t false (b::q) r1 n1 i1 k1 m1 t1 h1 w sent=some (.inr (.inr (.inr (.inl ((zP,()),(true,ad,()),ky,(rm,1,true,2,8,t,false,()),b::q,(r1,n1,i1,k1,m1,t1,h1,()),(((w.drop 1).drop 1),()),sent2,()))))):=by
 obtain⟨snt,g0,g1,hft,h⟩:=spkI_datal m ad hc rm t r1 n1 i1 k1 m1 t1 h1 b q hb w hf hf2
 refine⟨sent++snt,by simp only[List.length_append];omega,?_⟩
 unfold sayIR_D
 rw[h]
 simp only[bnd_some,sumK_l,sumK_r]
 rw[gr48 _ (by omega),dT (by omega:(0:Int)<(snt.length:Nat)),inT (by omega) (by omega:(0:Int)<(snt.length:Nat))]
 simp only[cond_true]
 rw[dT (show(List.getD snt (Int.toNat 0) (0,0,0,0,0,0,false,false,0,[],false,0,())).snd.snd.snd.snd.snd.snd.snd.snd.snd.snd.snd.fst=0 from hft.trans hf)]
 rfl
theorem spkK_ok(m:Nat)(ad:Int)(rm:Int)(t:Bool)(r1 n1:Int)(i1:Bool)(k1 m1:Int)(t1 h1:Bool)(b:List Int)(q:List (List Int))(w:List Int)(hf:hdF w=0):
  ∃snt:List SntT,0<snt.length∧snt.length≤2∧(snt.getD 0 ftD).2.2.2.2.2.2.2.2.2.2.2.1=hdF w∧
   spkKR_D m 0 0 0 0 0 false false 0 [] true ad 9 1 true 1 false rm 1 true 2 8 t false (b::q) r1 n1 i1 k1 m1 t1 h1 w=some ((zP,false,snt,()),(true,ad,()),ky,(rm,1,true,2,8,!t,false,()),q,(r1,n1,i1,k1,m1,t1,h1,()),(w.drop 1,()),()):=by
 have hc:=chk_hand m 2 (by decide)
 obtain⟨e,he,hs⟩:=send6_eq m (pD 2 []) true w [] (by simp[pD]) (by simp)
 refine⟨[e],by simp,by simp,by simpa using he,?_⟩
 have hH:hAckR_D m 0 0 0 0 0 false false 0 [] true ad 9 1 true 1 false rm 1 true 2 8 t false (b::q) r1 n1 i1 k1 m1 t1 h1=some ((zP,false,()),(true,ad,()),ky,(rm,1,true,2,8,!t,false,()),q,(r1,n1,i1,k1,m1,t1,h1,()),()):=by
  unfold pD at hc
  unfold hAckR_D
  have e7:decide ((((b::q).length:Nat):Int)=0)=false:=dF (by simp only[List.length_cons];omega)
  have e8:(decide ((0:Int)≤1)&&decide (Int.toNat 1≤(b::q).length))=true:=by rw[dT (by decide:(0:Int)≤1),dT (by simp:Int.toNat 1≤(b::q).length)];rfl
  have e5:decide ((9:Int)=9)=true:=by decide
  simp only[hc,bnd_some,Bool.not_true,cond_false,decide_true,cond_true,e5,e7,e8]
  rfl
 unfold pD at hc hs
 unfold spkKR_D
 simp only[hc,bnd_some,decide_true,Bool.not_true,cond_false,hs,dT hf,clipT,takeAll,List.nil_append,cond_true,cloneB_eq m [] (by simp),hH]
 all_goals rfl
theorem sayK_ok(m:Nat)(ad:Int)(rm:Int)(t:Bool)(r1 n1:Int)(i1:Bool)(k1 m1:Int)(t1 h1:Bool)(b:List Int)(q:List (List Int))(w:List Int)(hf:hdF w=0)(sent:List SntT)(hn:sent.length≤900):
  ∃sent2:List SntT,sent2.length≤sent.length+2∧sayKR_D m 0 0 0 0 0 false false 0 [] true ad 9 1 true 1 false rm 1 true 2 8 t false (b::q) r1 n1 i1 k1 m1 t1 h1 w sent=some (.inl ((zP,false,()),(true,ad,()),ky,(rm,1,true,2,8,!t,false,()),q,(r1,n1,i1,k1,m1,t1,h1,()),(w.drop 1,()),sent2,())):=by
 obtain⟨snt,g0,g1,hft,h⟩:=spkK_ok m ad rm t r1 n1 i1 k1 m1 t1 h1 b q w hf
 refine⟨sent++snt,by simp only[List.length_append];omega,?_⟩
 unfold sayKR_D
 rw[h]
 simp only[bnd_some]
 rw[gr48 _ (by omega),dT (by omega:(0:Int)<(snt.length:Nat)),inT (by omega) (by omega:(0:Int)<(snt.length:Nat))]
 simp only[cond_true]
 rw[dT (show(List.getD snt (Int.toNat 0) (0,0,0,0,0,0,false,false,0,[],false,0,())).snd.snd.snd.snd.snd.snd.snd.snd.snd.snd.snd.fst=0 from hft.trans hf)]
 rfl
theorem spkK_lost(m:Nat)(ad:Int)(rm:Int)(t:Bool)(r1 n1:Int)(i1:Bool)(k1 m1:Int)(t1 h1:Bool)(b:List Int)(q:List (List Int))(w:List Int)(hf: ¬hdF w=0):
  ∃snt:List SntT,0<snt.length∧snt.length≤2∧(snt.getD 0 ftD).2.2.2.2.2.2.2.2.2.2.2.1=hdF w∧
   spkKR_D m 0 0 0 0 0 false false 0 [] true ad 9 1 true 1 false rm 1 true 2 8 t false (b::q) r1 n1 i1 k1 m1 t1 h1 w=some ((zP,false,snt,()),(true,ad,()),ky,(rm,1,true,2,8,t,false,()),b::q,(r1,n1,i1,k1,m1,t1,h1,()),(w.drop 1,()),()):=by
 have hc:=chk_hand m 2 (by decide)
 obtain⟨e,he,hs⟩:=send6_eq m (pD 2 []) true w [] (by simp[pD]) (by simp)
 refine⟨[e],by simp,by simp,by simpa using he,?_⟩
 unfold pD at hc hs
 unfold spkKR_D
 simp only[hc,bnd_some,decide_true,Bool.not_true,cond_false,hs,dF hf,clipT,takeAll,List.nil_append,cond_true]
 all_goals rfl
theorem sayK_lost(m:Nat)(ad:Int)(rm:Int)(t:Bool)(r1 n1:Int)(i1:Bool)(k1 m1:Int)(t1 h1:Bool)(b:List Int)(q:List (List Int))(w:List Int)(hf: ¬hdF w=0)(sent:List SntT)(hn:sent.length≤900):
  ∃sent2:List SntT,sent2.length≤sent.length+2∧sayKR_D m 0 0 0 0 0 false false 0 [] true ad 9 1 true 1 false rm 1 true 2 8 t false (b::q) r1 n1 i1 k1 m1 t1 h1 w sent=some (.inr ((zP,false,()),(true,ad,()),ky,(rm,1,true,2,8,t,false,()),b::q,(r1,n1,i1,k1,m1,t1,h1,()),(w.drop 1,()),sent2,())):=by
 obtain⟨snt,g0,g1,hft,h⟩:=spkK_lost m ad rm t r1 n1 i1 k1 m1 t1 h1 b q w hf
 refine⟨sent++snt,by simp only[List.length_append];omega,?_⟩
 unfold sayKR_D
 rw[h]
 simp only[bnd_some]
 rw[gr48 _ (by omega),dT (by omega:(0:Int)<(snt.length:Nat)),inT (by omega) (by omega:(0:Int)<(snt.length:Nat))]
 simp only[cond_true]
 rw[dF (show ¬(List.getD snt (Int.toNat 0) (0,0,0,0,0,0,false,false,0,[],false,0,())).snd.snd.snd.snd.snd.snd.snd.snd.snd.snd.snd.fst=0 from fun hh=>hf (hft.symm.trans hh))]
 rfl
theorem doR_eq(m:Nat)(ad:Int)(hc:pkChk_D m (pT 9 ad 1)=some (0,()))(tog:Bool)(hk:tchk6_D m (ad,1,9,tog,false,8,[],())=some (0,()))(rm:Int)(t:Bool)(r1 n1:Int)(i1:Bool)(k1 m1:Int)(t1 h1:Bool)(q:List (List Int))(hq: ∀b∈q,b.length≤8)(w:List Int):
  ∃(r:Int) (dt:List Int) (t2:Bool) (q2:List (List Int)) (w2:List Int) (sent:List SntT),doRR_D m ad 1 tog false 8 [] true ad 1 true 1 false rm 1 true 2 8 t false q r1 n1 i1 k1 m1 t1 h1 w=some (((r,dt,()),sent,()),(true,ad,()),ky,(rm,1,true,2,8,t2,false,()),q2,(r1,n1,i1,k1,m1,t1,h1,()),(w2,()),())∧w2.length≤w.length∧
   ((r=4∧t2=t∧q2=q∧w2.length<w.length)∨(q= []∧r=2∧t2=t∧q2= [])∨
    (∃b q0,q=b::q0∧((t=tog∧r=1∧dt=b)∨(¬t=tog∧r=6))∧((t2=(!t)∧q2=q0)∨(t2=t∧q2=q∧w2.length<w.length)))):=by
 have hd1:(w.drop 1).length=w.length - 1:=by simp
 have hd2:((w.drop 1).drop 1).length=w.length - 2:=by simp only[List.length_drop];omega
 have hd3:(((w.drop 1).drop 1).drop 1).length=w.length - 3:=by simp only[List.length_drop];omega
 have d33:decide ((3:Int)=3)=true:=by decide
 have d113:decide ((11:Int)=3)=false:=by decide
 have d1111:decide ((11:Int)=11)=true:=by decide
 have d311:decide ((3:Int)=11)=false:=by decide
 have pos: ∀v:List Int,¬hdF v=0→0<v.length:=by
  intro v hv
  cases v with
  |nil=>exact absurd rfl hv
  |cons a l=>simp
 by_cases f1:hdF w=0
 ·by_cases f2:hdF (w.drop 1)=0
  ·cases q with
   |nil=>
    obtain⟨s1,q1,e1⟩:=sayI_nak m ad hc rm t r1 n1 i1 k1 m1 t1 h1 w f1 f2 [] (by simp)
    refine⟨2,[],t,[],(w.drop 1).drop 1,s1,?_,by omega,.inr (.inl ⟨rfl,rfl,rfl,rfl⟩)⟩
    unfold doRR_D
    simp only[hk,bnd_some,decide_true,Bool.not_true,cond_false]
    unfold inR_D
    simp only[e1,bnd_some,sumK_l,sumK_r,cond_true,cond_false,hands_nak,clipT,takeAll]
    try rfl
   |cons b q=>
    have hb:b.length≤8:=hq b (by simp)
    have h8:decide ((8:Int)<(b.length:Int))=false:=dF (by omega)
    obtain⟨s1,q1,e1⟩:=sayI_data m ad hc rm t r1 n1 i1 k1 m1 t1 h1 b q hb w f1 f2 [] (by simp)
    have q1':s1.length≤2:=by simpa using q1
    by_cases f3:hdF ((w.drop 1).drop 1)=0
    ·obtain⟨s2,q2,e2⟩:=sayK_ok m ad rm t r1 n1 i1 k1 m1 t1 h1 b q ((w.drop 1).drop 1) f3 s1 (by omega)
     by_cases htt:t=tog
     ·refine⟨1,b,!t,q,((w.drop 1).drop 1).drop 1,s2,?_,by omega,.inr (.inr ⟨b,q,rfl,.inl ⟨htt,rfl,rfl⟩,.inl ⟨rfl,rfl⟩⟩)⟩
      subst htt
      unfold doRR_D
      simp only[hk,bnd_some,decide_true,Bool.not_true,cond_false]
      unfold inR_D
      unfold pD at e1
      cases t<;>simp only[cond_true,cond_false]at e1 e2 ⊢ <;>(simp only[e1,e2,bnd_some,sumK_l,sumK_r,h8,clipT,takeAll,d33,d113,d1111,d311,eq_self,decide_true,decide_false,reduceCtorEq,Bool.not_true,Bool.not_false,cond_true,cond_false];try rfl)
     ·refine⟨6,[],!t,q,((w.drop 1).drop 1).drop 1,s2,?_,by omega,.inr (.inr ⟨b,q,rfl,.inr ⟨htt,rfl⟩,.inl ⟨rfl,rfl⟩⟩)⟩
      unfold doRR_D
      simp only[hk,bnd_some,decide_true,Bool.not_true,cond_false]
      unfold inR_D
      unfold pD at e1
      cases t<;>cases tog<;>first|exact absurd rfl htt|(simp only[cond_true,cond_false]at e1 e2 ⊢;(simp only[e1,e2,bnd_some,sumK_l,sumK_r,h8,clipT,takeAll,d33,d113,d1111,d311,eq_self,decide_true,decide_false,reduceCtorEq,Bool.not_true,Bool.not_false,cond_true,cond_false];try rfl))
    ·have:=pos _ f3
     obtain⟨s2,q2,e2⟩:=sayK_lost m ad rm t r1 n1 i1 k1 m1 t1 h1 b q ((w.drop 1).drop 1) f3 s1 (by omega)
     by_cases htt:t=tog
     ·refine⟨1,b,t,b::q,((w.drop 1).drop 1).drop 1,s2,?_,by omega,.inr (.inr ⟨b,q,rfl,.inl ⟨htt,rfl,rfl⟩,.inr ⟨rfl,rfl,by omega⟩⟩)⟩
      subst htt
      unfold doRR_D
      simp only[hk,bnd_some,decide_true,Bool.not_true,cond_false]
      unfold inR_D
      unfold pD at e1
      cases t<;>simp only[cond_true,cond_false]at e1 e2 ⊢ <;>(simp only[e1,e2,bnd_some,sumK_l,sumK_r,h8,clipT,takeAll,d33,d113,d1111,d311,eq_self,decide_true,decide_false,reduceCtorEq,Bool.not_true,Bool.not_false,cond_true,cond_false];try rfl)
     ·refine⟨6,[],t,b::q,((w.drop 1).drop 1).drop 1,s2,?_,by omega,.inr (.inr ⟨b,q,rfl,.inr ⟨htt,rfl⟩,.inr ⟨rfl,rfl,by omega⟩⟩)⟩
      unfold doRR_D
      simp only[hk,bnd_some,decide_true,Bool.not_true,cond_false]
      unfold inR_D
      unfold pD at e1
      cases t<;>cases tog<;>first|exact absurd rfl htt|(simp only[cond_true,cond_false]at e1 e2 ⊢;(simp only[e1,e2,bnd_some,sumK_l,sumK_r,h8,clipT,takeAll,d33,d113,d1111,d311,eq_self,decide_true,decide_false,reduceCtorEq,Bool.not_true,Bool.not_false,cond_true,cond_false];try rfl))
  ·have:=pos _ f2
   cases q with
   |nil=>
    obtain⟨s1,q1,e1⟩:=sayI_nakl m ad hc rm t r1 n1 i1 k1 m1 t1 h1 w f1 f2 [] (by simp)
    refine⟨4,[],t,[],(w.drop 1).drop 1,s1,?_,by omega,.inl ⟨rfl,rfl,rfl,by omega⟩⟩
    unfold doRR_D
    simp only[hk,bnd_some,decide_true,Bool.not_true,cond_false]
    unfold inR_D
    simp only[e1,bnd_some,sumK_l,sumK_r,cond_true,cond_false,clipT,takeAll]
    try rfl
   |cons b q=>
    have hb:b.length≤8:=hq b (by simp)
    obtain⟨s1,q1,e1⟩:=sayI_datal m ad hc rm t r1 n1 i1 k1 m1 t1 h1 b q hb w f1 f2 [] (by simp)
    refine⟨4,[],t,b::q,(w.drop 1).drop 1,s1,?_,by omega,.inl ⟨rfl,rfl,rfl,by omega⟩⟩
    unfold doRR_D
    simp only[hk,bnd_some,decide_true,Bool.not_true,cond_false]
    unfold inR_D
    simp only[e1,bnd_some,sumK_l,sumK_r,cond_true,cond_false,clipT,takeAll]
    try rfl
 ·have:=pos _ f1
  obtain⟨s1,q1,e1⟩:=sayI_lost m ad hc rm t r1 n1 i1 k1 m1 t1 h1 q w f1 [] (by simp)
  refine⟨4,[],t,q,w.drop 1,s1,?_,by omega,.inl ⟨rfl,rfl,rfl,by omega⟩⟩
  unfold doRR_D
  simp only[hk,bnd_some,decide_true,Bool.not_true,cond_false]
  unfold inR_D
  simp only[e1,bnd_some,sumK_l,sumK_r,cond_true,cond_false,Bool.not_false,clipT,takeAll]
  try rfl
end Go.Proofs.Ytngghkoghbpceaa
