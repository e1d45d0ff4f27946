/-
  A host that writes to an endpoint of a set, the plain law: what the endpoint takes, and what comes back.
  Conditions: none.
-/
import Derived.Test.YtngghkoghbpceaaDo9A
import Derived.Test.YtngghkoghbpceaaE9w
namespace Go.Proofs.Ytngghkoghbpceaa
set_option linter.unusedVariables false
set_option linter.unusedSimpArgs false
set_option maxRecDepth 100000
set_option maxHeartbeats 4000000
theorem eclone_eq(m:Nat)(b:List Int)(h:b.length≤100000):eclone_D m b=some (b,()):=by
 unfold eclone_D
 have hz:List.replicate (Int.toNat 0) (0:Int)= []:=rfl
 rw[mkA 1 _ true (by omega) (by omega) (by omega),hz,gr1 _ (by simp only[List.length_nil];omega)]
 rfl
abbrev ky:(Int×Bool×Unit)×(Int×Bool×Unit)×Unit:=((1,true,()),(1,false,()),())
def wr(tog t:Bool)(room:Int)(b:List Int):Int×Int×List (List Int)×Bool:=
 bif decide (tog=t)then(bif decide (room=0)then(10,room,[],t)else(2,Go.IntKind.wrap .i64 (room - 1),[b],!t))else(2,room,[],t)
theorem wr_pid(tog t:Bool)(room:Int)(b:List Int):(wr tog t room b).1=2∨(wr tog t room b).1=10∨(wr tog t room b).1=14:=by
 unfold wr
 cases decide (tog=t)
 ·exact .inl rfl
 ·cases decide (room=0)
  ·exact .inl rfl
  ·exact .inr (.inl rfl)
theorem hTok_eq(m:Nat)(ad:Int)(hc:pkChk_D m (pT 1 ad 1)=some (0,()))(r0 n0:Int)(i0:Bool)(k0 m0:Int)(t0 h0:Bool)(r1 n1:Int)(i1:Bool)(k1 m1:Int)(t1 h1:Bool):
  hTokW_D m ad 1 0 0 0 false false 0 [] true ad 1 true 1 false r0 n0 i0 k0 m0 t0 h0 r1 n1 i1 k1 m1 t1 h1=some (.inl ((zP,()),(true,ad,1,()),ky,(r0,n0,i0,k0,m0,t0,h0,()),(r1,n1,i1,k1,m1,t1,h1,()),())):=by
 unfold pT at hc
 unfold hTokW_D
 have e1:decide (decide ((1:Int)=9)=true)=false:=by decide
 have e2:decide (decide ((1:Int)=9)=false)=true:=by decide
 have e3:decide ((0:Int)<1)=true:=by decide
 simp only[hc,bnd_some,Bool.not_true,cond_false,decide_true,cond_true,e1,e2,e3,Bool.false_and,Bool.and_false,Bool.and_true]
 rfl
theorem spkT_lost(m:Nat)(ad:Int)(hc:pkChk_D m (pT 1 ad 1)=some (0,()))(r0 n0:Int)(i0:Bool)(k0 m0:Int)(t0 h0:Bool)(r1 n1:Int)(i1:Bool)(k1 m1:Int)(t1 h1:Bool)(w:List Int)(hf: ¬hdF w=0):
  ∃snt:List SntT,0<snt.length∧snt.length≤2∧(snt.getD 0 ftD).2.2.2.2.2.2.2.2.2.2.2.1=hdF w∧
   spkTW_D m ad 1 0 0 0 false false 0 [] true ad 1 true 1 false r0 n0 i0 k0 m0 t0 h0 r1 n1 i1 k1 m1 t1 h1 w=some (.inr ((zP,false,snt,()),(true,ad,()),ky,(r0,n0,i0,k0,m0,t0,h0,()),(r1,n1,i1,k1,m1,t1,h1,()),(w.drop 1,()),())):=by
 obtain⟨e,he,hs⟩:=send6_eq m (pT 1 ad 1) true w [] (by simp[pT]) (by simp)
 refine⟨[e],by simp,by simp,by simpa using he,?_⟩
 unfold pT at hs hc
 unfold spkTW_D
 simp only[hc,bnd_some,decide_true,Bool.not_true,cond_false,hs,dF hf,clipT,takeAll,List.nil_append,cond_true]
 all_goals rfl
theorem spkT_ok(m:Nat)(ad:Int)(hc:pkChk_D m (pT 1 ad 1)=some (0,()))(r0 n0:Int)(i0:Bool)(k0 m0:Int)(t0 h0:Bool)(r1 n1:Int)(i1:Bool)(k1 m1:Int)(t1 h1:Bool)(w:List Int)(hf:hdF w=0):
  ∃snt:List SntT,0<snt.length∧snt.length≤2∧(snt.getD 0 ftD).2.2.2.2.2.2.2.2.2.2.2.1=hdF w∧
   spkTW_D m ad 1 0 0 0 false false 0 [] true ad 1 true 1 false r0 n0 i0 k0 m0 t0 h0 r1 n1 i1 k1 m1 t1 h1 w=some (.inl ((zP,snt,()),(true,ad,1,()),ky,(r0,n0,i0,k0,m0,t0,h0,()),(r1,n1,i1,k1,m1,t1,h1,()),(w.drop 1,()),())):=by
 obtain⟨e,he,hs⟩:=send6_eq m (pT 1 ad 1) true w [] (by simp[pT]) (by simp)
 refine⟨[e],by simp,by simp,by simpa using he,?_⟩
 have hH:=hTok_eq m ad hc r0 n0 i0 k0 m0 t0 h0 r1 n1 i1 k1 m1 t1 h1
 unfold pT at hs hc
 unfold spkTW_D
 simp only[hc,bnd_some,decide_true,Bool.not_true,cond_false,hs,dT hf,clipT,takeAll,List.nil_append,cond_true,cloneB_eq m [] (by simp),hH,sumK_l]
 all_goals rfl
theorem sayT_lost(m:Nat)(ad:Int)(hc:pkChk_D m (pT 1 ad 1)=some (0,()))(r0 n0:Int)(i0:Bool)(k0 m0:Int)(t0 h0:Bool)(r1 n1:Int)(i1:Bool)(k1 m1:Int)(t1 h1:Bool)(w:List Int)(hf: ¬hdF w=0)(sent:List SntT)(hn:sent.length≤900):
  ∃sent2:List SntT,sent2.length≤sent.length+2∧sayTW_D m ad 1 0 0 0 false false 0 [] true ad 1 true 1 false r0 n0 i0 k0 m0 t0 h0 r1 n1 i1 k1 m1 t1 h1 w sent=some (.inr (.inr ((zP,false,()),(true,ad,()),ky,(r0,n0,i0,k0,m0,t0,h0,()),(r1,n1,i1,k1,m1,t1,h1,()),(w.drop 1,()),sent2,()))):=by
 obtain⟨snt,g0,g1,hft,h⟩:=spkT_lost m ad hc r0 n0 i0 k0 m0 t0 h0 r1 n1 i1 k1 m1 t1 h1 w hf
 refine⟨sent++snt,by simp only[List.length_append];omega,?_⟩
 unfold sayTW_D
 rw[h]
 simp only[bnd_some,sumK_r]
 rw[gr48 _ (by omega),dT (by omega:(0:Int)<(snt.length:Nat)),inT (by omega) (by omega:(0:Int)<(snt.length:Nat))]
 simp only[cond_true]
 rw[dF (show ¬(List.getD snt (Int.toNat 0) (0,0,0,0,0,0,false,false,0,[],false,0,())).snd.snd.snd.snd.snd.snd.snd.snd.snd.snd.snd.fst=0 from fun hh=>hf (hft.symm.trans hh))]
 rfl
theorem sayT_ok(m:Nat)(ad:Int)(hc:pkChk_D m (pT 1 ad 1)=some (0,()))(r0 n0:Int)(i0:Bool)(k0 m0:Int)(t0 h0:Bool)(r1 n1:Int)(i1:Bool)(k1 m1:Int)(t1 h1:Bool)(w:List Int)(hf:hdF w=0)(sent:List SntT)(hn:sent.length≤900):
  ∃sent2:List SntT,sent2.length≤sent.length+2∧sayTW_D m ad 1 0 0 0 false false 0 [] true ad 1 true 1 false r0 n0 i0 k0 m0 t0 h0 r1 n1 i1 k1 m1 t1 h1 w sent=some (.inl ((zP,()),(true,ad,1,()),ky,(r0,n0,i0,k0,m0,t0,h0,()),(r1,n1,i1,k1,m1,t1,h1,()),(w.drop 1,()),sent2,())):=by
 obtain⟨snt,g0,g1,hft,h⟩:=spkT_ok m ad hc r0 n0 i0 k0 m0 t0 h0 r1 n1 i1 k1 m1 t1 h1 w hf
 refine⟨sent++snt,by simp only[List.length_append];omega,?_⟩
 unfold sayTW_D
 rw[h]
 simp only[bnd_some,sumK_l]
 rw[gr48 _ (by omega),dT (by omega:(0:Int)<(snt.length:Nat)),inT (by omega) (by omega:(0:Int)<(snt.length:Nat))]
 simp only[cond_true]
 rw[dT (show(List.getD snt (Int.toNat 0) (0,0,0,0,0,0,false,false,0,[],false,0,())).snd.snd.snd.snd.snd.snd.snd.snd.snd.snd.snd.fst=0 from hft.trans hf)]
 rfl
theorem spkZ_eq(m:Nat)(p:Pkt)(w:List Int)(hc:pkChk_D m p=some (0,()))(hl:p.2.2.2.2.2.2.2.2.2.1.length≤1000000):
  ∃snt:List SntT,0<snt.length∧snt.length≤2∧spkZ_D m p w=some ((zP,false,snt,()),(w.drop 1,()),()):=by
 obtain⟨e,he,hs⟩:=send6_eq m p true w [] hl (by simp)
 refine⟨[e],by simp,by simp,?_⟩
 unfold spkZ_D
 by_cases hf:hdF w=0
 ·simp only[hc,bnd_some,decide_true,Bool.not_true,cond_false,hs,dT hf,clipT,takeAll,List.nil_append,cond_true]
  all_goals rfl
 ·simp only[hc,bnd_some,decide_true,Bool.not_true,cond_false,hs,dF hf,clipT,takeAll,List.nil_append,cond_true]
  all_goals rfl
theorem sayZ_eq(m:Nat)(p:Pkt)(w:List Int)(sent:List SntT)(hn:sent.length≤1000)(hc:pkChk_D m p=some (0,()))(hl:p.2.2.2.2.2.2.2.2.2.1.length≤1000000):
  ∃sent2:List SntT,sent2.length≤sent.length+2∧sayZ_D m p w sent=some ((zP,false,()),(w.drop 1,()),sent2,()):=by
 obtain⟨snt,h0,h1,h⟩:=spkZ_eq m p w hc hl
 refine⟨sent++snt,by simp only[List.length_append];omega,?_⟩
 unfold sayZ_D
 try unfold sayZ_J0
 rw[h]
 simp only[bnd_some]
 rw[gr48 _ (by omega),dT (by omega:(0:Int)<(snt.length:Nat)),inT (by omega) (by omega:(0:Int)<(snt.length:Nat))]
 simp only[cond_true]
 cases !decide ((List.getD snt (Int.toNat 0) (0,0,0,0,0,0,false,false,0,[],false,0,())).snd.snd.snd.snd.snd.snd.snd.snd.snd.snd.snd.fst=0)<;>rfl
theorem hD3_eq(m:Nat)(ad:Int)(b:List Int)(hb:b.length≤8)(r0 n0:Int)(i0:Bool)(k0 m0:Int)(t0 h0:Bool)(room:Int)(t:Bool):
  hD3W_D m 0 0 0 0 0 false false 0 b true ad 1 1 true 1 false r0 n0 i0 k0 m0 t0 h0 room 1 false 2 8 t false=some ((pD (wr false t room b).1 [],true,()),(true,ad,()),ky,(r0,n0,i0,k0,m0,t0,h0,()),((wr false t room b).2.1,(wr false t room b).2.2.1,1,false,2,8,(wr false t room b).2.2.2,false,()),()):=by
 have hc:=chk_data m 3 (by decide) b (by omega)
 have h8:decide ((8:Int)<(b.length:Int))=false:=dF (by omega)
 have e2:decide ((2:Int)=1)=false:=by decide
 have e3:decide ((3:Int)=11)=false:=by decide
 unfold pD at hc
 unfold hD3W_D wr
 simp only[hc,bnd_some,Bool.not_true,Bool.not_false,cond_false,decide_true,cond_true,h8,e2,e3,eclone_eq m b (by omega),List.nil_append]
 cases t
 ·by_cases hr:room=0
  ·simp only[dT hr,cond_true,cond_false,decide_true,Bool.not_true,Bool.not_false,reduceCtorEq,decide_false];rfl
  ·simp only[dF hr,cond_true,cond_false,decide_true,Bool.not_true,Bool.not_false,reduceCtorEq,decide_false];rfl
 ·by_cases hr:room=0
  ·simp only[dT hr,cond_true,cond_false,decide_true,Bool.not_true,Bool.not_false,reduceCtorEq,decide_false];rfl
  ·simp only[dF hr,cond_true,cond_false,decide_true,Bool.not_true,Bool.not_false,reduceCtorEq,decide_false];rfl
theorem spkD3_lost(m:Nat)(ad:Int)(b:List Int)(hb:b.length≤8)(r0 n0:Int)(i0:Bool)(k0 m0:Int)(t0 h0:Bool)(room:Int)(t:Bool)(w:List Int)(hf: ¬hdF w=0):
  ∃snt:List SntT,0<snt.length∧snt.length≤2∧(snt.getD 0 ftD).2.2.2.2.2.2.2.2.2.2.2.1=hdF w∧
   spkD3W_D m 0 0 0 0 0 false false 0 b true ad 1 1 true 1 false r0 n0 i0 k0 m0 t0 h0 room 1 false 2 8 t false w=some ((zP,false,snt,()),(true,ad,()),ky,(r0,n0,i0,k0,m0,t0,h0,()),(room,[],1,false,2,8,t,false,()),(w.drop 1,()),()):=by
 have hc:=chk_data m 3 (by decide) b (by omega)
 obtain⟨e,he,hs⟩:=send6_eq m (pD 3 b) true w [] (by simp[pD];omega) (by simp)
 refine⟨[e],by simp,by simp,by simpa using he,?_⟩
 unfold pD at hc hs
 unfold spkD3W_D
 simp only[hc,bnd_some,decide_true,Bool.not_true,cond_false,hs,dF hf,clipT,takeAll,List.nil_append,cond_true]
 all_goals rfl
theorem spkD3_ans(m:Nat)(ad:Int)(b:List Int)(hb:b.length≤8)(r0 n0:Int)(i0:Bool)(k0 m0:Int)(t0 h0:Bool)(room:Int)(t:Bool)(w:List Int)(hf:hdF w=0):
  ∃snt:List SntT,0<snt.length∧snt.length≤2∧(snt.getD 0 ftD).2.2.2.2.2.2.2.2.2.2.2.1=hdF w∧
   spkD3W_D m 0 0 0 0 0 false false 0 b true ad 1 1 true 1 false r0 n0 i0 k0 m0 t0 h0 room 1 false 2 8 t false w=some (((bif decide (hdF (w.drop 1)=0)then pD (wr false t room b).1 []else zP),decide (hdF (w.drop 1)=0),snt,()),(true,ad,()),ky,(r0,n0,i0,k0,m0,t0,h0,()),((wr false t room b).2.1,(wr false t room b).2.2.1,1,false,2,8,(wr false t room b).2.2.2,false,()),((w.drop 1).drop 1,()),()):=by
 have hc:=chk_data m 3 (by decide) b (by omega)
 have hH:=hD3_eq m ad b hb r0 n0 i0 k0 m0 t0 h0 room t
 have hp:=wr_pid false t room b
 generalize hW:wr false t room b=W at hH hp ⊢
 have hca:=chk_hand m W.1 hp
 obtain⟨e,he,hs⟩:=send6_eq m (pD 3 b) true w [] (by simp[pD];omega) (by simp)
 obtain⟨e2,he2,hs2⟩:=send6_eq m (pD W.1 []) false (w.drop 1) ([]++ [e]) (by simp[pD]) (by simp)
 refine⟨[]++ [e]++ [e2],by simp,by simp,by simpa using he,?_⟩
 unfold pD at hc hs
 unfold spkD3W_D
 by_cases h2:hdF (w.drop 1)=0
 ·simp only[hc,bnd_some,decide_true,Bool.not_true,cond_false,hs,dT hf,clipT,takeAll,cond_true,cloneB_eq m b (by omega),hH,hca,hs2,dT h2,pD,cloneB_eq m [] (by simp)]
  unfold pD at hca hs2
  simp only[hca,bnd_some,decide_true,cond_true,hs2,dT h2,clipT,takeAll,cloneB_eq m [] (by simp),List.length_nil]
  all_goals rfl
 ·simp only[hc,bnd_some,decide_true,Bool.not_true,cond_false,hs,dT hf,clipT,takeAll,cond_true,cloneB_eq m b (by omega),hH,hca,hs2,dF h2]
  all_goals rfl
theorem sayD3_lost(m:Nat)(ad:Int)(b:List Int)(hb:b.length≤8)(r0 n0:Int)(i0:Bool)(k0 m0:Int)(t0 h0:Bool)(room:Int)(t:Bool)(w:List Int)(hf: ¬hdF w=0)(sent:List SntT)(hn:sent.length≤900):
  ∃sent2:List SntT,sent2.length≤sent.length+2∧sayD3W_D m 0 0 0 0 0 false false 0 b true ad 1 1 true 1 false r0 n0 i0 k0 m0 t0 h0 room 1 false 2 8 t false w sent=some (.inr ((zP,false,()),(true,ad,()),ky,(r0,n0,i0,k0,m0,t0,h0,()),(room,[],1,false,2,8,t,false,()),(w.drop 1,()),sent2,())):=by
 obtain⟨snt,g0,g1,hft,h⟩:=spkD3_lost m ad b hb r0 n0 i0 k0 m0 t0 h0 room t w hf
 refine⟨sent++snt,by simp only[List.length_append];omega,?_⟩
 unfold sayD3W_D
 rw[h]
 simp only[bnd_some]
 rw[gr48 _ (by omega),dT (by omega:(0:Int)<(snt.length:Nat)),inT (by omega) (by omega:(0:Int)<(snt.length:Nat))]
 simp only[cond_true]
 rw[dF (show ¬(List.getD snt (Int.toNat 0) (0,0,0,0,0,0,false,false,0,[],false,0,())).snd.snd.snd.snd.snd.snd.snd.snd.snd.snd.snd.fst=0 from fun hh=>hf (hft.symm.trans hh))]
 rfl
theorem sayD3_ans(m:Nat)(ad:Int)(b:List Int)(hb:b.length≤8)(r0 n0:Int)(i0:Bool)(k0 m0:Int)(t0 h0:Bool)(room:Int)(t:Bool)(w:List Int)(hf:hdF w=0)(sent:List SntT)(hn:sent.length≤900):
  ∃sent2:List SntT,sent2.length≤sent.length+2∧sayD3W_D m 0 0 0 0 0 false false 0 b true ad 1 1 true 1 false r0 n0 i0 k0 m0 t0 h0 room 1 false 2 8 t false w sent=some (.inl (((bif decide (hdF (w.drop 1)=0)then pD (wr false t room b).1 []else zP),decide (hdF (w.drop 1)=0),()),(true,ad,()),ky,(r0,n0,i0,k0,m0,t0,h0,()),((wr false t room b).2.1,(wr false t room b).2.2.1,1,false,2,8,(wr false t room b).2.2.2,false,()),((w.drop 1).drop 1,()),sent2,())):=by
 obtain⟨snt,g0,g1,hft,h⟩:=spkD3_ans m ad b hb r0 n0 i0 k0 m0 t0 h0 room t w hf
 refine⟨sent++snt,by simp only[List.length_append];omega,?_⟩
 unfold sayD3W_D
 rw[h]
 simp only[bnd_some]
 rw[gr48 _ (by omega),dT (by omega:(0:Int)<(snt.length:Nat)),inT (by omega) (by omega:(0:Int)<(snt.length:Nat))]
 simp only[cond_true]
 rw[dT (show(List.getD snt (Int.toNat 0) (0,0,0,0,0,0,false,false,0,[],false,0,())).snd.snd.snd.snd.snd.snd.snd.snd.snd.snd.snd.fst=0 from hft.trans hf)]
 rfl
theorem doW3_eq(m:Nat)(ad:Int)(hc:pkChk_D m (pT 1 ad 1)=some (0,()))(b:List Int)(hb:b.length≤8)(hk:tchk6_D m (ad,1,1,false,false,0,b,())=some (0,()))(r0 n0:Int)(i0:Bool)(k0 m0:Int)(t0 h0:Bool)(room:Int)(t:Bool)(w:List Int):
  ∃(r:Int) (w2:List Int) (sent:List SntT) (hit:Bool),doWW_D m ad 1 false false 0 b true ad 1 true 1 false r0 n0 i0 k0 m0 t0 h0 room 1 false 2 8 t false w=some (((r,[],()),sent,()),(true,ad,()),ky,(r0,n0,i0,k0,m0,t0,h0,()),(bif hit then((wr false t room b).2.1,(wr false t room b).2.2.1,1,false,2,8,(wr false t room b).2.2.2,false,())else(room,[],1,false,2,8,t,false,())),(w2,()),())∧
   w2.length≤w.length∧(hit=false→r=4∧w2.length<w.length)∧(hit=true→(r=4∧w2.length<w.length)∨r=bif decide ((wr false t room b).1=10)then 2 else 1):=by
 have hcd:=chk_data m 3 (by decide) b (by omega)
 have hd1:(w.drop 1).length=w.length - 1:=by simp
 have hd2:((w.drop 1).drop 1).length=w.length - 2:=by simp only[List.length_drop];omega
 have hd3:(((w.drop 1).drop 1).drop 1).length=w.length - 3:=by simp only[List.length_drop];omega
 by_cases f1:hdF w=0
 ·obtain⟨s1,q1,e1⟩:=sayT_ok m ad hc r0 n0 i0 k0 m0 t0 h0 room 1 false 2 8 t false w f1 [] (by simp)
  have q1':s1.length≤2:=by simpa using q1
  by_cases f2:hdF (w.drop 1)=0
  ·obtain⟨s2,q2,e2⟩:=sayD3_ans m ad b hb r0 n0 i0 k0 m0 t0 h0 room t (w.drop 1) f2 s1 (by omega)
   have hp:(wr false t room b).1=2∨(wr false t room b).1=10:=by
    unfold wr
    cases decide (false=t)
    ·exact .inl rfl
    ·cases decide (room=0)
     ·exact .inl rfl
     ·exact .inr rfl
   refine⟨bif decide (hdF ((w.drop 1).drop 1)=0)then(bif decide ((wr false t room b).1=10)then 2 else 1)else 4,((w.drop 1).drop 1).drop 1,s2,true,?_,by omega,by simp,fun _=> ?_⟩
   ·generalize wr false t room b=W at e2 hp ⊢
    unfold doWW_D
    simp only[hk,bnd_some,decide_true,Bool.not_true,cond_false]
    unfold outW_D
    simp only[e1,bnd_some,sumK_l,cond_true,cond_false]
    by_cases f3:hdF ((w.drop 1).drop 1)=0
    ·simp only[dT f3,cond_true]at e2 ⊢
     simp only[e2,bnd_some,sumK_l,Bool.not_true,cond_false,pD]
     rcases hp with hp|hp
     ·rw[hp,hands_ack]
      simp only[bnd_some,sumK_l,clipT,takeAll,cond_true]
      rfl
     ·rw[hp,hands_nak]
      simp only[bnd_some,sumK_l,clipT,takeAll,cond_true]
      rfl
    ·simp only[dF f3,cond_false]at e2 ⊢
     simp only[e2,bnd_some,sumK_l,Bool.not_false,cond_true,clipT,takeAll]
     try rfl
   ·by_cases f3:hdF ((w.drop 1).drop 1)=0
    ·rw[dT f3];exact .inr rfl
    ·have:0<((w.drop 1).drop 1).length:=by
      cases hh:(w.drop 1).drop 1 with
      |nil=>rw[hh]at f3;exact absurd rfl f3
      |cons a l=>simp
     rw[dF f3];exact .inl ⟨rfl,by omega⟩
  ·obtain⟨s2,q2,e2⟩:=sayD3_lost m ad b hb r0 n0 i0 k0 m0 t0 h0 room t (w.drop 1) f2 s1 (by omega)
   have:0<(w.drop 1).length:=by
    cases hh:w.drop 1 with
    |nil=>rw[hh]at f2;exact absurd rfl f2
    |cons a l=>simp
   refine⟨4,(w.drop 1).drop 1,s2,false,?_,by omega,fun _=>⟨rfl,by omega⟩,by simp⟩
   unfold doWW_D
   simp only[hk,bnd_some,decide_true,Bool.not_true,cond_false]
   unfold outW_D
   simp only[e1,bnd_some,sumK_l,cond_true,cond_false,e2,sumK_r,Bool.not_false,clipT,takeAll]
   try rfl
 ·obtain⟨s1,q1,e1⟩:=sayT_lost m ad hc r0 n0 i0 k0 m0 t0 h0 room 1 false 2 8 t false w f1 [] (by simp)
  have q1':s1.length≤2:=by simpa using q1
  obtain⟨s2,q2,e2⟩:=sayZ_eq m (pD 3 b) (w.drop 1) s1 (by omega) hcd (by simp[pD];omega)
  have:0<w.length:=by
   cases hh:w with
   |nil=>rw[hh]at f1;exact absurd rfl f1
   |cons a l=>simp
  refine⟨4,(w.drop 1).drop 1,s2,false,?_,by omega,fun _=>⟨rfl,by omega⟩,by simp⟩
  unfold pD at e2
  unfold doWW_D
  simp only[hk,bnd_some,decide_true,Bool.not_true,cond_false]
  unfold outW_D
  simp only[e1,bnd_some,sumK_r,cond_true,cond_false,e2,Bool.not_false,clipT,takeAll]
  try rfl
theorem hD11_eq(m:Nat)(ad:Int)(b:List Int)(hb:b.length≤8)(r0 n0:Int)(i0:Bool)(k0 m0:Int)(t0 h0:Bool)(room:Int)(t:Bool):
  hD11W_D m 0 0 0 0 0 false false 0 b true ad 1 1 true 1 false r0 n0 i0 k0 m0 t0 h0 room 1 false 2 8 t false=some ((pD (wr true t room b).1 [],true,()),(true,ad,()),ky,(r0,n0,i0,k0,m0,t0,h0,()),((wr true t room b).2.1,(wr true t room b).2.2.1,1,false,2,8,(wr true t room b).2.2.2,false,()),()):=by
 have hc:=chk_data m 11 (by decide) b (by omega)
 have h8:decide ((8:Int)<(b.length:Int))=false:=dF (by omega)
 have e2:decide ((2:Int)=1)=false:=by decide
 have e3:decide ((3:Int)=11)=false:=by decide
 unfold pD at hc
 unfold hD11W_D wr
 simp only[hc,bnd_some,Bool.not_true,Bool.not_false,cond_false,decide_true,cond_true,h8,e2,e3,eclone_eq m b (by omega),List.nil_append]
 cases t
 ·by_cases hr:room=0
  ·simp only[dT hr,cond_true,cond_false,decide_true,Bool.not_true,Bool.not_false,reduceCtorEq,decide_false];rfl
  ·simp only[dF hr,cond_true,cond_false,decide_true,Bool.not_true,Bool.not_false,reduceCtorEq,decide_false];rfl
 ·by_cases hr:room=0
  ·simp only[dT hr,cond_true,cond_false,decide_true,Bool.not_true,Bool.not_false,reduceCtorEq,decide_false];rfl
  ·simp only[dF hr,cond_true,cond_false,decide_true,Bool.not_true,Bool.not_false,reduceCtorEq,decide_false];rfl
theorem spkD11_lost(m:Nat)(ad:Int)(b:List Int)(hb:b.length≤8)(r0 n0:Int)(i0:Bool)(k0 m0:Int)(t0 h0:Bool)(room:Int)(t:Bool)(w:List Int)(hf: ¬hdF w=0):
  ∃snt:List SntT,0<snt.length∧snt.length≤2∧(snt.getD 0 ftD).2.2.2.2.2.2.2.2.2.2.2.1=hdF w∧
   spkD11W_D m 0 0 0 0 0 false false 0 b true ad 1 1 true 1 false r0 n0 i0 k0 m0 t0 h0 room 1 false 2 8 t false w=some ((zP,false,snt,()),(true,ad,()),ky,(r0,n0,i0,k0,m0,t0,h0,()),(room,[],1,false,2,8,t,false,()),(w.drop 1,()),()):=by
 have hc:=chk_data m 11 (by decide) b (by omega)
 obtain⟨e,he,hs⟩:=send6_eq m (pD 11 b) true w [] (by simp[pD];omega) (by simp)
 refine⟨[e],by simp,by simp,by simpa using he,?_⟩
 unfold pD at hc hs
 unfold spkD11W_D
 simp only[hc,bnd_some,decide_true,Bool.not_true,cond_false,hs,dF hf,clipT,takeAll,List.nil_append,cond_true]
 all_goals rfl
theorem spkD11_ans(m:Nat)(ad:Int)(b:List Int)(hb:b.length≤8)(r0 n0:Int)(i0:Bool)(k0 m0:Int)(t0 h0:Bool)(room:Int)(t:Bool)(w:List Int)(hf:hdF w=0):
  ∃snt:List SntT,0<snt.length∧snt.length≤2∧(snt.getD 0 ftD).2.2.2.2.2.2.2.2.2.2.2.1=hdF w∧
   spkD11W_D m 0 0 0 0 0 false false 0 b true ad 1 1 true 1 false r0 n0 i0 k0 m0 t0 h0 room 1 false 2 8 t false w=some (((bif decide (hdF (w.drop 1)=0)then pD (wr true t room b).1 []else zP),decide (hdF (w.drop 1)=0),snt,()),(true,ad,()),ky,(r0,n0,i0,k0,m0,t0,h0,()),((wr true t room b).2.1,(wr true t room b).2.2.1,1,false,2,8,(wr true t room b).2.2.2,false,()),((w.drop 1).drop 1,()),()):=by
 have hc:=chk_data m 11 (by decide) b (by omega)
 have hH:=hD11_eq m ad b hb r0 n0 i0 k0 m0 t0 h0 room t
 have hp:=wr_pid true t room b
 generalize hW:wr true t room b=W at hH hp ⊢
 have hca:=chk_hand m W.1 hp
 obtain⟨e,he,hs⟩:=send6_eq m (pD 11 b) true w [] (by simp[pD];omega) (by simp)
 obtain⟨e2,he2,hs2⟩:=send6_eq m (pD W.1 []) false (w.drop 1) ([]++ [e]) (by simp[pD]) (by simp)
 refine⟨[]++ [e]++ [e2],by simp,by simp,by simpa using he,?_⟩
 unfold pD at hc hs
 unfold spkD11W_D
 by_cases h2:hdF (w.drop 1)=0
 ·simp only[hc,bnd_some,decide_true,Bool.not_true,cond_false,hs,dT hf,clipT,takeAll,cond_true,cloneB_eq m b (by omega),hH,hca,hs2,dT h2,pD,cloneB_eq m [] (by simp)]
  unfold pD at hca hs2
  simp only[hca,bnd_some,decide_true,cond_true,hs2,dT h2,clipT,takeAll,cloneB_eq m [] (by simp),List.length_nil]
  all_goals rfl
 ·simp only[hc,bnd_some,decide_true,Bool.not_true,cond_false,hs,dT hf,clipT,takeAll,cond_true,cloneB_eq m b (by omega),hH,hca,hs2,dF h2]
  all_goals rfl
theorem sayD11_lost(m:Nat)(ad:Int)(b:List Int)(hb:b.length≤8)(r0 n0:Int)(i0:Bool)(k0 m0:Int)(t0 h0:Bool)(room:Int)(t:Bool)(w:List Int)(hf: ¬hdF w=0)(sent:List SntT)(hn:sent.length≤900):
  ∃sent2:List SntT,sent2.length≤sent.length+2∧sayD11W_D m 0 0 0 0 0 false false 0 b true ad 1 1 true 1 false r0 n0 i0 k0 m0 t0 h0 room 1 false 2 8 t false w sent=some (.inr ((zP,false,()),(true,ad,()),ky,(r0,n0,i0,k0,m0,t0,h0,()),(room,[],1,false,2,8,t,false,()),(w.drop 1,()),sent2,())):=by
 obtain⟨snt,g0,g1,hft,h⟩:=spkD11_lost m ad b hb r0 n0 i0 k0 m0 t0 h0 room t w hf
 refine⟨sent++snt,by simp only[List.length_append];omega,?_⟩
 unfold sayD11W_D
 rw[h]
 simp only[bnd_some]
 rw[gr48 _ (by omega),dT (by omega:(0:Int)<(snt.length:Nat)),inT (by omega) (by omega:(0:Int)<(snt.length:Nat))]
 simp only[cond_true]
 rw[dF (show ¬(List.getD snt (Int.toNat 0) (0,0,0,0,0,0,false,false,0,[],false,0,())).snd.snd.snd.snd.snd.snd.snd.snd.snd.snd.snd.fst=0 from fun hh=>hf (hft.symm.trans hh))]
 rfl
theorem sayD11_ans(m:Nat)(ad:Int)(b:List Int)(hb:b.length≤8)(r0 n0:Int)(i0:Bool)(k0 m0:Int)(t0 h0:Bool)(room:Int)(t:Bool)(w:List Int)(hf:hdF w=0)(sent:List SntT)(hn:sent.length≤900):
  ∃sent2:List SntT,sent2.length≤sent.length+2∧sayD11W_D m 0 0 0 0 0 false false 0 b true ad 1 1 true 1 false r0 n0 i0 k0 m0 t0 h0 room 1 false 2 8 t false w sent=some (.inl (((bif decide (hdF (w.drop 1)=0)then pD (wr true t room b).1 []else zP),decide (hdF (w.drop 1)=0),()),(true,ad,()),ky,(r0,n0,i0,k0,m0,t0,h0,()),((wr true t room b).2.1,(wr true t room b).2.2.1,1,false,2,8,(wr true t room b).2.2.2,false,()),((w.drop 1).drop 1,()),sent2,())):=by
 obtain⟨snt,g0,g1,hft,h⟩:=spkD11_ans m ad b hb r0 n0 i0 k0 m0 t0 h0 room t w hf
 refine⟨sent++snt,by simp only[List.length_append];omega,?_⟩
 unfold sayD11W_D
 rw[h]
 simp only[bnd_some]
 rw[gr48 _ (by omega),dT (by omega:(0:Int)<(snt.length:Nat)),inT (by omega) (by omega:(0:Int)<(snt.length:Nat))]
 simp only[cond_true]
 rw[dT (show(List.getD snt (Int.toNat 0) (0,0,0,0,0,0,false,false,0,[],false,0,())).snd.snd.snd.snd.snd.snd.snd.snd.snd.snd.snd.fst=0 from hft.trans hf)]
 rfl
theorem doW11_eq(m:Nat)(ad:Int)(hc:pkChk_D m (pT 1 ad 1)=some (0,()))(b:List Int)(hb:b.length≤8)(hk:tchk6_D m (ad,1,1,true,false,0,b,())=some (0,()))(r0 n0:Int)(i0:Bool)(k0 m0:Int)(t0 h0:Bool)(room:Int)(t:Bool)(w:List Int):
  ∃(r:Int) (w2:List Int) (sent:List SntT) (hit:Bool),doWW_D m ad 1 true false 0 b true ad 1 true 1 false r0 n0 i0 k0 m0 t0 h0 room 1 false 2 8 t false w=some (((r,[],()),sent,()),(true,ad,()),ky,(r0,n0,i0,k0,m0,t0,h0,()),(bif hit then((wr true t room b).2.1,(wr true t room b).2.2.1,1,false,2,8,(wr true t room b).2.2.2,false,())else(room,[],1,false,2,8,t,false,())),(w2,()),())∧
   w2.length≤w.length∧(hit=false→r=4∧w2.length<w.length)∧(hit=true→(r=4∧w2.length<w.length)∨r=bif decide ((wr true t room b).1=10)then 2 else 1):=by
 have hcd:=chk_data m 11 (by decide) b (by omega)
 have hd1:(w.drop 1).length=w.length - 1:=by simp
 have hd2:((w.drop 1).drop 1).length=w.length - 2:=by simp only[List.length_drop];omega
 have hd3:(((w.drop 1).drop 1).drop 1).length=w.length - 3:=by simp only[List.length_drop];omega
 by_cases f1:hdF w=0
 ·obtain⟨s1,q1,e1⟩:=sayT_ok m ad hc r0 n0 i0 k0 m0 t0 h0 room 1 false 2 8 t false w f1 [] (by simp)
  have q1':s1.length≤2:=by simpa using q1
  by_cases f2:hdF (w.drop 1)=0
  ·obtain⟨s2,q2,e2⟩:=sayD11_ans m ad b hb r0 n0 i0 k0 m0 t0 h0 room t (w.drop 1) f2 s1 (by omega)
   have hp:(wr true t room b).1=2∨(wr true t room b).1=10:=by
    unfold wr
    cases decide (true=t)
    ·exact .inl rfl
    ·cases decide (room=0)
     ·exact .inl rfl
     ·exact .inr rfl
   refine⟨bif decide (hdF ((w.drop 1).drop 1)=0)then(bif decide ((wr true t room b).1=10)then 2 else 1)else 4,((w.drop 1).drop 1).drop 1,s2,true,?_,by omega,by simp,fun _=> ?_⟩
   ·generalize wr true t room b=W at e2 hp ⊢
    unfold doWW_D
    simp only[hk,bnd_some,decide_true,Bool.not_true,cond_false]
    unfold outW_D
    simp only[e1,bnd_some,sumK_l,cond_true,cond_false]
    by_cases f3:hdF ((w.drop 1).drop 1)=0
    ·simp only[dT f3,cond_true]at e2 ⊢
     simp only[e2,bnd_some,sumK_l,Bool.not_true,cond_false,pD]
     rcases hp with hp|hp
     ·rw[hp,hands_ack]
      simp only[bnd_some,sumK_l,clipT,takeAll,cond_true]
      rfl
     ·rw[hp,hands_nak]
      simp only[bnd_some,sumK_l,clipT,takeAll,cond_true]
      rfl
    ·simp only[dF f3,cond_false]at e2 ⊢
     simp only[e2,bnd_some,sumK_l,Bool.not_false,cond_true,clipT,takeAll]
     try rfl
   ·by_cases f3:hdF ((w.drop 1).drop 1)=0
    ·rw[dT f3];exact .inr rfl
    ·have:0<((w.drop 1).drop 1).length:=by
      cases hh:(w.drop 1).drop 1 with
      |nil=>rw[hh]at f3;exact absurd rfl f3
      |cons a l=>simp
     rw[dF f3];exact .inl ⟨rfl,by omega⟩
  ·obtain⟨s2,q2,e2⟩:=sayD11_lost m ad b hb r0 n0 i0 k0 m0 t0 h0 room t (w.drop 1) f2 s1 (by omega)
   have:0<(w.drop 1).length:=by
    cases hh:w.drop 1 with
    |nil=>rw[hh]at f2;exact absurd rfl f2
    |cons a l=>simp
   refine⟨4,(w.drop 1).drop 1,s2,false,?_,by omega,fun _=>⟨rfl,by omega⟩,by simp⟩
   unfold doWW_D
   simp only[hk,bnd_some,decide_true,Bool.not_true,cond_false]
   unfold outW_D
   simp only[e1,bnd_some,sumK_l,cond_true,cond_false,e2,sumK_r,Bool.not_false,clipT,takeAll]
   try rfl
 ·obtain⟨s1,q1,e1⟩:=sayT_lost m ad hc r0 n0 i0 k0 m0 t0 h0 room 1 false 2 8 t false w f1 [] (by simp)
  have q1':s1.length≤2:=by simpa using q1
  obtain⟨s2,q2,e2⟩:=sayZ_eq m (pD 11 b) (w.drop 1) s1 (by omega) hcd (by simp[pD];omega)
  have:0<w.length:=by
   cases hh:w with
   |nil=>rw[hh]at f1;exact absurd rfl f1
   |cons a l=>simp
  refine⟨4,(w.drop 1).drop 1,s2,false,?_,by omega,fun _=>⟨rfl,by omega⟩,by simp⟩
  unfold pD at e2
  unfold doWW_D
  simp only[hk,bnd_some,decide_true,Bool.not_true,cond_false]
  unfold outW_D
  simp only[e1,bnd_some,sumK_r,cond_true,cond_false,e2,Bool.not_false,clipT,takeAll]
  try rfl
theorem doW_eq(m:Nat)(ad:Int)(hc:pkChk_D m (pT 1 ad 1)=some (0,()))(tog:Bool)(b:List Int)(hb:b.length≤8)(hk:tchk6_D m (ad,1,1,tog,false,0,b,())=some (0,()))(r0 n0:Int)(i0:Bool)(k0 m0:Int)(t0 h0:Bool)(room:Int)(t:Bool)(w:List Int):
  ∃(r:Int) (w2:List Int) (sent:List SntT) (hit:Bool),doWW_D m ad 1 tog false 0 b true ad 1 true 1 false r0 n0 i0 k0 m0 t0 h0 room 1 false 2 8 t false w=some (((r,[],()),sent,()),(true,ad,()),ky,(r0,n0,i0,k0,m0,t0,h0,()),(bif hit then((wr tog t room b).2.1,(wr tog t room b).2.2.1,1,false,2,8,(wr tog t room b).2.2.2,false,())else(room,[],1,false,2,8,t,false,())),(w2,()),())∧
   w2.length≤w.length∧(hit=false→r=4∧w2.length<w.length)∧(hit=true→(r=4∧w2.length<w.length)∨r=bif decide ((wr tog t room b).1=10)then 2 else 1):=by
 cases tog
 ·exact doW3_eq m ad hc b hb hk r0 n0 i0 k0 m0 t0 h0 room t w
 ·exact doW11_eq m ad hc b hb hk r0 n0 i0 k0 m0 t0 h0 room t w
end Go.Proofs.Ytngghkoghbpceaa
