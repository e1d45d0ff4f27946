/-
  A host's transactions with a device, the plain law: what a device hears, and what comes back.
  Conditions: none.
-/
import Derived.Test.YtngghkoghbpceaaN8p
import Derived.Test.YtngghkoghbpceaaDoF
namespace Go.Proofs.Ytngghkoghbpceaa
set_option linter.unusedVariables false
set_option linter.unusedSimpArgs false
set_option maxRecDepth 100000
set_option maxHeartbeats 4000000
abbrev XsW:Type:=ZwT×(Int×List Int×Unit)×List ClT×List Int×Unit
abbrev StW:Type:=(Bool×Int×Int×Unit)×XsW
theorem do_finW{A B C D E:Type}(o:Int×List Int×Unit)(a:A)(b:B)(c:C)(d:D)(e:E)(w:List Int)(sent:List SntT):
  (bif decide ((0:Int)≤(sent.length:Nat))&&(decide (((sent.length:Nat):Int)≤(sent.length:Nat))&&decide (Int.toNat ((sent.length:Nat):Int)≤sent.length))then some ((o,List.take (Int.toNat ((sent.length:Nat):Int)) sent,()),a,b,c,d,e,(w,()),())else none)=some ((o,sent,()),a,b,c,d,e,(w,()),()):=by
 rw[clipT,takeAll];rfl
abbrev hearWs(m:Nat)(p:Pkt)(s:StW):=hearW_D m p s.1.1 s.1.2.1 s.1.2.2.1 s.2.1.1 s.2.1.2.1 s.2.1.2.2.1 s.2.1.2.2.2.1 s.2.1.2.2.2.2.1 s.2.1.2.2.2.2.2.1 s.2.1.2.2.2.2.2.2.1 s.2.1.2.2.2.2.2.2.2.1 s.2.1.2.2.2.2.2.2.2.2.1 s.2.1.2.2.2.2.2.2.2.2.2.1 s.2.1.2.2.2.2.2.2.2.2.2.2.1 s.2.1.2.2.2.2.2.2.2.2.2.2.2.1 s.2.1.2.2.2.2.2.2.2.2.2.2.2.2.1 s.2.1.2.2.2.2.2.2.2.2.2.2.2.2.2.1 s.2.2.1.1 s.2.2.1.2.1 s.2.2.2.1 s.2.2.2.2.1
abbrev zhrWs(m:Nat)(k:Int)(p:Pkt)(x:XsW):=zhrW_D m k p x.1.1 x.1.2.1 x.1.2.2.1 x.1.2.2.2.1 x.1.2.2.2.2.1 x.1.2.2.2.2.2.1 x.1.2.2.2.2.2.2.1 x.1.2.2.2.2.2.2.2.1 x.1.2.2.2.2.2.2.2.2.1 x.1.2.2.2.2.2.2.2.2.2.1 x.1.2.2.2.2.2.2.2.2.2.2.1 x.1.2.2.2.2.2.2.2.2.2.2.2.1 x.1.2.2.2.2.2.2.2.2.2.2.2.2.1 x.1.2.2.2.2.2.2.2.2.2.2.2.2.2.1 x.2.1.1 x.2.1.2.1 x.2.2.1 x.2.2.2.1
abbrev spkWs(m:Nat)(p:Pkt)(s:StW)(w:List Int):=spkW_D m p s.1.1 s.1.2.1 s.1.2.2.1 s.2.1.1 s.2.1.2.1 s.2.1.2.2.1 s.2.1.2.2.2.1 s.2.1.2.2.2.2.1 s.2.1.2.2.2.2.2.1 s.2.1.2.2.2.2.2.2.1 s.2.1.2.2.2.2.2.2.2.1 s.2.1.2.2.2.2.2.2.2.2.1 s.2.1.2.2.2.2.2.2.2.2.2.1 s.2.1.2.2.2.2.2.2.2.2.2.2.1 s.2.1.2.2.2.2.2.2.2.2.2.2.2.1 s.2.1.2.2.2.2.2.2.2.2.2.2.2.2.1 s.2.1.2.2.2.2.2.2.2.2.2.2.2.2.2.1 s.2.2.1.1 s.2.2.1.2.1 s.2.2.2.1 s.2.2.2.2.1 w
abbrev sayWs(m:Nat)(p:Pkt)(s:StW)(w:List Int)(t:List SntT):=sayW_D m p s.1.1 s.1.2.1 s.1.2.2.1 s.2.1.1 s.2.1.2.1 s.2.1.2.2.1 s.2.1.2.2.2.1 s.2.1.2.2.2.2.1 s.2.1.2.2.2.2.2.1 s.2.1.2.2.2.2.2.2.1 s.2.1.2.2.2.2.2.2.2.1 s.2.1.2.2.2.2.2.2.2.2.1 s.2.1.2.2.2.2.2.2.2.2.2.1 s.2.1.2.2.2.2.2.2.2.2.2.2.1 s.2.1.2.2.2.2.2.2.2.2.2.2.2.1 s.2.1.2.2.2.2.2.2.2.2.2.2.2.2.1 s.2.1.2.2.2.2.2.2.2.2.2.2.2.2.2.1 s.2.2.1.1 s.2.2.1.2.1 s.2.2.2.1 s.2.2.2.2.1 w t
abbrev doWs(m:Nat)(t:TryT)(s:StW)(w:List Int):=doW_D m t s.1.1 s.1.2.1 s.1.2.2.1 s.2.1.1 s.2.1.2.1 s.2.1.2.2.1 s.2.1.2.2.2.1 s.2.1.2.2.2.2.1 s.2.1.2.2.2.2.2.1 s.2.1.2.2.2.2.2.2.1 s.2.1.2.2.2.2.2.2.2.1 s.2.1.2.2.2.2.2.2.2.2.1 s.2.1.2.2.2.2.2.2.2.2.2.1 s.2.1.2.2.2.2.2.2.2.2.2.2.1 s.2.1.2.2.2.2.2.2.2.2.2.2.2.1 s.2.1.2.2.2.2.2.2.2.2.2.2.2.2.1 s.2.1.2.2.2.2.2.2.2.2.2.2.2.2.2.1 s.2.2.1.1 s.2.2.1.2.1 s.2.2.2.1 s.2.2.2.2.1 w
theorem spkW_lost(m:Nat)(p:Pkt)(s:StW)(w:List Int)(hc:pkChk_D m p=some (0,()))(hl:p.2.2.2.2.2.2.2.2.2.1.length≤1000000)(hf: ¬hdF w=0):
  ∃snt:List SntT,0<snt.length∧snt.length≤2∧(snt.getD 0 ftD).2.2.2.2.2.2.2.2.2.2.2.1=hdF w∧spkWs m p s w=some ((zP,false,snt,()),s.1,s.2.1,s.2.2.1,s.2.2.2.1,s.2.2.2.2.1,(w.drop 1,()),()):=by
 obtain⟨e,he,hs⟩:=send6_eq m p true w [] hl (by simp)
 refine⟨[e],by simp,by simp,by simpa using he,?_⟩
 unfold spkWs spkW_D
 simp only[hc,bns,decide_true,Bool.not_true,cond_false,hs,dF hf,clipT,takeAll,List.nil_append,cond_true]
 all_goals rfl
theorem spkW_mute(m:Nat)(p:Pkt)(s s':StW)(w:List Int)(a:Pkt)(hc:pkChk_D m p=some (0,()))(hl:p.2.2.2.2.2.2.2.2.2.1.length≤1000000)(hf:hdF w=0)(hH:hearWs m p s=some ((a,false,()),s')):
  ∃snt:List SntT,0<snt.length∧snt.length≤2∧(snt.getD 0 ftD).2.2.2.2.2.2.2.2.2.2.2.1=hdF w∧spkWs m p s w=some ((zP,false,snt,()),s'.1,s'.2.1,s'.2.2.1,s'.2.2.2.1,s'.2.2.2.2.1,(w.drop 1,()),()):=by
 obtain⟨e,he,hs⟩:=send6_eq m p true w [] hl (by simp)
 refine⟨[e],by simp,by simp,by simpa using he,?_⟩
 obtain⟨p0,p1,p2,p3,p4,p5,p6,p7,p8,b,⟨⟩⟩:=p
 simp only at hl
 unfold hearWs at hH
 unfold spkWs spkW_D
 simp only[hc,bns,decide_true,Bool.not_true,cond_false,hs,dT hf,clipT,takeAll,List.nil_append,cond_true,cloneB_eq m b hl,hH]
 all_goals rfl
theorem spkW_ans(m:Nat)(p:Pkt)(s s':StW)(w:List Int)(a:Pkt)(hc:pkChk_D m p=some (0,()))(hl:p.2.2.2.2.2.2.2.2.2.1.length≤1000000)(hf:hdF w=0)(hH:hearWs m p s=some ((a,true,()),s'))(hca:pkChk_D m a=some (0,()))(hla:a.2.2.2.2.2.2.2.2.2.1.length≤1000000):
  ∃snt:List SntT,0<snt.length∧snt.length≤2∧(snt.getD 0 ftD).2.2.2.2.2.2.2.2.2.2.2.1=hdF w∧
   spkWs m p s w=some (((bif decide (hdF (w.drop 1)=0)then a else zP),decide (hdF (w.drop 1)=0),snt,()),s'.1,s'.2.1,s'.2.2.1,s'.2.2.2.1,s'.2.2.2.2.1,((w.drop 1).drop 1,()),()):=by
 obtain⟨e,he,hs⟩:=send6_eq m p true w [] hl (by simp)
 obtain⟨e2,he2,hs2⟩:=send6_eq m a false (w.drop 1) ([]++ [e]) hla (by simp)
 refine⟨[]++ [e]++ [e2],by simp,by simp,by simpa using he,?_⟩
 obtain⟨p0,p1,p2,p3,p4,p5,p6,p7,p8,b,⟨⟩⟩:=p
 obtain⟨a0,a1,a2,a3,a4,a5,a6,a7,a8,ab,⟨⟩⟩:=a
 simp only at hl hla
 unfold hearWs at hH
 unfold spkWs spkW_D
 by_cases h2:hdF (w.drop 1)=0
 ·simp only[hc,bns,decide_true,Bool.not_true,cond_false,hs,dT hf,clipT,takeAll,cond_true,cloneB_eq m b hl,hH,hca,hs2,dT h2,cloneB_eq m ab hla]
  all_goals rfl
 ·simp only[hc,bns,decide_true,Bool.not_true,cond_false,hs,dT hf,clipT,takeAll,cond_true,cloneB_eq m b hl,hH,hca,hs2,dF h2]
  all_goals rfl
theorem sayW_inl(m:Nat)(p:Pkt)(s s':StW)(w w':List Int)(sent snt:List SntT)(a:Pkt)(ok:Bool)(hn:sent.length≤1000)(h0:0<snt.length)(h1:snt.length≤2)(hf:(snt.getD 0 ftD).2.2.2.2.2.2.2.2.2.2.2.1=0)
  (h:spkWs m p s w=some ((a,ok,snt,()),s'.1,s'.2.1,s'.2.2.1,s'.2.2.2.1,s'.2.2.2.2.1,(w',()),())):sayWs m p s w sent=some (.inl ((a,ok,()),s'.1,s'.2.1,s'.2.2.1,s'.2.2.2.1,s'.2.2.2.2.1,(w',()),sent++snt,())):=by
 unfold sayWs sayW_D sayW_J0
 unfold spkWs at h
 rw[h]
 simp only[bns]
 rw[gr48 _ (by omega),dT (by omega:(0:Int)<(snt.length:Nat)),inT (by omega) (by omega:(0:Int)<(snt.length:Nat))]
 simp only[cond_true]
 rw[show(List.getD snt (Int.toNat 0) (0,0,0,0,0,0,false,false,0,[],false,0,())).snd.snd.snd.snd.snd.snd.snd.snd.snd.snd.snd.fst=0 from hf]
 rfl
theorem sayW_inr(m:Nat)(p:Pkt)(s s':StW)(w w':List Int)(sent snt:List SntT)(a:Pkt)(ok:Bool)(hn:sent.length≤1000)(h0:0<snt.length)(h1:snt.length≤2)(hf: ¬(snt.getD 0 ftD).2.2.2.2.2.2.2.2.2.2.2.1=0)
  (h:spkWs m p s w=some ((a,ok,snt,()),s'.1,s'.2.1,s'.2.2.1,s'.2.2.2.1,s'.2.2.2.2.1,(w',()),())):sayWs m p s w sent=some (.inr ((a,ok,()),s'.1,s'.2.1,s'.2.2.1,s'.2.2.2.1,s'.2.2.2.2.1,(w',()),sent++snt,())):=by
 unfold sayWs sayW_D sayW_J0
 unfold spkWs at h
 rw[h]
 simp only[bns]
 rw[gr48 _ (by omega),dT (by omega:(0:Int)<(snt.length:Nat)),inT (by omega) (by omega:(0:Int)<(snt.length:Nat))]
 simp only[cond_true]
 rw[dF (show ¬(List.getD snt (Int.toNat 0) (0,0,0,0,0,0,false,false,0,[],false,0,())).snd.snd.snd.snd.snd.snd.snd.snd.snd.snd.snd.fst=0 from hf)]
 rfl
theorem sayW_lost(m:Nat)(p:Pkt)(s:StW)(w:List Int)(sent:List SntT)(hn:sent.length≤900)(hc:pkChk_D m p=some (0,()))(hl:p.2.2.2.2.2.2.2.2.2.1.length≤1000000)(hf: ¬hdF w=0):
  ∃sent2:List SntT,sent2.length≤sent.length+2∧sayWs m p s w sent=some (.inr ((zP,false,()),s.1,s.2.1,s.2.2.1,s.2.2.2.1,s.2.2.2.2.1,(w.drop 1,()),sent2,())):=by
 obtain⟨snt,h0,h1,h2,h⟩:=spkW_lost m p s w hc hl hf
 exact⟨sent++snt,by simp only[List.length_append];omega,sayW_inr m p s s w _ sent snt _ _ (by omega) h0 h1 (by rw[h2];exact hf) h⟩
theorem sayW_mute(m:Nat)(p:Pkt)(s s':StW)(w:List Int)(a:Pkt)(sent:List SntT)(hn:sent.length≤900)(hc:pkChk_D m p=some (0,()))(hl:p.2.2.2.2.2.2.2.2.2.1.length≤1000000)(hf:hdF w=0)(hH:hearWs m p s=some ((a,false,()),s')):
  ∃sent2:List SntT,sent2.length≤sent.length+2∧sayWs m p s w sent=some (.inl ((zP,false,()),s'.1,s'.2.1,s'.2.2.1,s'.2.2.2.1,s'.2.2.2.2.1,(w.drop 1,()),sent2,())):=by
 obtain⟨snt,h0,h1,h2,h⟩:=spkW_mute m p s s' w a hc hl hf hH
 exact⟨sent++snt,by simp only[List.length_append];omega,sayW_inl m p s s' w _ sent snt _ _ (by omega) h0 h1 (by rw[h2];exact hf) h⟩
theorem sayW_ans(m:Nat)(p:Pkt)(s s':StW)(w:List Int)(a:Pkt)(sent:List SntT)(hn:sent.length≤900)(hc:pkChk_D m p=some (0,()))(hl:p.2.2.2.2.2.2.2.2.2.1.length≤1000000)(hf:hdF w=0)(hH:hearWs m p s=some ((a,true,()),s'))(hca:pkChk_D m a=some (0,()))(hla:a.2.2.2.2.2.2.2.2.2.1.length≤1000000):
  ∃sent2:List SntT,sent2.length≤sent.length+2∧sayWs m p s w sent=some (.inl (((bif decide (hdF (w.drop 1)=0)then a else zP),decide (hdF (w.drop 1)=0),()),s'.1,s'.2.1,s'.2.2.1,s'.2.2.2.1,s'.2.2.2.2.1,((w.drop 1).drop 1,()),sent2,())):=by
 obtain⟨snt,h0,h1,h2,h⟩:=spkW_ans m p s s' w a hc hl hf hH hca hla
 exact⟨sent++snt,by simp only[List.length_append];omega,sayW_inl m p s s' w _ sent snt _ _ (by omega) h0 h1 (by rw[h2];exact hf) h⟩
theorem doW_out_lost(m:Nat)(ad ep what:Int)(tog:Bool)(b:List Int)(s:StW)(w:List Int)(hk:tchk6_D m (ad,ep,what,tog,false,0,b,())=some (0,()))(h9: ¬what=9)(hc1:pkChk_D m (pT what ad ep)=some (0,()))(hb:b.length≤1024)(hf: ¬hdF w=0):
  ∃sent:List SntT,doWs m (ad,ep,what,tog,false,0,b,()) s w=some (((4,[],()),sent,()),s.1,s.2.1,s.2.2.1,s.2.2.2.1,s.2.2.2.2.1,((w.drop 1).drop 1,()),()):=by
 obtain⟨s1,n1,e1⟩:=sayW_lost m (pT what ad ep) s w [] (by simp) hc1 (by simp[pT]) hf
 have n1':s1.length≤2:=by simpa using n1
 obtain⟨s2,n2,e2⟩:=sayZZ_eq m (pD (bif tog then 11 else 3) b) (w.drop 1) s1 (by omega) (chk_data m _ (by cases tog<;>simp) b hb) (by simp[pD];omega)
 refine⟨s2,?_⟩
 unfold sayWs pT at e1
 unfold pD at e2
 try unfold sayWs at e2
 unfold doWs doW_D
 simp only[hk,bns,decide_true,Bool.not_true,cond_false,dF h9]
 unfold outW_D
 simp only[e1,bns,sumK_r]
 cases tog
 ·simp only[cond_false]at e2 ⊢
  simp only[e2,bns,Bool.not_false,cond_true,sumK_r]
  exact do_finW _ _ _ _ _ _ _ _
 ·simp only[cond_true]at e2 ⊢
  simp only[e2,bns,cond_false,Bool.not_false,cond_true,sumK_r]
  exact do_finW _ _ _ _ _ _ _ _
theorem doW_out_data(m:Nat)(ad ep what:Int)(tog:Bool)(b:List Int)(s s1:StW)(a1:Pkt)(w:List Int)(hk:tchk6_D m (ad,ep,what,tog,false,0,b,())=some (0,()))(h9: ¬what=9)(hc1:pkChk_D m (pT what ad ep)=some (0,()))(hb:b.length≤1024)(hf:hdF w=0)(hH1:hearWs m (pT what ad ep) s=some ((a1,false,()),s1))(hf2: ¬hdF (w.drop 1)=0):
  ∃sent:List SntT,doWs m (ad,ep,what,tog,false,0,b,()) s w=some (((4,[],()),sent,()),s1.1,s1.2.1,s1.2.2.1,s1.2.2.2.1,s1.2.2.2.2.1,((w.drop 1).drop 1,()),()):=by
 obtain⟨t1,n1,e1⟩:=sayW_mute m (pT what ad ep) s s1 w a1 [] (by simp) hc1 (by simp[pT]) hf hH1
 have n1':t1.length≤2:=by simpa using n1
 obtain⟨t2,n2,e2⟩:=sayW_lost m (pD (bif tog then 11 else 3) b) s1 (w.drop 1) t1 (by omega) (chk_data m _ (by cases tog<;>simp) b hb) (by simp[pD];omega) hf2
 refine⟨t2,?_⟩
 unfold sayWs pT at e1
 unfold pD at e2
 try unfold sayWs at e2
 unfold doWs doW_D
 simp only[hk,bns,decide_true,Bool.not_true,cond_false,dF h9]
 unfold outW_D
 simp only[e1,bns,sumK_l]
 cases tog
 ·simp only[cond_false]at e2 ⊢
  simp only[e2,bns,sumK_r,sumK_l,Bool.not_false,cond_true]
  exact do_finW _ _ _ _ _ _ _ _
 ·simp only[cond_true]at e2 ⊢
  simp only[e2,bns,sumK_r,sumK_l,cond_false,Bool.not_false,cond_true]
  exact do_finW _ _ _ _ _ _ _ _
theorem doW_out_hand(m:Nat)(ad ep what:Int)(tog:Bool)(b:List Int)(s s1 s2:StW)(a1:Pkt)(q r:Int)(w:List Int)(hk:tchk6_D m (ad,ep,what,tog,false,0,b,())=some (0,()))(h9: ¬what=9)(hc1:pkChk_D m (pT what ad ep)=some (0,()))(hb:b.length≤1024)(hf:hdF w=0)(hH1:hearWs m (pT what ad ep) s=some ((a1,false,()),s1))(hf2:hdF (w.drop 1)=0)
  (hH2:hearWs m (pD (bif tog then 11 else 3) b) s1=some ((pD q [],true,()),s2))(hq:q=2∨q=10∨q=14)(hr:hands6_D m q true=some (r,())):
  ∃sent:List SntT,doWs m (ad,ep,what,tog,false,0,b,()) s w=some (((bif decide (hdF ((w.drop 1).drop 1)=0)then outRes what r else 4,[],()),sent,()),s2.1,s2.2.1,s2.2.2.1,s2.2.2.2.1,s2.2.2.2.2.1,(((w.drop 1).drop 1).drop 1,()),()):=by
 obtain⟨t1,n1,e1⟩:=sayW_mute m (pT what ad ep) s s1 w a1 [] (by simp) hc1 (by simp[pT]) hf hH1
 have n1':t1.length≤2:=by simpa using n1
 obtain⟨t2,n2,e2⟩:=sayW_ans m (pD (bif tog then 11 else 3) b) s1 s2 (w.drop 1) (pD q []) t1 (by omega) (chk_data m _ (by cases tog<;>simp) b hb) (by simp[pD];omega) hf2 hH2 (chk_hand m q hq) (by simp[pD])
 refine⟨t2,?_⟩
 unfold sayWs pT at e1
 unfold pD at e2
 try unfold sayWs at e2
 unfold doWs doW_D
 simp only[hk,bns,decide_true,Bool.not_true,cond_false,dF h9]
 unfold outW_D
 simp only[e1,bns,sumK_l]
 by_cases hf3:hdF ((w.drop 1).drop 1)=0
 ·simp only[dT hf3,cond_true]at e2 ⊢
  cases tog
  ·simp only[cond_false]at e2 ⊢
   simp only[e2,bns,sumK_l,Bool.not_true,cond_false,hr,outW_J0,outRes]
   by_cases hw:what=13
   ·by_cases hr1:r=1
    ·subst hr1;simp only[dT hw,cond_true,decide_true,Bool.not_true,cond_false,sumK_l];exact do_finW _ _ _ _ _ _ _ _
    ·simp only[dT hw,cond_true,dF hr1,Bool.not_false,cond_false,sumK_l];exact do_finW _ _ _ _ _ _ _ _
   ·simp only[dF hw,cond_false,sumK_l];exact do_finW _ _ _ _ _ _ _ _
  ·simp only[cond_true]at e2 ⊢
   simp only[e2,bns,sumK_l,Bool.not_true,cond_false,hr,outW_J0,outRes]
   by_cases hw:what=13
   ·by_cases hr1:r=1
    ·subst hr1;simp only[dT hw,cond_true,decide_true,Bool.not_true,cond_false,sumK_l];exact do_finW _ _ _ _ _ _ _ _
    ·simp only[dT hw,cond_true,dF hr1,Bool.not_false,cond_false,sumK_l];exact do_finW _ _ _ _ _ _ _ _
   ·simp only[dF hw,cond_false,sumK_l];exact do_finW _ _ _ _ _ _ _ _
 ·simp only[dF hf3,cond_false]at e2 ⊢
  cases tog
  ·simp only[cond_false]at e2 ⊢
   simp only[e2,bns,sumK_l,Bool.not_false,cond_true]
   exact do_finW _ _ _ _ _ _ _ _
  ·simp only[cond_true]at e2 ⊢
   simp only[e2,bns,sumK_l,cond_false,Bool.not_false,cond_true]
   exact do_finW _ _ _ _ _ _ _ _
theorem doW_in_lost(m:Nat)(ad ep:Int)(tog:Bool)(mx:Int)(s:StW)(w:List Int)(hk:tchk6_D m (ad,ep,9,tog,false,mx,[],())=some (0,()))(hc1:pkChk_D m (pT 9 ad ep)=some (0,()))(hf: ¬hdF w=0):
  ∃sent:List SntT,doWs m (ad,ep,9,tog,false,mx,[],()) s w=some (((4,[],()),sent,()),s.1,s.2.1,s.2.2.1,s.2.2.2.1,s.2.2.2.2.1,(w.drop 1,()),()):=by
 obtain⟨t1,n1,e1⟩:=sayW_lost m (pT 9 ad ep) s w [] (by simp) hc1 (by simp[pT]) hf
 refine⟨t1,?_⟩
 unfold sayWs pT at e1
 unfold doWs doW_D
 simp only[hk,bns,decide_true,Bool.not_true,cond_false,cond_true]
 unfold inW_D
 simp only[e1,bns,sumK_r,Bool.not_false,cond_true]
 exact do_finW _ _ _ _ _ _ _ _
theorem doW_in_late(m:Nat)(ad ep:Int)(tog:Bool)(mx:Int)(s s1:StW)(a1:Pkt)(w:List Int)(hk:tchk6_D m (ad,ep,9,tog,false,mx,[],())=some (0,()))(hc1:pkChk_D m (pT 9 ad ep)=some (0,()))(hf:hdF w=0)(hH1:hearWs m (pT 9 ad ep) s=some ((a1,true,()),s1))(hca:pkChk_D m a1=some (0,()))(hla:a1.2.2.2.2.2.2.2.2.2.1.length≤1000000)(hf2: ¬hdF (w.drop 1)=0):
  ∃sent:List SntT,doWs m (ad,ep,9,tog,false,mx,[],()) s w=some (((4,[],()),sent,()),s1.1,s1.2.1,s1.2.2.1,s1.2.2.2.1,s1.2.2.2.2.1,((w.drop 1).drop 1,()),()):=by
 obtain⟨t1,n1,e1⟩:=sayW_ans m (pT 9 ad ep) s s1 w a1 [] (by simp) hc1 (by simp[pT]) hf hH1 hca hla
 refine⟨t1,?_⟩
 unfold sayWs pT at e1
 unfold doWs doW_D
 simp only[dF hf2,cond_false]at e1
 simp only[hk,bns,decide_true,Bool.not_true,cond_false,cond_true]
 unfold inW_D
 simp only[e1,bns,sumK_l,Bool.not_false,cond_true]
 exact do_finW _ _ _ _ _ _ _ _
theorem doW_in_hand(m:Nat)(ad ep:Int)(tog:Bool)(mx:Int)(s s1:StW)(q r:Int)(w:List Int)(hk:tchk6_D m (ad,ep,9,tog,false,mx,[],())=some (0,()))(hc1:pkChk_D m (pT 9 ad ep)=some (0,()))(hf:hdF w=0)(hH1:hearWs m (pT 9 ad ep) s=some ((pD q [],true,()),s1))(hq:q=2∨q=10∨q=14)(hr:hands6_D m q false=some (r,()))(hf2:hdF (w.drop 1)=0):
  ∃sent:List SntT,doWs m (ad,ep,9,tog,false,mx,[],()) s w=some (((r,[],()),sent,()),s1.1,s1.2.1,s1.2.2.1,s1.2.2.2.1,s1.2.2.2.2.1,((w.drop 1).drop 1,()),()):=by
 obtain⟨t1,n1,e1⟩:=sayW_ans m (pT 9 ad ep) s s1 w (pD q []) [] (by simp) hc1 (by simp[pT]) hf hH1 (chk_hand m q hq) (by simp[pD])
 refine⟨t1,?_⟩
 unfold sayWs pT pD at e1
 unfold doWs doW_D
 simp only[dT hf2,cond_true]at e1
 simp only[hk,bns,decide_true,Bool.not_true,cond_false,cond_true]
 unfold inW_D
 have q3: ¬q=3:=by omega
 have q11: ¬q=11:=by omega
 simp only[e1,bns,sumK_l,Bool.not_true,cond_false,inW_J0,dF q3,dF q11,Bool.not_false,cond_true,hr]
 exact do_finW _ _ _ _ _ _ _ _
theorem doW_in_data(m:Nat)(ad ep:Int)(tog:Bool)(mx:Int)(s s1 s2:StW)(a2:Pkt)(q:Int)(b:List Int)(w:List Int)(hk:tchk6_D m (ad,ep,9,tog,false,mx,[],())=some (0,()))(hc1:pkChk_D m (pT 9 ad ep)=some (0,()))(hf:hdF w=0)(hH1:hearWs m (pT 9 ad ep) s=some ((pD q b,true,()),s1))(hq:q=3∨q=11)(hb:b.length≤1024)(hmx:(b.length:Int)≤mx)(hf2:hdF (w.drop 1)=0)(hH2:hearWs m (pD 2 []) s1=some ((a2,false,()),s2)):
  ∃sent:List SntT,doWs m (ad,ep,9,tog,false,mx,[],()) s w=some (((bif decide (decide (q=11)=tog)then(1,b,())else(6,[],())),sent,()),(bif decide (hdF ((w.drop 1).drop 1)=0)then s2 else s1).1,(bif decide (hdF ((w.drop 1).drop 1)=0)then s2 else s1).2.1,(bif decide (hdF ((w.drop 1).drop 1)=0)then s2 else s1).2.2.1,(bif decide (hdF ((w.drop 1).drop 1)=0)then s2 else s1).2.2.2.1,(bif decide (hdF ((w.drop 1).drop 1)=0)then s2 else s1).2.2.2.2.1,(((w.drop 1).drop 1).drop 1,()),()):=by
 obtain⟨t1,n1,e1⟩:=sayW_ans m (pT 9 ad ep) s s1 w (pD q b) [] (by simp) hc1 (by simp[pT]) hf hH1 (chk_data m q hq b hb) (by simp[pD];omega)
 have n1':t1.length≤2:=by simpa using n1
 have key: ∃t2:List SntT,t2.length≤4∧(sayWs m (pD 2 []) s1 ((w.drop 1).drop 1) t1=some (.inl ((zP,false,()),s2.1,s2.2.1,s2.2.2.1,s2.2.2.2.1,s2.2.2.2.2.1,(((w.drop 1).drop 1).drop 1,()),t2,()))∧hdF ((w.drop 1).drop 1)=0∨sayWs m (pD 2 []) s1 ((w.drop 1).drop 1) t1=some (.inr ((zP,false,()),s1.1,s1.2.1,s1.2.2.1,s1.2.2.2.1,s1.2.2.2.2.1,(((w.drop 1).drop 1).drop 1,()),t2,()))∧ ¬hdF ((w.drop 1).drop 1)=0):=by
  by_cases hf3:hdF ((w.drop 1).drop 1)=0
  ·obtain⟨t2,n2,e2⟩:=sayW_mute m (pD 2 []) s1 s2 ((w.drop 1).drop 1) a2 t1 (by omega) (chk_hand m 2 (.inl rfl)) (by simp[pD]) hf3 hH2
   exact⟨t2,by omega,.inl ⟨e2,hf3⟩⟩
  ·obtain⟨t2,n2,e2⟩:=sayW_lost m (pD 2 []) s1 ((w.drop 1).drop 1) t1 (by omega) (chk_hand m 2 (.inl rfl)) (by simp[pD]) hf3
   exact⟨t2,by omega,.inr ⟨e2,hf3⟩⟩
 obtain⟨t2,n2,e2⟩:=key
 refine⟨t2,?_⟩
 unfold sayWs pT pD at e1
 unfold pD at e2
 try unfold sayWs at e2
 unfold doWs doW_D
 simp only[dT hf2,cond_true]at e1
 simp only[hk,bns,decide_true,Bool.not_true,cond_false,cond_true]
 unfold inW_D
 have hnm: ¬mx<(b.length:Int):=by omega
 have hj: ∀ {R:Type} (k:Bool→Option R) a1 a2 a3 a4 a5 a6 a7 a8 a9 a10 a11 a12 a13 a14 a15 a16 a17 a18 a19 a20 a21 a22 a23 a24 a25,inW_J0 m a1 a2 a3 a4 a5 a6 a7 a8 a9 a10 a11 a12 a13 a14 a15 a16 a17 a18 a19 a20 a21 a22 a23 a24 a25 (q,0,0,0,0,0,false,false,0,b,()) k=k false:=by
  intro R k a1 a2 a3 a4 a5 a6 a7 a8 a9 a10 a11 a12 a13 a14 a15 a16 a17 a18 a19 a20 a21 a22 a23 a24 a25
  unfold inW_J0
  rcases hq with rfl|rfl<;>rfl
 simp only[e1,bns,sumK_l,Bool.not_true,cond_false,hj,dF hnm]
 rcases e2 with⟨e2,hf3⟩|⟨e2,hf3⟩
 ·simp only[e2,bns,sumK_l,dT hf3,cond_true]
  cases hx:decide (decide (q=11)=tog)<;>simp only[Bool.not_true,Bool.not_false,cond_true,cond_false,sumK_l]<;>exact do_finW _ _ _ _ _ _ _ _
 ·simp only[e2,bns,sumK_r,dF hf3,cond_false]
  cases hx:decide (decide (q=11)=tog)<;>simp only[Bool.not_true,Bool.not_false,cond_true,cond_false,sumK_r]<;>exact do_finW _ _ _ _ _ _ _ _
theorem hW_tok(m:Nat)(what:Int)(hw:what=1∨what=13)(tok:Int)(x:XsW):hearWs m (pT what 9 0) ((true,9,tok,()),x)=some ((zP,false,()),((true,9,what,()),x)):=by
 have hc:=chk_tok m what (by omega)
 unfold hearWs hearW_D
 rw[hc]
 rcases hw with rfl|rfl<;>rfl
theorem hW_stall(m:Nat)(tok:Int)(x x1:XsW)(hz:zhrWs m 9 (pT 9 9 0) x=some ((pD 14 [],true,()),x1)):hearWs m (pT 9 9 0) ((true,9,tok,()),x)=some ((pD 14 [],true,()),((true,9,0,()),x1)):=by
 have hc:=chk_tok m 9 (by omega)
 unfold hearWs hearW_D
 unfold zhrWs at hz
 rw[hc,hz]
 rfl
theorem hW_data(m:Nat)(tok:Int)(x x1:XsW)(q:Int)(hq:q=3∨q=11)(b:List Int)(hz:zhrWs m 9 (pT 9 9 0) x=some ((pD q b,true,()),x1)):hearWs m (pT 9 9 0) ((true,9,tok,()),x)=some ((pD q b,true,()),((true,9,9,()),x1)):=by
 have hc:=chk_tok m 9 (by omega)
 unfold hearWs hearW_D
 unfold zhrWs at hz
 rw[hc,hz]
 rcases hq with rfl|rfl<;>rfl
theorem hW_out(m:Nat)(tok:Int)(ht:tok=1∨tok=13)(x x1:XsW)(q:Int)(hq:q=3∨q=11)(b:List Int)(hb:b.length≤1024)(a:Pkt)(ok:Bool)(hz:zhrWs m tok (pD q b) x=some ((a,ok,()),x1)):hearWs m (pD q b) ((true,9,tok,()),x)=some ((a,ok,()),((true,9,0,()),x1)):=by
 have hc:=chk_data m q hq b hb
 unfold hearWs hearW_D
 unfold zhrWs at hz
 rw[hc]
 rcases hq with rfl|rfl<;>rcases ht with rfl|rfl<;>(rw[hz];rfl)
theorem hW_ack(m:Nat)(x x1:XsW)(a:Pkt×Bool×Unit)(hz:zhrWs m 9 (pD 2 []) x=some (a,x1)):hearWs m (pD 2 []) ((true,9,9,()),x)=some ((zP,false,()),((true,9,0,()),x1)):=by
 have hc:=chk_hand m 2 (.inl rfl)
 unfold hearWs hearW_D
 unfold zhrWs at hz
 rw[hc,hz]
 rfl
theorem outW_gen(m:Nat)(what:Int)(hw:what=1∨what=13)(tog:Bool)(b:List Int)(hb:b.length≤1024)(hk:tchk6_D m (9,0,what,tog,false,0,b,())=some (0,()))(tok:Int)(x x1:XsW)(w:List Int)(q r:Int)(hq:q=2∨q=10∨q=14)(hr:hands6_D m q true=some (r,()))
  (hz:zhrWs m what (pD (bif tog then 11 else 3) b) x=some ((pD q [],true,()),x1)):
  ∃c tok' sent,∃x':XsW,∃w':List Int,doWs m (9,0,what,tog,false,0,b,()) ((true,9,tok,()),x) w=some (((c,[],()),sent,()),(true,9,tok',()),x'.1,x'.2.1,x'.2.2.1,x'.2.2.2.1,(w',()),())∧((c=outRes what r∧x'=x1∧bad w'≤bad w)∨(c=4∧(x'=x∨x'=x1)∧bad w'<bad w)):=by
 have h9: ¬what=9:=by omega
 have hc1:=chk_tok m what (by omega)
 have l1:=drop_le w
 have l2:=drop_le (w.drop 1)
 have l3:=drop_le ((w.drop 1).drop 1)
 have ht:=hW_tok m what hw tok x
 have hq2:(bif tog then(11:Int)else 3)=3∨(bif tog then(11:Int)else 3)=11:=by cases tog<;>simp
 have hd:=hW_out m what hw x x1 _ hq2 b hb _ _ hz
 by_cases hf:hdF w=0
 ·by_cases hf2:hdF (w.drop 1)=0
  ·obtain⟨sent,h⟩:=doW_out_hand m 9 0 what tog b ((true,9,tok,()),x) ((true,9,what,()),x) ((true,9,0,()),x1) zP q r w hk h9 hc1 hb hf ht hf2 hd hq hr
   refine⟨_,_,_,x1,_,h,?_⟩
   by_cases hf3:hdF ((w.drop 1).drop 1)=0
   ·rw[dT hf3];exact .inl ⟨rfl,rfl,by omega⟩
   ·rw[dF hf3];have:=drop_lt hf3;exact .inr ⟨rfl,.inr rfl,by omega⟩
  ·obtain⟨sent,h⟩:=doW_out_data m 9 0 what tog b ((true,9,tok,()),x) ((true,9,what,()),x) zP w hk h9 hc1 hb hf ht hf2
   have:=drop_lt hf2
   exact⟨_,_,_,x,_,h,.inr ⟨rfl,.inl rfl,by omega⟩⟩
 ·obtain⟨sent,h⟩:=doW_out_lost m 9 0 what tog b ((true,9,tok,()),x) w hk h9 hc1 hb hf
  have:=drop_lt hf
  exact⟨_,_,_,x,_,h,.inr ⟨rfl,.inl rfl,by omega⟩⟩
theorem inW_stall(m:Nat)(tog:Bool)(mx:Int)(hk:tchk6_D m (9,0,9,tog,false,mx,[],())=some (0,()))(tok:Int)(x x1:XsW)(w:List Int)
  (hz:zhrWs m 9 (pT 9 9 0) x=some ((pD 14 [],true,()),x1)):
  ∃c tok' sent,∃x':XsW,∃w':List Int,doWs m (9,0,9,tog,false,mx,[],()) ((true,9,tok,()),x) w=some (((c,[],()),sent,()),(true,9,tok',()),x'.1,x'.2.1,x'.2.2.1,x'.2.2.2.1,(w',()),())∧((c=3∧x'=x1∧bad w'≤bad w)∨(c=4∧(x'=x∨x'=x1)∧bad w'<bad w)):=by
 have hc1:=chk_tok m 9 (by omega)
 have l1:=drop_le w
 have l2:=drop_le (w.drop 1)
 have ht:=hW_stall m tok x x1 hz
 by_cases hf:hdF w=0
 ·by_cases hf2:hdF (w.drop 1)=0
  ·obtain⟨sent,h⟩:=doW_in_hand m 9 0 tog mx ((true,9,tok,()),x) ((true,9,0,()),x1) 14 3 w hk hc1 hf ht (by omega) (hands_stall m false) hf2
   exact⟨_,_,_,x1,_,h,.inl ⟨rfl,rfl,by omega⟩⟩
  ·obtain⟨sent,h⟩:=doW_in_late m 9 0 tog mx ((true,9,tok,()),x) ((true,9,0,()),x1) (pD 14 []) w hk hc1 hf ht (chk_hand m 14 (by omega)) (by simp[pD]) hf2
   have:=drop_lt hf2
   exact⟨_,_,_,x1,_,h,.inr ⟨rfl,.inr rfl,by omega⟩⟩
 ·obtain⟨sent,h⟩:=doW_in_lost m 9 0 tog mx ((true,9,tok,()),x) w hk hc1 hf
  have:=drop_lt hf
  exact⟨_,_,_,x,_,h,.inr ⟨rfl,.inl rfl,by omega⟩⟩
theorem inW_data(m:Nat)(tog:Bool)(mx:Int)(hk:tchk6_D m (9,0,9,tog,false,mx,[],())=some (0,()))(tok:Int)(x x1 x2:XsW)(w:List Int)(q:Int)(hq:q=3∨q=11)(b:List Int)(hb:b.length≤1024)(hmx:(b.length:Int)≤mx)(a:Pkt×Bool×Unit)
  (hz:zhrWs m 9 (pT 9 9 0) x=some ((pD q b,true,()),x1))(hz2:zhrWs m 9 (pD 2 []) x1=some (a,x2)):
  ∃c d tok' sent,∃x':XsW,∃w':List Int,doWs m (9,0,9,tog,false,mx,[],()) ((true,9,tok,()),x) w=some (((c,d,()),sent,()),(true,9,tok',()),x'.1,x'.2.1,x'.2.2.1,x'.2.2.2.1,(w',()),())∧(((c,d)=(bif decide (decide (q=11)=tog)then(1,b)else(6,[]))∧(x'=x2∧bad w'≤bad w∨x'=x1∧bad w'<bad w))∨(c=4∧d= []∧(x'=x∨x'=x1)∧bad w'<bad w)):=by
 have hc1:=chk_tok m 9 (by omega)
 have l1:=drop_le w
 have l2:=drop_le (w.drop 1)
 have l3:=drop_le ((w.drop 1).drop 1)
 have ht:=hW_data m tok x x1 q hq b hz
 have ha:=hW_ack m x1 x2 a hz2
 by_cases hf:hdF w=0
 ·by_cases hf2:hdF (w.drop 1)=0
  ·obtain⟨sent,h⟩:=doW_in_data m 9 0 tog mx ((true,9,tok,()),x) ((true,9,9,()),x1) ((true,9,0,()),x2) zP q b w hk hc1 hf ht hq hb hmx hf2 ha
   by_cases hf3:hdF ((w.drop 1).drop 1)=0
   ·rw[dT hf3]at h
    cases hx:decide (decide (q=11)=tog)
    ·rw[hx]at h;exact⟨_,_,_,_,x2,_,h,.inl ⟨rfl,.inl ⟨rfl,by omega⟩⟩⟩
    ·rw[hx]at h;exact⟨_,_,_,_,x2,_,h,.inl ⟨rfl,.inl ⟨rfl,by omega⟩⟩⟩
   ·rw[dF hf3]at h
    have:=drop_lt hf3
    cases hx:decide (decide (q=11)=tog)
    ·rw[hx]at h;exact⟨_,_,_,_,x1,_,h,.inl ⟨rfl,.inr ⟨rfl,by omega⟩⟩⟩
    ·rw[hx]at h;exact⟨_,_,_,_,x1,_,h,.inl ⟨rfl,.inr ⟨rfl,by omega⟩⟩⟩
  ·obtain⟨sent,h⟩:=doW_in_late m 9 0 tog mx ((true,9,tok,()),x) ((true,9,9,()),x1) (pD q b) w hk hc1 hf ht (chk_data m q hq b hb) (by simp[pD];omega) hf2
   have:=drop_lt hf2
   exact⟨_,_,_,_,x1,_,h,.inr ⟨rfl,rfl,.inr rfl,by omega⟩⟩
 ·obtain⟨sent,h⟩:=doW_in_lost m 9 0 tog mx ((true,9,tok,()),x) w hk hc1 hf
  have:=drop_lt hf
  exact⟨_,_,_,_,x,_,h,.inr ⟨rfl,rfl,.inl rfl,by omega⟩⟩
end Go.Proofs.Ytngghkoghbpceaa
