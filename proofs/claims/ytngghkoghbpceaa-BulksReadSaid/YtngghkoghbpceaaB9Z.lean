/-
  The statement BulksRead: the plain law.
  Conditions: none.
-/
import Derived.Test.YtngghkoghbpceaaB9U
namespace Go.Proofs.Ytngghkoghbpceaa
set_option linter.unusedVariables false
set_option linter.unusedSimpArgs false
set_option maxRecDepth 100000
set_option maxHeartbeats 4000000
theorem few9_L0_eq(m:Nat)(l:List (List Int))(hl:l.length≤10): ∀(f i:Nat),i≤l.length→l.length - i<f→(few9_L0 m f l (i:Int)=some (.inl ((false,()),()))∨(few9_L0 m f l (i:Int)=some (.inr ((),()))∧ ∀j,i≤j→j<l.length→(l.getD j []).length≤60)):=by
 intro f
 induction f with
 |zero=>intro i h1 h2;omega
 |succ f ih=>
  intro i h1 h2
  rw[few9_L0]
  by_cases h:i<l.length
  ·rw[dT (by omega:(i:Int)<(l.length:Nat)),inT (by omega) (by omega:(i:Int)<(l.length:Nat)),toNatC,wS i (by omega)]
   simp only[cond_true]
   by_cases hx:60<((l.getD i []).length:Int)
   ·rw[dT hx];exact .inl rfl
   ·rw[dF hx]
    simp only[cond_false]
    rcases ih (i+1) (by omega) (by omega)with h3|⟨h3,h4⟩
    ·exact .inl h3
    ·refine .inr ⟨h3,fun j hj1 hj2=> ?_⟩
     by_cases hij:j=i
     ·subst hij;omega
     ·exact h4 j (by omega) hj2
  ·rw[dF (by omega: ¬(i:Int)<(l.length:Nat))]
   exact .inr ⟨rfl,fun j hj1 hj2=>by omega⟩
theorem few9_eq(m:Nat)(l:List (List Int))(hm:21≤m):few9_D m l=some (false,())∨(few9_D m l=some (true,())∧l.length≤10∧ ∀b∈l,b.length≤60):=by
 unfold few9_D
 by_cases h:10<(l.length:Int)
 ·rw[dT h];exact .inl rfl
 ·rw[dF h]
  rcases few9_L0_eq m l (by omega) m 0 (by omega) (by omega)with h3|⟨h3,h4⟩
  ·rw[show((0:Nat):Int)=0 from rfl]at h3;rw[h3];exact .inl rfl
  ·rw[show((0:Nat):Int)=0 from rfl]at h3;rw[h3]
   refine .inr ⟨rfl,by omega,fun b hb=> ?_⟩
   obtain⟨j,hj,rfl⟩:=List.mem_iff_getElem.1 hb
   have:=h4 j (by omega) hj
   rwa [getD_lt hj]at this
theorem faults6_L0_eq(m:Nat)(x:List Int)(hx:x.length≤1000): ∀(f i:Nat) (acc:List Int),i≤x.length→acc.length=i→x.length - i<f→ ∃w:List Int,w.length=x.length∧faults6_L0 m f x (i:Int) acc=some ((),(w,())):=by
 intro f
 induction f with
 |zero=>intro i acc h1 h2 h3;omega
 |succ f ih=>
  intro i acc h1 h2 h3
  rw[faults6_L0]
  by_cases h:i<x.length
  ·rw[dT (by omega:(i:Int)<(x.length:Nat)),inT (by omega) (by omega:(i:Int)<(x.length:Nat)),gr1 _ (by simp;omega),wS i (by omega)]
   exact ih (i+1) _ (by omega) (by simp;omega) (by omega)
  ·rw[dF (by omega: ¬(i:Int)<(x.length:Nat))]
   exact⟨acc,by omega,rfl⟩
theorem cloneF_eq(m:Nat)(xs:List Int)(h:xs.length≤1000000):cloneF_D m xs=some ((),xs,()):=by
 unfold cloneF_D;rw[dT h];rfl
theorem wire6_eq(m:Nat)(x:List Int)(hx:x.length≤1000)(hm:x.length<m): ∃w:List Int,w.length=x.length∧wire6_D m x=some ((),(w,()),()):=by
 obtain⟨w,h1,h2⟩:=faults6_L0_eq m x hx m 0 [] (by omega) rfl (by omega)
 refine⟨w,h1,?_⟩
 rw[show((0:Nat):Int)=0 from rfl]at h2
 unfold wire6_D faults6_D
 rw[h2]
 simp only[bnd_some,cloneF_eq m w (by omega)]
def allP(l:List (List Int)):List (List Int):=(l.map fun b=>cut9 b 8 true).flatten
theorem cut9_len(b:List Int)(hb:b.length≤60):(cut9 b 8 true).length≤8∧(∀x∈cut9 b 8 true,x.length≤8)∧cut9 b 8 true≠ []:=by
 obtain⟨F,c,e,h1,h2,h3,h4⟩:=cut9_spec b 8 (by omega)
 rw[e]
 refine⟨by simp;omega,fun x hx=> ?_,by simp⟩
 rcases List.mem_append.1 hx with hx|hx
 ·exact Nat.le_of_eq (h1 x hx)
 ·rw[List.mem_singleton.1 hx];omega
theorem allP_len: ∀(l:List (List Int)),(∀b∈l,b.length≤60)→(allP l).length≤8*l.length∧ ∀x∈allP l,x.length≤8
 | [],_=>by simp[allP]
 |b::l,h=>by
  obtain⟨g1,g2,_⟩:=cut9_len b (h b (by simp))
  obtain⟨g3,g4⟩:=allP_len l (fun x hx=>h x (by simp[hx]))
  unfold allP at g3 g4 ⊢
  simp only[List.map_cons,List.flatten_cons,List.length_append,List.length_cons]
  refine⟨by omega,fun x hx=> ?_⟩
  rcases List.mem_append.1 hx with hx|hx
  ·exact g2 x hx
  ·exact g4 x hx
theorem allP_succ(l:List (List Int))(i:Nat)(h:i<l.length):allP (l.take (i+1))=allP (l.take i)++cut9 (l.getD i []) 8 true:=by
 rw[List.take_succ_eq_append_getElem h,getD_lt h]
 unfold allP
 simp only[List.map_append,List.flatten_append,List.map_cons,List.map_nil,List.flatten_cons,List.flatten_nil,List.append_nil]
theorem rL0_eq(l:List (List Int))(hl:l.length≤10)(hlb: ∀b∈l,b.length≤60)(x2:Int)(w:List Int): ∀(f i:Nat),i≤l.length→l.length - i<f→
  bRead_L0 2000 f l x2 false (i:Int) true 0 0 0 1 true 2 8 false false 0 1 false 2 8 false false w (allP (l.take i))=some ((l,x2,false,()),(true,0,0,()),(0,1,true,2,8,false,false,()),(0,1,false,2,8,false,false,()),(w,()),allP l,()):=by
 intro f
 induction f with
 |zero=>intro i h1 h2;omega
 |succ f ih=>
  intro i h1 h2
  rw[bRead_L0]
  by_cases h:i<l.length
  ·have hx:=hlb _ (getD_mem (d:=([]:List Int)) h)
   have h4:(l.take i).length≤10:=by simp;omega
   have h3:=(allP_len (l.take i) (fun b hb=>hlb b (List.mem_of_mem_take hb))).1
   have h5:=(cut9_len _ hx).1
   rw[dT (by omega:(i:Int)<(l.length:Nat)),inT (by omega) (by omega:(i:Int)<(l.length:Nat)),toNatC,rcut_eq 2000 (by omega) _ hx]
   simp only[cond_true,bnd_some]
   rw[gr24 _ (by omega),wS i (by omega),←allP_succ l i h]
   exact ih (i+1) (by omega) (by omega)
  ·have hil:i=l.length:=by omega
   rw[dF (by omega: ¬(i:Int)<(l.length:Nat)),hil,List.take_length]
   rfl
theorem rL1_eq(l:List (List Int))(x2:Int)(h2:0≤x2∧x2≤255)(hl:l.length≤10)(hlb: ∀b∈l,b.length≤60): ∀(f i a k g:Nat) (w:List Int),(allP l).drop k=allP (l.drop i)→a≤k→k≤a+1→a≤g→g≤(allP l).length→g - a≤2→w.length≤120→i≤l.length→l.length - i<f→
  bRead_L1 2000 f l x2 (par k) (g:Int) (i:Int) true 0 1 true 1 false 0 1 true 2 8 (par a) false 0 1 false 2 8 false false w (allP l) (sl (allP l) a g)=some (.inl ((true,()),()))∨
  bRead_L1 2000 f l x2 (par k) (g:Int) (i:Int) true 0 1 true 1 false 0 1 true 2 8 (par a) false 0 1 false 2 8 false false w (allP l) (sl (allP l) a g)=some (.inr ((),())):=by
 obtain⟨hP1,hP2⟩:=allP_len l hlb
 intro f
 induction f with
 |zero=>intro i a k g w h1 h2 h3 h4 h5 h6 h7 h8 h9;omega
 |succ f ih=>
  intro i a k g w h1 g2 h3 h4 h5 h6 h7 h8 h9
  rw[bRead_L1]
  by_cases hi:i<l.length
  ·have hb:=hlb _ (getD_mem (d:=([]:List Int)) hi)
   have hdl:allP (l.drop i)=cut9 (l.getD i []) 8 true++allP (l.drop (i+1)):=by rw[drop_cons (d:=([]:List Int)) hi];rfl
   have hL:Go.IntKind.wrap .i64 (Go.IntKind.wrap .i64 (((l.getD i []).length:Int)+8)+Go.IntKind.wrap .i64 x2)=((l.getD i []).length:Int)+8+x2:=by
    rw[wi64 (x:=((l.getD i []).length:Int)+8) (by omega) (by omega),wi64 (x:=x2) (by omega) (by omega),wi64 (by omega) (by omega)]
   obtain⟨F,c,e1,hF,hc,hfl,hFl⟩:=cut9_spec (l.getD i []) 8 (by omega)
   rw[dT (by omega:(i:Int)<(l.length:Nat)),inT (by omega) (by omega:(i:Int)<(l.length:Nat)),toNatC,hL,bstartR_eq 2000 (par k) _ (by omega) (by omega)]
   simp only[cond_true,bnd_some,decide_true,Bool.not_true,cond_false]
   obtain⟨a2,g3,w2,t',z1,z2,z3,z4,z5,z6⟩:=rL2_eq 2000 l x2 i hi (allP l) hP2 (by omega) (((l.getD i []).length:Int)+8+x2) (l.getD i []) rfl hb (by omega) (by omega) c hc (allP (l.drop (i+1))) 2000 0 a k g F [] 0 w (by rw[h1,hdl,e1];simp) hF (by simpa using hfl) g2 h3 h4 h5 h6 (by omega) (by omega) (by omega)
   rw[show((0:Nat):Int)=0 from rfl]at z1
   rw[z1]
   simp only[bnd_some,sumK_r]
   have hI:inB (i:Int) l.length=true:=inT (by omega) (by omega:(i:Int)<(l.length:Nat))
   rcases z6 with⟨tog,got2,rest,er2,rfl,hgr⟩|⟨k2,rfl,hR,q1,q2⟩
   ·refine .inl ?_
    have hgl:got2.length≤60:=by have:=congrArg List.length hgr;simp only[List.length_append]at this;omega
    have hbg:beg9_D 2000 (l.getD i []) got2=some (true,()):=by rw[←hgr];exact beg9_eq 2000 got2 rest
    rw[bendR_eq 2000 _ _ got2 _ _ _ (by omega)]
    simp only[bnd_some,cond_true]
    unfold bRead_J6
    rw[hI,toNatC,hbg]
    simp only[Bool.not_true,cond_false,decide_true,cond_true,bnd_some]
    unfold bRead_J7
    simp only[show decide ((11:Int)=0)=false by decide,Bool.not_false,cond_true,decide_true,lives9_true,bnd_some]
   ·have hbg:beg9_D 2000 (l.getD i []) (l.getD i [])=some (true,()):=by have:=beg9_eq 2000 (l.getD i []) [];rwa [List.append_nil]at this
    rw[bendR_eq 2000 _ _ _ _ _ _ (by omega)]
    simp only[bnd_some,cond_true]
    unfold bRead_J6
    rw[hI,toNatC,hbg]
    simp only[Bool.not_true,cond_false,decide_true,cond_true,bnd_some,btogR_eq]
    rw[wS i (by omega)]
    exact ih (i+1) a2 k2 g3 w2 hR q1 q2 z3 z4 z5 (by omega) (by omega) (by omega)
  ·refine .inr ?_
   rw[dF (by omega: ¬(i:Int)<(l.length:Nat))]
   rfl
theorem bRead_true(l:List (List Int))(x1:List Int)(x2:Int)(h2:0≤x2∧x2≤255):bRead_D 2000 l x1 x2=some (true,()):=by
 unfold bRead_D bRead_J0
 rcases few9_eq 2000 l (by omega)with h|⟨h,hl,hlb⟩
 ·rw[h];rfl
 rw[h]
 simp only[bnd_some,Bool.not_true,cond_false]
 by_cases hx:120<(x1.length:Int)
 ·rw[dT hx];rfl
 rw[dF hx]
 simp only[cond_false]
 obtain⟨w,hw,hwire⟩:=wire6_eq 2000 x1 (by omega) (by omega)
 have e0:=rL0_eq l hl hlb x2 w 2000 0 (by omega) (by omega)
 have e0':bRead_L0 2000 2000 l x2 false 0 true 0 0 0 1 true 2 8 false false 0 1 false 2 8 false false w []=some ((l,x2,false,()),(true,0,0,()),(0,1,true,2,8,false,false,()),(0,1,false,2,8,false,false,()),(w,()),allP l,()):=by simpa[allP]using e0
 simp only[hwire,bnd_some,e0']
 have e1:=rL1_eq l x2 h2 hl hlb 2000 0 0 0 0 w (by simp) (by omega) (by omega) (by omega) (by omega) (by omega) (by omega) (by omega) (by omega)
 have e1':bRead_L1 2000 2000 l x2 false 0 0 true 0 1 true 1 false 0 1 true 2 8 false false 0 1 false 2 8 false false w (allP l) []=some (.inl ((true,()),()))∨bRead_L1 2000 2000 l x2 false 0 0 true 0 1 true 1 false 0 1 true 2 8 false false 0 1 false 2 8 false false w (allP l) []=some (.inr ((),())):=by simpa[par,sl]using e1
 rcases e1' with e1'|e1'
 ·rw[e1'];rfl
 ·rw[e1']
  simp only[bnd_some,sumK_r,lives9_true]
end Go.Proofs.Ytngghkoghbpceaa
