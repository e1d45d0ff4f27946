/-
  The statement BulksWrite, the plain law: the transfers, one after the other.
  Conditions: none.
-/
import Derived.Test.YtngghkoghbpceaaB9W
namespace Go.Proofs.Ytngghkoghbpceaa
set_option linter.unusedVariables false
set_option linter.unusedSimpArgs false
set_option maxRecDepth 100000
set_option maxHeartbeats 4000000
def allP(l:List (List Int)):List (List Int):=(l.map fun b=>cut9 b 8 true).flatten
theorem allP_flat(l:List (List Int)):(allP l).flatten=l.flatten:=by
 unfold allP
 induction l with
 |nil=>rfl
 |cons b l ih=>simp only[List.map_cons,List.flatten_cons,List.flatten_append,ih,cut9_flat 8 (by omega)]
theorem cut9_len(b:List Int)(hb:b.length≤60):(cut9 b 8 true).length≤8∧(∀x∈cut9 b 8 true,x.length≤8)∧cut9 b 8 true≠ []:=by
 obtain⟨F,c,e,h1,h2,h3,h4⟩:=cut9_spec b 8 (by omega)
 rw[e]
 refine⟨by simp;omega,fun x hx=> ?_,by simp⟩
 rcases List.mem_append.1 hx with hx|hx
 ·exact Nat.le_of_eq (h1 x hx)
 ·rw[List.mem_singleton.1 hx];omega
theorem allP_len: ∀(l:List (List Int)),(∀b∈l,b.length≤60)→(allP l).length≤8*l.length∧ ∀x∈allP l,x.length≤8
 | [],_=>by simp[allP]
 |b::l,h=>by
  obtain⟨g1,g2,_⟩:=cut9_len b (h b (by simp))
  obtain⟨g3,g4⟩:=allP_len l (fun x hx=>h x (by simp[hx]))
  unfold allP at g3 g4 ⊢
  simp only[List.map_cons,List.flatten_cons,List.length_append,List.length_cons]
  refine⟨by omega,fun x hx=> ?_⟩
  rcases List.mem_append.1 hx with hx|hx
  ·exact g2 x hx
  ·exact g4 x hx
theorem sB_drop(P:List (List Int))(d:Nat):sB P d+((P.drop d).flatten).length=P.flatten.length:=by unfold sB;rw[fl_split P d,List.length_append]
theorem bL1_eq(l:List (List Int))(room:Int)(hroom:0≤room∧room≤255)(hl:l.length≤10)(hlb: ∀b∈l,b.length≤60): ∀(f i d k:Nat) (w:List Int) (rm:Int),(allP l).drop d=allP (l.drop i)→d≤k→k≤d+1→k≤(allP l).length→w.length≤120→i≤l.length→l.length - i<f→
  bWrite_L1 2000 f l room (par d) ((sB (allP l) d:Nat):Int) (i:Int) true 0 1 true 1 false 0 1 true 2 8 false false rm 1 false 2 8 (par k) false w (allP l).flatten (((allP l).take k).flatten) ((allP l).take k)=some (.inl ((true,()),()))∨
  bWrite_L1 2000 f l room (par d) ((sB (allP l) d:Nat):Int) (i:Int) true 0 1 true 1 false 0 1 true 2 8 false false rm 1 false 2 8 (par k) false w (allP l).flatten (((allP l).take k).flatten) ((allP l).take k)=some (.inr ((l,()),(allP l).flatten,(allP l).flatten,allP l,())):=by
 obtain⟨hP1,hP2⟩:=allP_len l hlb
 have hPf:=fl_len (allP l) hP2
 intro f
 induction f with
 |zero=>intro i d k w rm h1 h2 h3 h4 h5 h6 h7;omega
 |succ f ih=>
  intro i d k w rm h1 h2 h3 h4 h5 h6 h7
  rw[bWrite_L1]
  by_cases hi:i<l.length
  ·have hb:=hlb _ (getD_mem (d:=([]:List Int)) hi)
   have hdl:allP (l.drop i)=cut9 (l.getD i []) 8 true++allP (l.drop (i+1)):=by rw[drop_cons (d:=([]:List Int)) hi];rfl
   obtain⟨c1,c2,c3⟩:=cut9_len (l.getD i []) hb
   have hs:=sB_drop (allP l) d
   rw[dT (by omega:(i:Int)<(l.length:Nat)),inT (by omega) (by omega:(i:Int)<(l.length:Nat)),toNatC,bstart_eq 2000 (par d) _ hb (by omega)]
   simp only[cond_true,bnd_some,decide_true,Bool.not_true,cond_false]
   obtain⟨d2,k2,left2,er2,e,w2,rm2,z1,z2,z3,z4,z5,z6,z7⟩:=bL2_eq 2000 (by omega) l room hroom (allP l) hP2 (by omega) (allP (l.drop (i+1))) (i:Int) (sB (allP l) d) (by omega) 2000 0 d k (cut9 (l.getD i []) 8 true) 0 w rm (h1.trans hdl) c3 (Nat.le_refl _) h2 h3 h4 (by omega) (by split<;>omega) (by omega)
   rw[Nat.sub_self]at z1
   rw[show((0:Nat):Int)=0 from rfl]at z1
   rw[z1]
   simp only[bnd_some,sumK_r,bend_eq,cond_true]
   unfold bWrite_J5
   simp only[Bool.not_true,cond_false,decide_true]
   rcases z7 with rfl|⟨rfl,rfl,hR⟩
   ·refine .inl ?_
    unfold bWrite_J6
    simp only[show decide ((11:Int)=0)=false by decide,Bool.not_false,cond_true,decide_true,lives9_true,bnd_some]
   ·have hsd:sB (allP l) d+(l.getD i []).length=sB (allP l) d2:=by
     have h8:=sB_drop (allP l) d2
     rw[hR]at h8
     rw[h1,hdl,List.flatten_append,cut9_flat 8 (by omega),List.length_append]at hs
     omega
    have hw:Go.IntKind.wrap .i64 (((sB (allP l) d:Nat):Int)+(((l.getD i []).length:Nat):Int))=((sB (allP l) d2:Nat):Int):=by rw[wi64 (by omega) (by omega)];omega
    simp only[decide_true,Bool.not_true,cond_false,btog_eq,bnd_some,inT (by omega:(0:Int)≤(i:Int)) (by omega:(i:Int)<(l.length:Nat)),cond_true,toNatC,hw]
    rw[wS i (by omega)]
    exact ih (i+1) d2 k2 w2 rm2 hR z2 z3 z4 (by omega) (by omega) (by omega)
  ·refine .inr ?_
   have hil:i=l.length:=by omega
   have hd:(allP l).length≤d:=by
    have:=congrArg List.length h1
    rw[hil]at this
    simp[allP]at this
    unfold allP
    simp;omega
   have hk:k=(allP l).length:=by omega
   rw[dF (by omega: ¬(i:Int)<(l.length:Nat)),hk,List.take_length]
   rfl
end Go.Proofs.Ytngghkoghbpceaa
