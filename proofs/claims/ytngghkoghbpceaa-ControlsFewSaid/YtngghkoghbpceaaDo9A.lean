/-
  A host's transactions, the plain law: what is sent on a wire with faults.
  Conditions: none.
-/
import Derived.Test.YtngghkoghbpceaaE9a
import Derived.Test.YtngghkoghbpceaaPM
namespace Go.Proofs.Ytngghkoghbpceaa
set_option linter.unusedVariables false
set_option linter.unusedSimpArgs false
set_option maxRecDepth 100000
set_option maxHeartbeats 4000000
abbrev SntT:Type:=Int×Int×Int×Int×Int×Int×Bool×Bool×Int×List Int×Bool×Int×Unit
abbrev TryT:Type:=Int×Int×Int×Bool×Bool×Int×List Int×Unit
def zP:Pkt:=(0,0,0,0,0,0,false,false,0,[],())
def pD(p:Int)(b:List Int):Pkt:=(p,0,0,0,0,0,false,false,0,b,())
def pT(p a e:Int):Pkt:=(p,a,e,0,0,0,false,false,0,[],())
def hdF(w:List Int):Int:=w.getD 0 0
def ftD:SntT:=(0,0,0,0,0,0,false,false,0,[],false,0,())
theorem cloneB_eq(m:Nat)(xs:List Int)(h:xs.length≤1000000):cloneB_D m xs=some ((),xs,()):=by
 unfold cloneB_D;rw[dT h];rfl
theorem send6_eq(m:Nat)(p:Pkt)(host:Bool)(w:List Int)(sent:List SntT)(hp:p.2.2.2.2.2.2.2.2.2.1.length≤1000000)(hs:sent.length≤1000000):
  ∃e:SntT,e.2.2.2.2.2.2.2.2.2.2.2.1=hdF w∧send6_D m p host w sent=some (decide (hdF w=0),(w.drop 1,()),sent++ [e],()):=by
 obtain⟨p0,p1,p2,p3,p4,p5,p6,p7,p8,b,⟨⟩⟩:=p
 simp only at hp
 refine⟨(p0,p1,p2,p3,p4,p5,p6,p7,p8,b,host,hdF w,()),rfl,?_⟩
 have hg:growOb 48 (sent.length+1)=true:=gr48 _ (by omega)
 unfold send6_D send6_J0
 rw[cloneB_eq m b hp]
 cases w with
 |nil=>
  simp only[List.length_nil,Int.ofNat_zero,decide_true,cond_true,bns,clipT,takeAll,List.length_cons,hg]
  simp[hdF,hg]
 |cons f w=>
  have h0: ¬(((f::w).length:Nat):Int)=0:=by simp only[List.length_cons];omega
  rw[dF h0,inT (by omega) (by simp only[List.length_cons];omega:(0:Int)<((f::w).length:Nat)),dT (by omega:(0:Int)≤1),dT (by simp only[List.length_cons];omega:Int.toNat 1≤(f::w).length)]
  simp only[cond_false,cond_true,Bool.and_self,bns,clipT,takeAll,List.length_cons,List.length_nil,hg]
  simp[hdF,hg]
theorem chk_data(m:Nat)(p:Int)(hp:p=3∨p=11)(b:List Int)(hb:b.length≤1024):pkChk_D m (pD p b)=some (0,()):=by
 have h0: ¬(1024<(b.length:Int)):=by omega
 rcases hp with rfl|rfl
 ·unfold pkChk_D pD shapeOf6_D
  simp[bns,same6_D,same6_J0,h0]
 ·unfold pkChk_D pD shapeOf6_D
  simp[bns,same6_D,same6_J0,h0]
theorem chk_hand(m:Nat)(p:Int)(hp:p=2∨p=10∨p=14):pkChk_D m (pD p [])=some (0,()):=by
 rcases hp with rfl|rfl|rfl<;>kernel_rfl
def outRes(what:Int)(hs:Int):Int:=bif decide (what=13)then(bif decide (hs=1)then 1 else 4)else hs
theorem hands_ack(m:Nat):hands6_D m 2 true=some (1,()):=by rfl
theorem hands_stall(m:Nat)(b:Bool):hands6_D m 14 b=some (3,()):=by rfl
end Go.Proofs.Ytngghkoghbpceaa
