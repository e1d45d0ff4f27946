/-
  Law 09, the plain law of a transfer that writes: Start, Answer, Toggle, End.
  Conditions: none.
-/
import Derived.Test.YtngghkoghbpceaaB9Q
namespace Go.Proofs.Ytngghkoghbpceaa
set_option linter.unusedVariables false
set_option linter.unusedSimpArgs false
set_option maxRecDepth 100000
set_option maxHeartbeats 2000000
abbrev TrT:Type:=Bool×Int×Int×Bool×List Int×Bool×Int×List (List Int)×List Int×Int×Int×Bool×Int×Unit
def tW(tog:Bool)(left:List (List Int))(act er:Int)(over:Bool)(e:Int):TrT:=(false,1,8,tog,[],true,0,left,[],act,er,over,e,())
theorem bstart_eq(m:Nat)(tog:Bool)(b:List Int)(hb:b.length≤60)(hm:100≤m):bstart_D m (false,1,8,tog,b,true,0,())=some ((tW tog (cut9 b 8 true) 0 0 false 0,0,()),()):=by
 have hc:=bcut_eq m true 8 (by omega) (by omega) b (by omega) (by omega)
 have h1:decide ((65536:Int)<(b.length:Int))=false:=dF (by omega)
 unfold bstart_D bstart_J0 bstart_J1 bstart_J2
 simp only[show decide ((1:Int)<1)=false by decide,show decide ((15:Int)<1)=false by decide,show decide ((8:Int)<1)=false by decide,show decide ((1024:Int)<8)=false by decide,cond_false,h1,show decide ((65536:Int)<0)=false by decide,decide_true,Bool.not_true,cond_true]
 have hc':bcut_D m b 8 true=some ((cut9 b 8 true,0,()),()):=hc
 simp only[hc',bnd_some]
 rfl
theorem bans_none(m:Nat)(tog:Bool)(left:List (List Int))(act er e:Int)(dt:List Int):banswer_D m (tW tog left act er false e) (4,dt,())=some (bif decide (Go.IntKind.wrap .i64 (er+1)=3)then tW tog left act (Go.IntKind.wrap .i64 (er+1)) true 11 else tW tog left act (Go.IntKind.wrap .i64 (er+1)) false e,()):=by
 unfold banswer_D banswer_J0 tW
 simp only[show decide ((8:Int)=0)=false by decide,show decide ((4:Int)=0)=false by decide,show decide ((6:Int)<4)=false by decide,cond_false,decide_true,cond_true]
 cases decide (Go.IntKind.wrap .i64 (er+1)=3)<;>rfl
theorem bans_nak(m:Nat)(tog:Bool)(left:List (List Int))(act er e:Int)(dt:List Int):banswer_D m (tW tog left act er false e) (2,dt,())=some (tW tog left act 0 false e,()):=by
 unfold banswer_D banswer_J0 tW
 simp only[show decide ((8:Int)=0)=false by decide,show decide ((2:Int)=0)=false by decide,show decide ((6:Int)<2)=false by decide,show decide ((2:Int)=4)=false by decide,show decide ((2:Int)=3)=false by decide,show decide ((2:Int)=5)=false by decide,show decide ((2:Int)=1)=false by decide,cond_false]
theorem bans_done(m:Nat)(tog:Bool)(c:List Int)(left:List (List Int))(act er e:Int)(dt:List Int)(h0:0≤act)(h1:act+c.length≤1000000):banswer_D m (tW tog (c::left) act er false e) (1,dt,())=some (bif decide (left= [])then tW (!tog) [] (act+c.length) 0 true 0 else tW (!tog) left (act+c.length) 0 false e,()):=by
 have i0:inB 0 (c::left).length=true:=inT (by omega) (by simp only[List.length_cons];omega)
 have i1:(decide ((0:Int)≤1)&&decide (Int.toNat 1≤(c::left).length))=true:=by rw[dT (by decide:(0:Int)≤1),dT (by simp:Int.toNat 1≤(c::left).length)];rfl
 have e2:(c::left).getD (Int.toNat 0) []=c:=rfl
 have e3:List.drop (Int.toNat 1) (c::left)=left:=rfl
 unfold banswer_D banswer_J0 tW
 simp only[show decide ((8:Int)=0)=false by decide,show decide ((1:Int)=0)=false by decide,show decide ((6:Int)<1)=false by decide,show decide ((1:Int)=4)=false by decide,show decide ((1:Int)=3)=false by decide,show decide ((1:Int)=5)=false by decide,cond_false,decide_true,cond_true,i0,i1,e2,e3]
 rw[wi64 (by omega) (by omega)]
 cases left with
 |nil=>rfl
 |cons x l=>
  rw[dF (by simp only[List.length_cons];omega: ¬(((x::l).length:Nat):Int)=0),dF (by simp: ¬(x::l= []))]
  rfl
theorem bend_eq(m:Nat)(tog:Bool)(left:List (List Int))(act er e:Int)(over:Bool):bend_D m (tW tog left act er over e)=some (bif over then((e,[],act,()),true,())else((0,[],0,()),false,()),()):=by
 unfold bend_D tW
 cases over
 ·rfl
 ·simp only[Bool.not_true,cond_false,bclone_eq m [] (by simp),bnd_some]
  rfl
theorem btog_eq(m:Nat)(tog:Bool)(left:List (List Int))(act er e:Int)(over:Bool):btog_D m (tW tog left act er over e)=some (tog,()):=rfl
end Go.Proofs.Ytngghkoghbpceaa
