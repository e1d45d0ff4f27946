/-
  A round's code, reckoned out.
  Conditions: none.
-/
import Derived.Test.YtngghkoghbpceaaRF6
namespace Go.Proofs.Ytngghkoghbpceaa
open Go.RowKit
set_option linter.unusedVariables false
set_option linter.unusedSimpArgs false
def onN{R:Type}(f:SSt→Option R):Exit→SSt→Option R
 | .normal,s=>f s
 |_,_=>none
def rfA:Code→Code
 | .rangeFunc _ _ a _=>a
 | .block _ c=>rfA c
 |_=> .skip
def rfB:Code→Code
 | .rangeFunc _ _ _ b=>b
 | .block _ c=>rfB c
 |_=> .skip
def CutR(P:Program)(X Y:Type)(inp:SPat X)(outs:OPat Y)(L:(R:Type)→X→(Y→Option R)→Option R)(a b:Code):Prop:=
 ∀(R:Type) x (K:Y→Option R) (r:R),L R x K=some r→ ∃y,K y=some r∧ ∀(R':Type) (k:Exit→SSt→Option R') (r':R'),outs.put R' y k=some r'→ ∃e s',k e s'=some r'∧
  ∀(l:Nat) (Q:Exit→St→Prop),Q e s'.toSt→AWpR P l a (Xthen (AWpR P l b Q) (fun _ _=>False)) (inp.put x).toSt
theorem cutR_ok{P:Program}(hm:P.follows .mixedOrders=true){ck:CallK}(hck:CallOk P ck){fl:FuncId→Bool}{X Y:Type}{inp:SPat X}{outs:OPat Y}{L:(R:Type)→X→(Y→Option R)→Option R}{N:Nat}{a b:Code}(ha:plainC a=true)(hb:plainC b=true)
  (hs: ∀(R:Type) x (K:Y→Option R),L R x K=codeK P ck fl N .leaf a (inp.put x) (onN fun s1=>codeK P ck fl N .leaf b s1 (fun e s=>bnd (outs.get e s) K))):CutR P X Y inp outs L a b:=by
 intro R x K r h
 rw[hs]at h
 obtain⟨e1,s1,h1,h2⟩:=codeR_ok hm hck N _ _ _ _ ha h
 cases e1 with
 |normal=>
  simp only[onN]at h1
  obtain⟨e,s',h3,h4⟩:=codeR_ok hm hck N _ _ _ _ hb h1
  unfold bnd at h3
  obtain⟨y,hy,hK⟩:=Option.bind_eq_some_iff.1 h3
  refine⟨y,hK,fun R' k r' hk=> ?_⟩
  obtain⟨s2,h5,h6⟩:=outs.law _ _ _ hy R' k r' hk
  refine⟨e,s2,h5,fun l Q hq=>h2 l _ ?_⟩
  exact awpr_post_gst (h4 l (fun e s'=> ∃s2,GSt s2 s'∧Q e s2) ⟨_,h6,hq⟩)
 |_=>simp[onN]at h1
theorem roundOk_of{P:Program}{z:RC}{ds:List D}{hp hp':List (Nat×Blk)}{s:St}(hlen:ds.length=z.ps.size)(hts: ∀t∈z.ps.toList,t<z.a0.tmps.size)(hok:okHp hp'=true)(hs:putsS z.ps.toList ds (z.st hp)=s)
  (h: ∀(l:Nat) (Q:Exit→St→Prop),(∀s',s'.hp=hp'→Q .normal s')→AWpR P l z.assign (Xthen (AWpR P l z.body Q) (fun _ _=>False)) s):RoundOk P z ds hp hp':=
 ⟨hlen,hts,hok,by rw[hs];exact h z.l _ (fun s' h'=>⟨rfl,h'⟩)⟩
end Go.Proofs.Ytngghkoghbpceaa
