/-
  Walks of code in the frame of a round of a loop over a function.
  Conditions: none.
-/
import Derived.Test.YtngghkoghbpceaaRF1
namespace Go.Proofs.Ytngghkoghbpceaa
open Go.RowKit
set_option linter.unusedVariables false
set_option linter.unusedSimpArgs false
def AWpR(P:Program)(l:Nat)(c:Code)(Q:Exit→St→Prop)(s:St):Prop:=
 ∀(cx:Ctx) (m:Nat→Value) (a:Act) (w:World),SRep cx m s a w→c.wpIn (WR l) 0 P (fun e a' w'=> ∃s' m',Q e s'∧SRep cx m' s' a' w') a w
section
variable {P:Program} {l:Nat} {Q:Exit→St→Prop} {s:St}
theorem awpr_seq{x y:Code}(h:AWpR P l x (Xthen (AWpR P l y Q) Q) s):AWpR P l (.seq x y) Q s:=fun cx m a w hr=>by
 refine wpIn_seq (wpIn_mono (h cx m a w hr) ?_)
 rintro e a' w' ⟨s',m',hq,hr'⟩
 cases e with
 |normal=>exact hq cx m' a' w' hr'
 |_=>exact⟨s',m',hq,hr'⟩
theorem awpr_skip(h:Q .normal s):AWpR P l .skip Q s:=fun cx m a w hr=>wpIn_skip ⟨s,m,h,hr⟩
theorem awpr_exit{i:Nat}(h:Q (.exit i) s):AWpR P l (.exit i) Q s:=fun cx m a w hr=>wpIn_exit ⟨s,m,h,hr⟩
theorem awpr_block{i:Nat}{c:Code}(h:AWpR P l c (Xblock i Q) s):AWpR P l (.block i c) Q s:=fun cx m a w hr=>by
 refine wpIn_block (wpIn_mono (h cx m a w hr) ?_)
 rintro e a' w' ⟨s',m',hq,hr'⟩
 cases e with
 |exit j=>
  simp only[Xblock]at hq
  simp only[Exit.inBlock]
  split
  ·rename_i e;rw[if_pos e]at hq;exact⟨s',m',hq,hr'⟩
  ·rename_i e;rw[if_neg e]at hq;exact⟨s',m',hq,hr'⟩
 |_=>exact⟨s',m',hq,hr'⟩
theorem awpr_cond_true{x:Operand}{c d:Code}(hx:s.ev x=some (.d (.v (.bool true))))(h:AWpR P l c Q s):AWpR P l (.cond x c d) Q s:=fun cx m a w hr=>
 wpIn_cond_true (repV_v.1 (hr.ev hx)).1 (h cx m a w hr)
theorem awpr_cond_false{x:Operand}{c d:Code}(hx:s.ev x=some (.d (.v (.bool false))))(h:AWpR P l d Q s):AWpR P l (.cond x c d) Q s:=fun cx m a w hr=>
 wpIn_cond_false (repV_v.1 (hr.ev hx)).1 (h cx m a w hr)
theorem awpr_of_G(hm:P.follows .mixedOrders=true){ops:Array Oper}{draw:Bool}{id:Nat}{s':St}(hd:ops.toList.all noDefer=true)(h: ∀Q:Exit→St→Prop,Q .normal s'→AWpG P ops draw Q s)(hq:Q .normal s'):AWpR P l (.region id ops draw) Q s:=by
 intro cx m a w hr
 cases draw with
 |true=>
  have h0:=h (fun e s2=>e= .normal∧s2=s') ⟨rfl,rfl⟩ cx m a w hr
  have h1:=any_in (l:=some l) (n:=0) hd (by rintro⟨a0,w0,s2,m2,h2,_⟩;cases h2.1) h0
  refine wpIn_mono (wpIn_region_any hm h1) ?_
  rintro e a' w' ⟨s2,m2,⟨rfl,rfl⟩,h3⟩
  exact⟨_,m2,hq,h3⟩
 |false=>
  have h0:AWpL P ops ops.toList (fun s2=>s2=s') s:=h (fun e s2=>s2=s') rfl
  have h1:=h0 cx m a w (fun e a' w'=>e= .normal∧ ∃m',SRep cx m' s' a' w') hr (fun s2 m2 a2 w2 e2 hr2=>⟨rfl,m2,e2▸hr2⟩)
  have h2:=list_in (l:=some l) (n:=0) (by rintro⟨a0,w0,e0,_⟩;cases e0) hd h1
  refine wpIn_mono (wpIn_region_list h2) ?_
  rintro e a' w' ⟨rfl,m2,h3⟩
  exact⟨s',m2,hq,h3⟩
end
def plainC:Code→Bool
 | .skip=>true
 | .exit _=>true
 | .region _ ops _=>ops.toList.all noDefer
 | .seq a b=>plainC a&&plainC b
 | .cond _ a b=>plainC a&&plainC b
 | .block _ c=>plainC c
 |_=>false
theorem awpr_post_gst{P:Program}{l:Nat}{c:Code}{Q:Exit→St→Prop}{s:St}(h:AWpR P l c (fun e s'=> ∃s2,GSt s2 s'∧Q e s2) s):AWpR P l c Q s:=fun cx m a w hr=>by
 refine wpIn_mono (h cx m a w hr) ?_
 rintro e a' w' ⟨s',m',⟨s2,h1,h2⟩,h3⟩
 obtain⟨m2,h4⟩:=h1 cx m' a' w' h3
 exact⟨s2,m2,h2,h4⟩
theorem codeR_ok{R:Type}{P:Program}(hm:P.follows .mixedOrders=true){ck:CallK}(hck:CallOk P ck){fl:FuncId→Bool}: ∀(n:Nat) (c:Code) (s:SSt) (k:Exit→SSt→Option R) (r:R),plainC c=true→codeK P ck fl n .leaf c s k=some r→
  ∃e s',k e s'=some r∧ ∀(l:Nat) (Q:Exit→St→Prop),Q e s'.toSt→AWpR P l c Q s.toSt:=by
 intro n
 induction n with
 |zero=>intro c s k r _ h;simp[codeK]at h
 |succ n ih=>
  intro c s k r hp h
  cases c with
  |skip=>exact⟨_,s,h,fun l Q hq=>awpr_skip hq⟩
  |exit i=>exact⟨_,s,h,fun l Q hq=>awpr_exit hq⟩
  |seq x y=>
   simp only[plainC,Bool.and_eq_true]at hp
   simp only[codeK,AT.l,AT.r,cutK]at h
   obtain⟨e,s1,h3,h4⟩:=ih _ _ _ _ hp.1 h
   cases e with
   |normal=>
    simp only[thenK]at h3
    obtain⟨e',s',h5,h6⟩:=ih _ _ _ _ hp.2 h3
    exact⟨e',s',h5,fun l Q hq=>awpr_seq (h4 l _ (h6 l Q hq))⟩
   |_=>exact⟨_,s1,h3,fun l Q hq=>awpr_seq (h4 l _ hq)⟩
  |cond x a b=>
   simp only[plainC,Bool.and_eq_true]at hp
   simp only[codeK,AT.l,AT.r]at h
   split at h
   ·rename_i hx
    obtain⟨e,s',h3,h4⟩:=ih _ _ _ _ hp.1 h
    exact⟨e,s',h3,fun l Q hq=>awpr_cond_true (by simpa only[SV.toAV]using SSt.ev_img hx) (h4 l Q hq)⟩
   ·rename_i hx
    obtain⟨e,s',h3,h4⟩:=ih _ _ _ _ hp.2 h
    exact⟨e,s',h3,fun l Q hq=>awpr_cond_false (by simpa only[SV.toAV]using SSt.ev_img hx) (h4 l Q hq)⟩
   ·rename_i z hx
    cases z with
    |true=>
     obtain⟨e,s',h3,h4⟩:=ih _ _ _ _ hp.1 h
     rw[knowO_img hx]at h4
     exact⟨e,s',h3,fun l Q hq=>awpr_cond_true (by simpa only[SV.toAV]using SSt.ev_img hx) (h4 l Q hq)⟩
    |false=>
     obtain⟨e,s',h3,h4⟩:=ih _ _ _ _ hp.2 h
     rw[knowO_img hx]at h4
     exact⟨e,s',h3,fun l Q hq=>awpr_cond_false (by simpa only[SV.toAV]using SSt.ev_img hx) (h4 l Q hq)⟩
   ·cases h
  |block i c=>
   simp only[plainC]at hp
   simp only[codeK,AT.l]at h
   obtain⟨e,s1,h3,h4⟩:=ih _ _ _ _ hp h
   cases e with
   |exit j=>
    simp only[blockK]at h3
    split at h3
    ·rename_i e;exact⟨_,s1,h3,fun l Q hq=>awpr_block (h4 l _ (by simp only[Xblock];rw[if_pos e];exact hq))⟩
    ·rename_i e;exact⟨_,s1,h3,fun l Q hq=>awpr_block (h4 l _ (by simp only[Xblock];rw[if_neg e];exact hq))⟩
   |_=>exact⟨_,s1,h3,fun l Q hq=>awpr_block (h4 l _ hq)⟩
  |region id ops draw=>
   simp only[plainC]at hp
   simp only[codeK,regK]at h
   obtain⟨s',h1,h2⟩:=regK0_ok hck h
   exact⟨_,_,h1,fun l Q hq=>awpr_post_gst (awpr_of_G hm hp (fun Q hq=>h2 Q hq) ⟨_,matR_le s',hq⟩)⟩
  |_=>simp[plainC]at hp
end Go.Proofs.Ytngghkoghbpceaa
