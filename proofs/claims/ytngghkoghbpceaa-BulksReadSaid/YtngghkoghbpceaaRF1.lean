/-
  What holds of code in a function's own frame holds of it in the frame of a round of a loop over a function.
  Conditions: none.
-/
import Derived.Test.YtngghkoghbpceaaKF
import Derived.RangeFuncIn
import Derived.RangeFuncRecord
import Derived.RangeFuncCalls
import Derived.OrdersIn
import Derived.TacticsIn
namespace Go.Proofs.Ytngghkoghbpceaa
open Go.RowKit
set_option linter.unusedVariables false
set_option linter.unusedSimpArgs false
def FR:Option Nat→Fence
 |none=>Fence.wide
 |some l=>Fence.wide.inRound l
abbrev WR(l:Nat):Fence:=FR (some l)
theorem fr_depth(o:Option Nat):(FR o).depth.isSome=true→False:=by cases o<;>simp[FR,Fence.inRound,Fence.wide]
theorem fr_fn(o:Option Nat)(f:FuncId):(FR o).fn f:=by cases o<;>exact trivial
theorem callsFR{o:Option Nat}{n:Nat}{P:Program}{f:FuncId}{args:Array Value}{w:World}{R:Ending→World→Prop}(h:Calls P f args w R):CallsIn (FR o) n P f args w R:=by
 cases o with
 |none=>exact callsIn_wide.2 h
 |some l=>exact CallsIn.inRound l (callsIn_wide.2 h)
def noDefer(o:Oper):Bool:=match o.op with| .defer _=>false|_=>true
theorem noDefer_ne{o:Oper}(h:noDefer o=true): ∀c,o.op≠ .defer c:=by
 intro c e;unfold noDefer at h;rw[e]at h;cases h
theorem upon_in{P:Program}{o:Oper}{a:Act}{next next':Act→World→Prop}{Q Q':Exit→Act→World→Prop}{l:Option Nat}{n:Nat}(hl: ¬LetsOut Q)(hn: ∀a w,next a w→next' a w)(hp: ∀c a w,Q (.panic c) a w→Q' (.panic c) a w){r:Result Next}(h:o.upon P a next Q r):o.uponIn (FR l) n P a next' Q' r:=by
 cases r with
 |ok x w'=>
  cases x<;>simp only[Oper.upon,Oper.uponIn]at h ⊢
  case value v=>exact hn _ _ h
  case skip=>exact hn _ _ h
  case defer d=>exact hn _ _ h
  case enter f args=>
   refine⟨fun hd=>(fr_depth l hd).elim,callsFR (h.mono ?_)⟩
   intro e w'' he
   cases e with
   |returned v=>exact hn _ _ he
   |panicked c=>exact hp _ _ _ he
   |outgrown=>exact absurd he hl
  case row row args=>
   refine⟨fun hd=>(fr_depth l hd).elim,?_⟩
   have h':=h.mono (R':=fun v w''=>next' (a.put o.dst v) w'') (fun v w'' he=>hn _ _ he)
   cases l with
   |none=>exact fun c cs hr=>let ⟨v,w',r,s⟩:=h' c cs;⟨v,w',r,(stepsIn_wide (P:=P)).2 s⟩
   |some l=>exact fun c cs hr=>let ⟨v,w',r,s⟩:=h' c cs;⟨v,w',r,(stepsIn_wide (P:=P)).2 s⟩
  all_goals exact h.elim
 |halt x w'=>
  cases x<;>simp only[Oper.upon,Oper.uponIn]at h ⊢
  case panic v=>exact hp _ _ _ h
  all_goals exact h.elim
theorem op_in{P:Program}{o:Oper}{a:Act}{w:World}{next next':Act→World→Prop}{Q Q':Exit→Act→World→Prop}{l:Option Nat}{n:Nat}(hd:noDefer o=true)(hl: ¬LetsOut Q)(hn: ∀a w,next a w→next' a w)(hp: ∀c a w,Q (.panic c) a w→Q' (.panic c) a w)(h:o.wp P a w next Q):o.wpIn (FR l) n P a w next' Q':=by
 unfold Oper.wpIn
 refine⟨fun f _=>fr_fn l f,?_⟩
 rw[Oper.semAt_eq _ _ _ (noDefer_ne hd)]
 exact upon_in hl hn hp h
theorem list_in{P:Program}{ops:Array Oper}{Q:Exit→Act→World→Prop}{l:Option Nat}{n:Nat}(hl: ¬LetsOut Q): ∀ {os:List Oper} {a:Act} {w:World},os.all noDefer=true→wpList P ops Q os a w→wpListIn (FR l) n P ops Q os a w
 | [],a,w,_,h=>by unfold wpList at h;unfold wpListIn;exact h
 |o::rest,a,w,hd,h=>by
  simp only[List.all_cons,Bool.and_eq_true]at hd
  unfold wpList at h
  unfold wpListIn
  split
  ·rename_i hw
   rw[if_pos hw]at h
   rcases h with h|h
   ·exact op_in hd.1 hl (fun a' w' h'=>list_in hl hd.2 h') (fun _ _ _ h'=>h') h
   ·exact absurd h.2 hl
  ·rename_i hw
   rw[if_neg hw]at h
   exact⟨fun f _=>fr_fn l f,list_in hl hd.2 h⟩
theorem list_app{P:Program}{ops:Array Oper}{K Q:Exit→Act→World→Prop}{l:Option Nat}{n:Nat}{rest:List Oper}(hl: ¬LetsOut K)(hn: ∀a w,K .normal a w→wpListIn (FR l) n P ops Q rest a w)(hp: ∀c a w,K (.panic c) a w→Q (.panic c) a w): ∀ {os:List Oper} {a:Act} {w:World},os.all noDefer=true→wpList P ops K os a w→wpListIn (FR l) n P ops Q (os++rest) a w
 | [],a,w,_,h=>by unfold wpList at h;exact hn _ _ h
 |o::os,a,w,hd,h=>by
  simp only[List.all_cons,Bool.and_eq_true]at hd
  unfold wpList at h
  rw[List.cons_append]
  unfold wpListIn
  split
  ·rename_i hw
   rw[if_pos hw]at h
   rcases h with h|h
   ·exact op_in hd.1 hl (fun a' w' h'=>list_app hl hn hp hd.2 h') hp h
   ·exact absurd h.2 hl
  ·rename_i hw
   rw[if_neg hw]at h
   exact⟨fun f _=>fr_fn l f,list_app hl hn hp hd.2 h⟩
theorem any_in{P:Program}{md:Region.Mode}{ops:Array Oper}{Q:Exit→Act→World→Prop}{l:Option Nat}{n:Nat}(hd:ops.toList.all noDefer=true)(hl: ¬LetsOut Q): ∀ {fuel:Nat} {listed:Array Bool} {a:Act} {w:World},wpAny P md ops Q fuel listed a w→wpAnyIn (FR l) n P md ops Q fuel listed a w:=by
 intro fuel
 induction fuel with
 |zero=>intro listed a w h;exact h
 |succ fuel ih=>
  intro listed a w h
  refine⟨h.1,fun i hi=> ?_⟩
  have h2:=h.2 i hi
  unfold wpOp at h2
  unfold wpOpIn
  cases ho:ops[i]? with
  |none=>rw[ho]at h2;exact ih h2
  |some o=>
   rw[ho]at h2
   simp only at h2 ⊢
   have hdo:noDefer o=true:=by
    have:=List.all_eq_true.1 hd o (by
     obtain⟨hlt,e⟩:=Array.getElem?_eq_some_iff.1 ho
     rw[←e];exact Array.getElem_mem_toList hlt)
    exact this
   split
   ·rename_i hw
    rw[if_pos hw]at h2
    rcases h2 with h2|h2
    ·exact op_in hdo hl (fun a' w' h'=>ih h') (fun _ _ _ h'=>h') h2
    ·exact absurd h2.2 hl
   ·rename_i hw
    rw[if_neg hw]at h2
    exact⟨fun f _=>fr_fn l f,ih h2⟩
end Go.Proofs.Ytngghkoghbpceaa
