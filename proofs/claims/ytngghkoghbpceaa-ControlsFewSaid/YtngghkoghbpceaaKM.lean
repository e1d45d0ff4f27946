/-
  A loop whose back edge may run into the head of a loop that is told of already.
  Conditions: none.
-/
import Derived.Test.YtngghkoghbpceaaKE
namespace Go.Proofs.Ytngghkoghbpceaa
set_option linter.unusedVariables false
def roundK2{X Y X2 Y2:Type}(inp2:SPat X2)(gh2:List Gh)(outs2:OPat Y2)(L2:X2→Option Y2)(inp:SPat X)(gh:List Gh)(outs:OPat Y)(L:X→Option Y):Exit→SSt→Option Y:=fun e s=>match e with
 | .normal=>match inp2.get (Gh.runs gh2 s)with
  |some x2=>bnd (L2 x2) fun y2=>outs2.put Y y2 outs.get
  |none=>match inp.get (Gh.runs gh s)with
   |some x=>L x
   |none=>none
 |e=>outs.get e s
theorem loop_ok2{P:Program}(hm:P.follows .mixedOrders=true){ck:CallK}(hck:CallOk P ck){fl:FuncId→Bool}{X Y X2 Y2:Type}{inp:SPat X}{gh:List Gh}{outs:OPat Y}{inp2:SPat X2}{gh2:List Gh}{outs2:OPat Y2}{L2:X2→Option Y2}{c:Code}(ht2:LoopOk P X2 Y2 inp2 outs2 L2 c)(L:Nat→X→Option Y){N:Nat}{t:AT}(ht:TreeOk P t c)
  (h0: ∀x,L 0 x=none)(hs: ∀n x,L (n+1) x=codeK P ck fl N t c (inp.put x) (roundK2 inp2 gh2 outs2 L2 inp gh outs (L n))): ∀n,LoopOk P X Y inp outs (L n) c:=by
 intro n
 induction n with
 |zero=>intro x y h;rw[h0]at h;cases h
 |succ n ih=>
  intro x y h R k r hk
  rw[hs]at h
  obtain⟨e,s1,h1,h2⟩:=(codeK_ok hm hck N).1 _ _ _ _ _ ht h
  cases e with
  |normal=>
   simp only[roundK2]at h1
   split at h1
   ·rename_i x2 hx2
    unfold bnd at h1
    obtain⟨y2,hy2,hput⟩:=Option.bind_eq_some_iff.1 h1
    obtain⟨e,s',h3,h4⟩:=ht2 x2 y2 hy2 Y outs.get y hput
    obtain⟨s'',h5,h6⟩:=outs.law _ _ _ h3 R k r hk
    refine⟨e,s'',h5,fun cx m a w Q hQ hr=> ?_⟩
    have:=h2 (fun e s2=>e= .normal∧s2=s1.toSt) ⟨rfl,rfl⟩ cx m a w hr
    refine loopAt_step (Code.wp_mono ?_ this)
    rintro e' a' w' ⟨s2,m',⟨rfl,rfl⟩,hr'⟩
    obtain⟨m2,hr2⟩:=((inp2.le _ _ hx2).gst.trans (Gh.runs_le gh2 s1)) cx m' a' w' hr'
    refine h4 cx m2 a' w' Q (fun m3 a3 w3 hr3=> ?_) hr2
    obtain⟨m4,hr4⟩:=h6 cx m3 a3 w3 hr3
    exact hQ m4 a3 w3 hr4
   ·split at h1
    ·rename_i x' hx
     obtain⟨e,s',h3,h4⟩:=ih x' y h1 R k r hk
     refine⟨e,s',h3,fun cx m a w Q hQ hr=> ?_⟩
     have:=h2 (fun e s2=>e= .normal∧s2=s1.toSt) ⟨rfl,rfl⟩ cx m a w hr
     refine loopAt_step (Code.wp_mono ?_ this)
     rintro e' a' w' ⟨s2,m',⟨rfl,rfl⟩,hr'⟩
     obtain⟨m2,hr2⟩:=((inp.le _ _ hx).gst.trans (Gh.runs_le gh s1)) cx m' a' w' hr'
     exact h4 cx m2 a' w' Q hQ hr2
    ·cases h1
  |_=>
   obtain⟨s',h3,h4⟩:=outs.law _ _ _ h1 R k r hk
   refine⟨_,s',h3,fun cx m a w Q hQ hr=> ?_⟩
   have:=h2 (fun e s2=>e=_∧s2=s1.toSt) ⟨rfl,rfl⟩ cx m a w hr
   refine loopAt_step (Code.wp_mono ?_ this)
   rintro e' a' w' ⟨s2,m',⟨rfl,rfl⟩,hr'⟩
   obtain⟨m2,hr2⟩:=h4 cx m' a' w' hr'
   exact hQ m2 a' w' hr2
end Go.Proofs.Ytngghkoghbpceaa
