/-
  A function that is looped over, reckoned out: codeK with calls of yield.
  Conditions: none.
-/
import Derived.Test.YtngghkoghbpceaaRF7
namespace Go.Proofs.Ytngghkoghbpceaa
open Go.RowKit
set_option linter.unusedVariables false
set_option linter.unusedSimpArgs false
def YK(α:Type):Type 1:=(R:Type)→Value→α→List SV→(α→Option R)→Option R
def YKOk(P:Program){α:Type}(C:α→Ctx→Prop)(yk:YK α):Prop:= ∀(R:Type) (V:Value) (g:α) (vs:List SV) (K:α→Option R) (r:R),yk R V g vs K=some r→
 ∃(l:Nat) (g':α) (ds:List D) (Step:α→List D→α→Prop),V= .func (.yield l) #[] #[]∧YieldOk P l C Step∧Step g ds g'∧K g'=some r∧RepsLe (SV.toAVs vs) (ds.map .d)
theorem repDs_of{w:World}{F:Nat→Prop}{m:Nat→Value}: ∀ {ds:List D} {us:List Value},RepVs w F m (ds.map .d) us→RepDs w F ds us
 | [],us,h=>by simp only[List.map_nil,RepVs]at h;subst h;exact .nil
 |d::ds,us,h=>by
  simp only[List.map_cons,RepVs,RepV]at h
  obtain⟨u,rest,rfl,h1,h2⟩:=h
  exact .cons h1 (repDs_of h2)
def vvp:VPat Value where
 get v:=match v with
  | .d (.v x)=>some x
  |_=>none
 put x:= .d (.v x)
 le v x h:=by
  split at h
  ·cases h;exact AVLe.refl _
  ·cases h
def callArgs(o:Oper):List Operand:=match o.op with
 | .call c=>c.args.toList
 |_=> []
def yopK{R α:Type}(yk:YK α)(s:SSt)(g:α)(o:Oper)(k:SSt→α→Option R):Option R:=
 match o.op,o.guard with
 | .call c,none=>match c.callee with
  | .value x=>match s.ev x with
   |some (.d (.v V))=>match s.evL c.args.toList with
    |some vs=>match s.okDst o.dst with
     |true=>yk R V g vs fun g'=>k (s.put o.dst (.d (.v (.bool true)))) g'
     |false=>none
    |none=>none
   |_=>none
  |_=>none
 |_,_=>none
theorem yopK_ok{R α:Type}{P:Program}{C:α→Ctx→Prop}{yk:YK α}(hyk:YKOk P C yk){s:SSt}{g:α}{o:Oper}{k:SSt→α→Option R}{r:R}(h:yopK yk s g o k=some r):
  ∃s' g',k s' g'=some r∧ ∀(ops:Array Oper) (rest:List Oper) (N:St→α→Prop),AWpLC P C ops rest N s'.toSt g'→AWpLC P C ops (o::rest) N s.toSt g:=by
 unfold yopK at h
 split at h
 ·rename_i c ho hg
  split at h
  ·rename_i x hc
   split at h
   ·rename_i V hx
    split at h
    ·rename_i vs hvs
     split at h
     ·rename_i hd
      obtain⟨l,g',ds,Step,rfl,hy,hst,hk,hle⟩:=hyk _ _ _ _ _ _ h
      refine⟨_,g',hk,fun ops rest N hn=> ?_⟩
      rw[put_img]at hn
      refine awplc_yield hy hg (by unfold noDefer;rw[ho]) (ds:=ds) ?_ (by rw[okDst_img];exact hd) hst hn
      intro cx m a w hr
      have hgu:=(repV_v.1 (hr.ev (SSt.ev_img hx))).1
      refine⟨c.args.toList.map a.eval,?_,repDs_of (hle _ _ _ _ (evL_rep hr (evL_img hvs)))⟩
      obtain⟨cl,args,tys⟩:=c
      simp only at hc
      subst hc
      simp only[execOp,ho,resolve,hgu,Deferred.ofValue,Sem.run_bind,Sem.run_pure,Result.andThen_ok,invoke]
      have e1: #[]++Array.map a.eval args=(List.map a.eval args.toList).toArray:=by apply Array.ext';simp
      rw[e1]
     ·cases h
    ·cases h
   ·cases h
  ·cases h
 ·cases h
inductive YT (α:Type):Type 1 where
 |plain (t:AT)
 |seq (a b:YT α)
 |cond (a b:YT α)
 |block (a:YT α)
 |reg (i:Nat)
 |cut (X Y:Type) (inp:SPat X) (gh:List Gh) (outs:OPat Y) (L:(R:Type)→X→(Y→Option R)→Option R)
 |loop (X Y:Type) (inp:SPat X) (gh:List Gh) (outs:OPat Y) (L:X→α→Option (Y×α))
def thenY{R α:Type}(k1:SSt→α→Option R)(k:Exit→SSt→α→Option R):Exit→SSt→α→Option R:=fun e s g=>match e with
 | .normal=>k1 s g
 |e=>k e s g
def blockY{R α:Type}(i:Nat)(k:Exit→SSt→α→Option R):Exit→SSt→α→Option R:=fun e s g=>match e with
 | .exit j=>if j=i then k .normal s g else k (.exit j) s g
 |e=>k e s g
def regY{R α:Type}(P:Program)(ck:CallK)(fl:FuncId→Bool)(yk:YK α)(i:Nat)(ops:Array Oper)(s:SSt)(g:α)(k:SSt→α→Option R):Option R:=
 opsR P ck fl ops (ops.toList.take i) s fun s1=>match ops.toList.drop i with
  |o::post=>yopK yk s1 g o fun s2 g'=>opsR P ck fl ops post s2 fun s3=>k s3 g'
  | []=>none
def codeY{R α:Type}(P:Program)(ck:CallK)(fl:FuncId→Bool)(yk:YK α)(N:Nat):YT α→Code→SSt→α→(Exit→SSt→α→Option R)→Option R
 | .plain t,c,s,g,k=>codeK P ck fl N t c s fun e s'=>k e s' g
 | .seq a b,c,s,g,k=>match c with
  | .seq x y=>codeY P ck fl yk N a x s g (thenY (fun s' g'=>codeY P ck fl yk N b y s' g' k) k)
  |_=>none
 | .cond a b,c,s,g,k=>match c with
  | .cond o x y=>match s.ev o with
   |some (.d (.v (.bool true)))=>codeY P ck fl yk N a x s g k
   |some (.d (.v (.bool false)))=>codeY P ck fl yk N b y s g k
   |some (.b z)=>cond z (codeY P ck fl yk N a x (s.knowO o true) g k) (codeY P ck fl yk N b y (s.knowO o false) g k)
   |_=>none
  |_=>none
 | .block a,c,s,g,k=>match c with
  | .block i x=>codeY P ck fl yk N a x s g (blockY i k)
  |_=>none
 | .reg i,c,s,g,k=>match c with
  | .region _ ops false=>regY P ck fl yk i ops s g (k .normal)
  |_=>none
 | .cut X Y inp gh outs L,c,s,g,k=>match inp.get (Gh.runs gh s)with
  |some x=>L R x fun y=>outs.put R y fun e s'=>k e s' g
  |none=>none
 | .loop X Y inp gh outs L,c,s,g,k=>match inp.get (Gh.runs gh s)with
  |some x=>bnd (L x g) fun y=>outs.put R y.1 fun e s'=>k e s' y.2
  |none=>none
def LoopYOk(P:Program){α:Type}(C:α→Ctx→Prop)(X Y:Type)(inp:SPat X)(outs:OPat Y)(L:X→α→Option (Y×α))(c:Code):Prop:=
 ∀x g y,L x g=some y→ ∀(R:Type) (k:Exit→SSt→Option R) (r:R),outs.put R y.1 k=some r→ ∃e s',k e s'=some r∧ ∀Q:Exit→St→α→Prop,Q e s'.toSt y.2→AWpC P C (.loop c) Q (inp.put x).toSt g
def TreeY(P:Program){α:Type}(C:α→Ctx→Prop):YT α→Code→Prop
 | .plain t,c=>TreeOk P t c
 | .seq a b,c=>match c with
  | .seq x y=>TreeY P C a x∧TreeY P C b y
  |_=>False
 | .cond a b,c=>match c with
  | .cond _ x y=>TreeY P C a x∧TreeY P C b y
  |_=>False
 | .block a,c=>match c with
  | .block _ x=>TreeY P C a x
  |_=>False
 | .reg i,c=>match c with
  | .region _ ops _=>cond (ops.toList.all noDefer) True False
  |_=>False
 | .cut X Y inp gh outs L,c=>CutOk P X Y inp outs L c
 | .loop X Y inp gh outs L,c=>match c with
  | .loop c=>LoopYOk P C X Y inp outs L c
  |_=>False
theorem regY_ok{R α:Type}{P:Program}{C:α→Ctx→Prop}{ck:CallK}(hck:CallOk P ck){fl:FuncId→Bool}{yk:YK α}(hyk:YKOk P C yk){i:Nat}{ops:Array Oper}(hd:ops.toList.all noDefer=true){s:SSt}{g:α}{k:SSt→α→Option R}{r:R}(h:regY P ck fl yk i ops s g k=some r):
  ∃s' g',k s' g'=some r∧ ∀N:St→α→Prop,N s'.toSt g'→AWpLC P C ops ops.toList N s.toSt g:=by
 unfold regY at h
 obtain⟨s1,h1,h2⟩:=opsR_ok hck h
 split at h1
 ·rename_i o post hp
  obtain⟨s2,g',h3,h4⟩:=yopK_ok hyk h1
  obtain⟨s3,h5,h6⟩:=opsR_ok hck h3
  have e:ops.toList=ops.toList.take i++(o::post):=by rw[←hp,List.take_append_drop]
  have hd1:(ops.toList.take i).all noDefer=true:=by rw[e,List.all_append,Bool.and_eq_true]at hd;exact hd.1
  have hd2:post.all noDefer=true:=by
   rw[e,List.all_append,Bool.and_eq_true,List.all_cons,Bool.and_eq_true]at hd;exact hd.2.2
  refine⟨s3,g',h5,fun N hn=> ?_⟩
  rw[e]
  refine awplc_pre hd1 (h2 (fun s'=>s'=s1.toSt) rfl) ?_
  rintro _ rfl
  refine h4 ops post N ?_
  have:=awplc_pre (P:=P) (C:=C) (ops:=ops) (rest:= []) (N:=N) (g:=g') hd2 (h6 (fun s'=>s'=s3.toSt) rfl) (by rintro _ rfl;exact awplc_nil hn)
  rwa [List.append_nil]at this
 ·cases h1
theorem codeY_ok{R α:Type}{P:Program}{C:α→Ctx→Prop}(hm:P.follows .mixedOrders=true){ck:CallK}(hck:CallOk P ck){fl:FuncId→Bool}{yk:YK α}(hyk:YKOk P C yk){N:Nat}: ∀(t:YT α) (c:Code) (s:SSt) (g:α) (k:Exit→SSt→α→Option R) (r:R),TreeY P C t c→codeY P ck fl yk N t c s g k=some r→
  ∃e s' g',k e s' g'=some r∧ ∀Q:Exit→St→α→Prop,Q e s'.toSt g'→AWpC P C c Q s.toSt g:=by
 intro t
 induction t with
 |plain t=>
  intro c s g k r ht h
  simp only[codeY]at h
  obtain⟨e,s',h1,h2⟩:=(codeK_ok hm hck N).1 _ _ _ _ _ ht h
  exact⟨e,s',g,h1,fun Q hq=>awpc_of (h2 (fun e s=>Q e s g) hq)⟩
 |seq a b iha ihb=>
  intro c s g k r ht h
  simp only[codeY]at h
  split at h
  ·simp only[TreeY]at ht
   obtain⟨e,s1,g1,h1,h2⟩:=iha _ _ _ _ _ ht.1 h
   cases e with
   |normal=>
    simp only[thenY]at h1
    obtain⟨e',s',g',h3,h4⟩:=ihb _ _ _ _ _ ht.2 h1
    exact⟨e',s',g',h3,fun Q hq=>awpc_seq (h2 _ (h4 Q hq))⟩
   |_=>exact⟨_,s1,g1,h1,fun Q hq=>awpc_seq (h2 _ hq)⟩
  ·cases h
 |cond a b iha ihb=>
  intro c s g k r ht h
  simp only[codeY]at h
  split at h
  ·simp only[TreeY]at ht
   split at h
   ·rename_i hx
    obtain⟨e,s',g',h3,h4⟩:=iha _ _ _ _ _ ht.1 h
    exact⟨e,s',g',h3,fun Q hq=>awpc_cond_true (by simpa only[SV.toAV]using SSt.ev_img hx) (h4 Q hq)⟩
   ·rename_i hx
    obtain⟨e,s',g',h3,h4⟩:=ihb _ _ _ _ _ ht.2 h
    exact⟨e,s',g',h3,fun Q hq=>awpc_cond_false (by simpa only[SV.toAV]using SSt.ev_img hx) (h4 Q hq)⟩
   ·rename_i z hx
    cases z with
    |true=>
     obtain⟨e,s',g',h3,h4⟩:=iha _ _ _ _ _ ht.1 h
     rw[knowO_img hx]at h4
     exact⟨e,s',g',h3,fun Q hq=>awpc_cond_true (by simpa only[SV.toAV]using SSt.ev_img hx) (h4 Q hq)⟩
    |false=>
     obtain⟨e,s',g',h3,h4⟩:=ihb _ _ _ _ _ ht.2 h
     rw[knowO_img hx]at h4
     exact⟨e,s',g',h3,fun Q hq=>awpc_cond_false (by simpa only[SV.toAV]using SSt.ev_img hx) (h4 Q hq)⟩
   ·cases h
  ·cases h
 |block a iha=>
  intro c s g k r ht h
  simp only[codeY]at h
  split at h
  ·simp only[TreeY]at ht
   obtain⟨e,s1,g1,h1,h2⟩:=iha _ _ _ _ _ ht h
   cases e with
   |exit j=>
    simp only[blockY]at h1
    split at h1
    ·rename_i e;exact⟨_,s1,g1,h1,fun Q hq=>awpc_block (h2 _ (by simp only[Xblock'];rw[if_pos e];exact hq))⟩
    ·rename_i e;exact⟨_,s1,g1,h1,fun Q hq=>awpc_block (h2 _ (by simp only[Xblock'];rw[if_neg e];exact hq))⟩
   |_=>exact⟨_,s1,g1,h1,fun Q hq=>awpc_block (h2 _ hq)⟩
  ·cases h
 |reg i=>
  intro c s g k r ht h
  simp only[codeY]at h
  split at h
  ·simp only[TreeY]at ht
   have ht': ∀b:Bool,cond b True False→b=true:=fun b hb=>by cases b<;>first|rfl|exact hb.elim
   obtain⟨s',g',h1,h2⟩:=regY_ok hck hyk (ht' _ ht) h
   exact⟨.normal,s',g',h1,fun Q hq=>awpc_region (h2 _ hq)⟩
  ·cases h
 |cut X Y inp gh outs L=>
  intro c s g k r ht h
  simp only[codeY]at h
  split at h
  ·rename_i x hx
   simp only[TreeY]at ht
   obtain⟨y,h1,h2⟩:=ht R x _ r h
   obtain⟨e,s',h3,h4⟩:=h2 R _ r h1
   exact⟨e,s',g,h3,fun Q hq=>awpc_gst (awpc_of (h4 (fun e s=>Q e s g) hq)) ((inp.le _ _ hx).gst.trans (Gh.runs_le gh s))⟩
  ·cases h
 |loop X Y inp gh outs L=>
  intro c s g k r ht h
  simp only[codeY]at h
  split at h
  ·rename_i x hx
   unfold bnd at h
   obtain⟨y,hy,hk⟩:=Option.bind_eq_some_iff.1 h
   cases c with
   |loop c=>
    simp only[TreeY]at ht
    obtain⟨e,s',h3,h4⟩:=ht x g y hy R _ r hk
    exact⟨e,s',y.2,h3,fun Q hq=>awpc_gst (h4 Q hq) ((inp.le _ _ hx).gst.trans (Gh.runs_le gh s))⟩
   |_=>simp only[TreeY]at ht
  ·cases h
def roundY{X Y α:Type}(inp:SPat X)(gh:List Gh)(outs:OPat Y)(L:X→α→Option (Y×α)):Exit→SSt→α→Option (Y×α):=fun e s g=>match e with
 | .normal=>match inp.get (Gh.runs gh s)with
  |some x=>L x g
  |none=>none
 |e=>(outs.get e s).map fun y=>(y,g)
theorem loopY_ok{α:Type}{P:Program}{C:α→Ctx→Prop}(hm:P.follows .mixedOrders=true){ck:CallK}(hck:CallOk P ck){fl:FuncId→Bool}{yk:YK α}(hyk:YKOk P C yk){X Y:Type}{inp:SPat X}{gh:List Gh}{outs:OPat Y}(L:Nat→X→α→Option (Y×α)){N:Nat}{t:YT α}{c:Code}(ht:TreeY P C t c)
  (h0: ∀x g,L 0 x g=none)(hs: ∀n x g,L (n+1) x g=codeY P ck fl yk N t c (inp.put x) g (roundY inp gh outs (L n))): ∀n,LoopYOk P C X Y inp outs (L n) c:=by
 intro n
 suffices key: ∀n x g y,L n x g=some y→ ∀(R:Type) (k:Exit→SSt→Option R) (r:R),outs.put R y.1 k=some r→ ∃e s',k e s'=some r∧ ∀Q:Exit→St→α→Prop,Q e s'.toSt y.2→RoundsC P C c Q n (inp.put x).toSt g by
  intro x g y hy R k r hk
  obtain⟨e,s',h1,h2⟩:=key n x g y hy R k r hk
  exact⟨e,s',h1,fun Q hq=>awpc_loop n (h2 Q hq)⟩
 intro n
 induction n with
 |zero=>intro x g y h;rw[h0]at h;cases h
 |succ n ih=>
  intro x g y h R k r hk
  rw[hs]at h
  obtain⟨e,s1,g1,h1,h2⟩:=codeY_ok hm hck hyk _ _ _ _ _ _ ht h
  cases e with
  |normal=>
   simp only[roundY]at h1
   split at h1
   ·rename_i x' hx
    obtain⟨e,s',h3,h4⟩:=ih x' g1 y h1 R k r hk
    refine⟨e,s',h3,fun Q hq=>roundsC_step (h2 _ ?_)⟩
    intro cx m a w hc hr
    obtain⟨m2,hr2⟩:=((inp.le _ _ hx).gst.trans (Gh.runs_le gh s1)) cx m a w hr
    exact h4 Q hq cx m2 a w hc hr2
   ·cases h1
  |_=>
   simp only[roundY]at h1
   obtain⟨y0,hy0,rfl⟩:=Option.map_eq_some_iff.1 h1
   obtain⟨s',h3,h4⟩:=outs.law _ _ _ hy0 R k r hk
   refine⟨_,s',h3,fun Q hq=>roundsC_step ?_⟩
   refine fun cx m a w hc hr=> ?_
   have:=h2 (fun e s2 g2=>e=_∧s2=s1.toSt∧g2=g1) ⟨rfl,rfl,rfl⟩ cx m a w hc hr
   refine wpIn_mono this ?_
   rintro e' a' w' ⟨cx',m',s2,g2,hc2,⟨rfl,rfl,rfl⟩,hr'⟩
   obtain⟨m2,hr2⟩:=h4 cx' m' a' w' hr'
   exact⟨cx',m2,_,_,hc2,hq,hr2⟩
def endY{α:Type}:Exit→SSt→α→Option α:=fun e _ g=>match e with
 | .ret=>some g
 | .normal=>some g
 |_=>none
theorem icallY{α:Type}{P:Program}{C:α→Ctx→Prop}(hm:P.follows .mixedOrders=true){ck:CallK}(hck:CallOk P ck){fl:FuncId→Bool}{yk:YK α}(hyk:YKOk P C yk){N:Nat}{t:YT α}{f:FuncId}{fn:Func}{c:Code}{vs:List SV}{hs:List SB}{g g':α}(hf:P.funcs[f]? =some fn)(hb:fn.body=some c)(hle:vs.length≤fn.ntmps)(hres:fn.results= #[])
  (ht:TreeY P C t c)(h:codeY P ck fl yk N t c ⟨fn.ntmps,tmFromS 0 vs,hpFromS 0 hs⟩ g endY=some g'):ICall P f (SV.toAVs vs) (hs.map SB.toB) C g (fun g2=>g2=g'):=by
 obtain⟨e,s',g1,h1,h2⟩:=codeY_ok hm hck hyk _ _ _ _ _ _ ht h
 have e1:(⟨fn.ntmps,tmFromS 0 vs,hpFromS 0 hs⟩:SSt).toSt=⟨fn.ntmps,tmFrom 0 (SV.toAVs vs),hpFrom 0 (hs.map SB.toB)⟩:=by
  simp only[SSt.toSt,tmFromS_img,hpFromS_img]
 rw[e1]at h2
 refine icall_of hf hb (by rw[toAVs_len];exact hle) hres (h2 _ ?_)
 cases e with
 |normal=>simp only[endY,Option.some.injEq]at h1;exact⟨.inr rfl,h1⟩
 |ret=>simp only[endY,Option.some.injEq]at h1;exact⟨.inl rfl,h1⟩
 |_=>simp[endY]at h1
def funY{α:Type}(P:Program)(ck:CallK)(fl:FuncId→Bool)(yk:YK α)(N:Nat)(t:YT α)(f:FuncId)(vs:List SV)(hs:List SB)(g:α):Option α:=
 match P.funcs[f]? with
 |some fn=>match fn.body,fn.results.toList with
  |some c,[]=>cond (decide (vs.length≤fn.ntmps)) (codeY P ck fl yk N t c ⟨fn.ntmps,tmFromS 0 vs,hpFromS 0 hs⟩ g endY) none
  |_,_=>none
 |none=>none
theorem funY_ok{α:Type}{P:Program}{C:α→Ctx→Prop}(hm:P.follows .mixedOrders=true){ck:CallK}(hck:CallOk P ck){fl:FuncId→Bool}{yk:YK α}(hyk:YKOk P C yk){N:Nat}{t:YT α}{f:FuncId}{vs:List SV}{hs:List SB}{g g':α}
  (ht:TreeY P C t (bodyAt P f []))(h:funY P ck fl yk N t f vs hs g=some g'):ICall P f (SV.toAVs vs) (hs.map SB.toB) C g (fun g2=>g2=g'):=by
 unfold funY at h
 split at h
 ·rename_i fn hfn
  split at h
  ·rename_i c hc hr
   have ht':TreeY P C t c:=by
    unfold bodyAt at ht
    rw[hfn]at ht
    simp only[hc,sub]at ht
    exact ht
   have hb: ∀(b:Bool) (x:Option α),cond b x none=some g'→b=true∧x=some g':=by
    intro b x hx;cases b
    ·cases hx
    ·exact⟨rfl,hx⟩
   obtain⟨h1,h2⟩:=hb _ _ h
   exact icallY hm hck hyk hfn hc (of_decide_eq_true h1) (by apply Array.ext';simpa using hr) ht' h2
  ·cases h
 ·cases h
end Go.Proofs.Ytngghkoghbpceaa
