/-
  The function that is looped over: walks that call yield.
  Conditions: none.
-/
import Derived.Test.YtngghkoghbpceaaRF4
import Derived.LoopNIn
namespace Go.Proofs.Ytngghkoghbpceaa
open Go.RowKit
set_option linter.unusedVariables false
set_option linter.unusedSimpArgs false
def YieldOk(P:Program)(l:Nat){α:Type}(C:α→Ctx→Prop)(Step:α→List D→α→Prop):Prop:=
 ∀(g:α) (ds:List D) (g':α) (cI:Ctx) (mI:Nat→Value) (sI:St) (aI:Act) (w:World) (us:List Value),Step g ds g'→C g cI→SRep cI mI sI aI w→RepDs w (Forb cI mI sI.hp) ds us→
  ∃fn tmps assign body,(Instr.yield l us.toArray).run P w= .ok (.round l fn tmps assign body) w∧RoundIn Fence.wide 0 P l fn tmps assign body w fun e w'=>e= .returned (.bool true)∧ ∃cI',C g' cI'∧SRep cI' mI sI aI w'
theorem yieldC{P:Program}{z:RC}:YieldOk P z.l z.C (fun hp ds hp'=>RoundOk P z ds hp hp'):=by
 intro hp ds hp' cI mI sI aI w us hr ⟨m,OI,hA0,hX,hS,hC⟩ hI hds
 have hA:=hA0.step hX hS hC hI
 have hds':RepDs w (Forb (z.ctx hp (Owned mI sI.hp) m w) m hp) ds us:=hds.imp fun d u h=>RepD.g (fun b _ hF=>⟨fun h'=>hF (by
  rcases h' with(h'|h')|h'
  ·exact .inl ((hX b).2 (.inl h'))
  ·exact .inr h'
  ·exact .inl ((hX b).2 (.inr h'))),rfl⟩) d u h
 refine⟨_,_,_,_,run_yield hA.lp (by simpa[RC.lp,hds.len]using hr.1),?_⟩
 refine(roundAt hA hds' hr (fun b hb=>(owned_isC hI hb).lt)).mono ?_
 rintro e w' ⟨rfl,hf,m',hA',hown⟩
 have hIsz: ∀b,Owned mI sI.hp b→ ¬Owned m hp b:=by
  rintro b ⟨κ,B,h1,h2⟩ h
  exact hI.nox κ B b h1 h2 ((hX b).2 (.inr h))
 have hIX: ∀b,Owned mI sI.hp b→ ¬z.X b:=by
  rintro b ⟨κ,B,h1,h2⟩ h
  exact hI.nox κ B b h1 h2 ((hX b).2 (.inl h))
 have hIO': ∀b,Owned mI sI.hp b→ ¬Owned m' hp' b:=fun b hb h=>by
  rcases hown b h with h|h
  ·exact hIsz b hb h
  ·have:=(owned_isC hI hb).lt;omega
 have hmk: ∀b,markD b∈aI.defers→w.heap[b]? =some (Obj.deferred (some []))∧(cI.S b∨cI.w0.heap.size≤b):=by
  intro b hb
  obtain⟨D,h1,h2,h3⟩:=hI.defers.2 _ hb
  cases markD_inj h1
  exact⟨h2,h3⟩
 have hmk': ∀b,markD b∈aI.defers→w'.heap[b]? =some (Obj.deferred (some [])):=fun b hb=>by
  obtain⟨h1,_⟩:=hmk b hb
  rw[hf.block b (Array.getElem?_eq_some_iff.1 h1).1 (fun h=>(owned_isC hA.rep h).not h1)]
  exact h1
 refine⟨rfl,⟨w',fun b=>Owned mI sI.hp b∨markD b∈aI.defers,fun b=>z.X b∨Owned m' hp' b,cI.pin⟩,⟨m',Owned mI sI.hp,hA',fun b=>Iff.rfl,?_,?_⟩,?_⟩
 ·rintro b (hb|hb)
  ·have hc:=owned_isC hI hb
   exact⟨fun e=>hc.not_loop (e▸hA.lp),fun e=>hc.not (hA.blk b e),hIX b hb,hIO' b hb,hA.own b (.inl hb)⟩
  ·obtain⟨h1,h2⟩:=hmk b hb
   have hlt:=(Array.getElem?_eq_some_iff.1 h1).1
   have hno: ¬Owned m hp b:=fun h=>(owned_isC hA.rep h).not h1
   have hno': ¬Owned m' hp' b:=fun h=>by
    rcases hown b h with h|h
    ·exact hno h
    ·omega
   rcases h2 with h2|h2
   ·obtain⟨s1,s2,s3,_,s5⟩:=hS b h2
    exact⟨s1,s2,s3,hno',s5⟩
   ·refine⟨?_,?_,?_,hno',.inr (Nat.le_trans hA0.fr.size h2)⟩
    ·rintro rfl;rw[hA.lp]at h1;cases h1
    ·intro hb';have:=(Array.getElem?_eq_some_iff.1 (hA0.blk b hb')).1;omega
    ·intro h;have:=hA0.rep.xlt b (.inl h);simp only[RC.ctx]at this;omega
 ·rintro b (hb|hb) hc
  ·exact hb
  ·exact(hc.not (hmk' b hb)).elim
 ·have hk:Kept w (Forb cI mI sI.hp) w' (Forb ⟨w',fun b=>Owned mI sI.hp b∨markD b∈aI.defers,fun b=>z.X b∨Owned m' hp' b,cI.pin⟩ mI sI.hp):=by
   intro b hb hF
   refine⟨?_,hf.block b hb (fun h=>hF (.inl ((hX b).2 (.inr h))))⟩
   rintro((h|h)|h)
   ·exact hF (.inl ((hX b).2 (.inl h)))
   ·rcases hown b h with h|h
    ·exact hF (.inl ((hX b).2 (.inr h)))
    ·omega
   ·exact hF (.inr h)
  refine⟨⟨hI.defers.1,fun d hd=> ?_⟩,hI.nt,fun t v ht=>RepV.kept hk hf.size v _ (hI.slot t v ht),fun κ B hB=>RepB.kept hk hf.size (fun b hb hlt=>hf.block b hlt (hIsz b ⟨κ,B,hB,hb⟩)) (hI.heap κ B hB),hI.sep,?_,fun κ B b h1 h2=> .inl (.inl ⟨κ,B,h1,h2⟩),Fr.refl _ _,?_,hI.pin,hI.pinp,⟨hA'.rep.gtok,fun b cs hb h=>by
   rcases h with h|h
   ·exact hI.gnot hb h
   ·obtain⟨e,z',h3⟩:=hA'.rep.gtok b cs hb
    rw[hmk' b h]at h3;cases h3⟩⟩
  ·obtain⟨D,rfl,_,_⟩:=hI.defers.2 d hd
   exact⟨D,rfl,hmk' D hd,.inl (.inr hd)⟩
  ·rintro κ B b h1 h2 (h|h)
   ·exact hIX b ⟨κ,B,h1,h2⟩ h
   ·exact hIO' b ⟨κ,B,h1,h2⟩ h
  ·rintro b (h|h)
   ·exact Nat.lt_of_lt_of_le (hA.rep.xlt b (.inl h)) hf.size
   ·exact(owned_isC hA'.rep h).lt
def AWpC(P:Program){α:Type}(C:α→Ctx→Prop)(c:Code)(Q:Exit→St→α→Prop)(s:St)(g:α):Prop:=
 ∀(cx:Ctx) (m:Nat→Value) (a:Act) (w:World),C g cx→SRep cx m s a w→c.wpIn Fence.wide 0 P (fun e a' w'=> ∃cx' m' s' g',C g' cx'∧Q e s' g'∧SRep cx' m' s' a' w') a w
def AWpLC(P:Program){α:Type}(C:α→Ctx→Prop)(ops:Array Oper)(os:List Oper)(N:St→α→Prop)(s:St)(g:α):Prop:=
 ∀(cx:Ctx) (m:Nat→Value) (a:Act) (w:World) (K:Exit→Act→World→Prop),C g cx→SRep cx m s a w→(∀cx' m' s' g' a' w',C g' cx'→N s' g'→SRep cx' m' s' a' w'→K .normal a' w')→wpListIn Fence.wide 0 P ops K os a w
section
variable {P:Program} {α:Type} {C:α→Ctx→Prop} {Q:Exit→St→α→Prop} {s:St} {g:α}
theorem awpc_of{c:Code}(h:AWp P c (fun e s'=>Q e s' g) s):AWpC P C c Q s g:=fun cx m a w hc hr=>by
 refine wpIn_wide.2 (Code.wp_mono ?_ (h cx m a w hr))
 rintro e a' w' ⟨s',m',hq,hr'⟩
 exact⟨cx,m',s',g,hc,hq,hr'⟩
def Xthen'(N:St→α→Prop)(Q:Exit→St→α→Prop):Exit→St→α→Prop
 | .normal,s,g=>N s g
 |e,s,g=>Q e s g
def Xblock'(i:Nat)(Q:Exit→St→α→Prop):Exit→St→α→Prop
 | .exit j,s,g=>if j=i then Q .normal s g else Q (.exit j) s g
 |e,s,g=>Q e s g
theorem awpc_seq{x y:Code}(h:AWpC P C x (Xthen' (AWpC P C y Q) Q) s g):AWpC P C (.seq x y) Q s g:=fun cx m a w hc hr=>by
 refine wpIn_seq (wpIn_mono (h cx m a w hc hr) ?_)
 rintro e a' w' ⟨cx',m',s',g',h1,h2,h3⟩
 cases e with
 |normal=>exact h2 cx' m' a' w' h1 h3
 |_=>exact⟨cx',m',s',g',h1,h2,h3⟩
theorem awpc_block{i:Nat}{c:Code}(h:AWpC P C c (Xblock' i Q) s g):AWpC P C (.block i c) Q s g:=fun cx m a w hc hr=>by
 refine wpIn_block (wpIn_mono (h cx m a w hc hr) ?_)
 rintro e a' w' ⟨cx',m',s',g',h1,h2,h3⟩
 cases e with
 |exit j=>
  simp only[Xblock']at h2
  simp only[Exit.inBlock]
  split
  ·rename_i e;rw[if_pos e]at h2;exact⟨cx',m',s',g',h1,h2,h3⟩
  ·rename_i e;rw[if_neg e]at h2;exact⟨cx',m',s',g',h1,h2,h3⟩
 |_=>exact⟨cx',m',s',g',h1,h2,h3⟩
theorem awpc_cond_true{x:Operand}{c d:Code}(hx:s.ev x=some (.d (.v (.bool true))))(h:AWpC P C c Q s g):AWpC P C (.cond x c d) Q s g:=fun cx m a w hc hr=>
 wpIn_cond_true (repV_v.1 (hr.ev hx)).1 (h cx m a w hc hr)
theorem awpc_cond_false{x:Operand}{c d:Code}(hx:s.ev x=some (.d (.v (.bool false))))(h:AWpC P C d Q s g):AWpC P C (.cond x c d) Q s g:=fun cx m a w hc hr=>
 wpIn_cond_false (repV_v.1 (hr.ev hx)).1 (h cx m a w hc hr)
theorem awpc_gst{c:Code}{s2:St}(h:AWpC P C c Q s2 g)(hs:GSt s2 s):AWpC P C c Q s g:=fun cx m a w hc hr=>by
 obtain⟨m2,h2⟩:=hs cx m a w hr
 exact h cx m2 a w hc h2
def RoundsC(P:Program){α:Type}(C:α→Ctx→Prop)(c:Code)(Q:Exit→St→α→Prop)(n:Nat)(s:St)(g:α):Prop:=
 ∀(cx:Ctx) (m:Nat→Value) (a:Act) (w:World),C g cx→SRep cx m s a w→Code.roundsIn Fence.wide 0 P c (fun e a' w'=> ∃cx' m' s' g',C g' cx'∧Q e s' g'∧SRep cx' m' s' a' w') n a w
theorem roundsC_step{c:Code}{n:Nat}(h:AWpC P C c (Xthen' (RoundsC P C c Q n) Q) s g):RoundsC P C c Q (n+1) s g:=fun cx m a w hc hr=>by
 rw[roundsIn_succ]
 refine wpIn_mono (h cx m a w hc hr) ?_
 rintro e a' w' ⟨cx',m',s',g',h1,h2,h3⟩
 cases e with
 |normal=>exact h2 cx' m' a' w' h1 h3
 |_=>exact⟨cx',m',s',g',h1,h2,h3⟩
theorem awpc_loop{c:Code}(n:Nat)(h:RoundsC P C c Q n s g):AWpC P C (.loop c) Q s g:=fun cx m a w hc hr=>wpIn_loop_rounds n (h cx m a w hc hr)
theorem awpc_region{id:Nat}{ops:Array Oper}(h:AWpLC P C ops ops.toList (Q .normal) s g):AWpC P C (.region id ops false) Q s g:=fun cx m a w hc hr=>
 wpIn_region_list (h cx m a w _ hc hr fun cx' m' s' g' a' w' h1 h2 h3=>⟨cx',m',s',g',h1,h2,h3⟩)
theorem awplc_nil{ops:Array Oper}{N:St→α→Prop}(h:N s g):AWpLC P C ops [] N s g:=fun cx m a w K hc hr hK=>hK cx m s g a w hc h hr
theorem awplc_pre{ops:Array Oper}{pre rest:List Oper}{N:St→α→Prop}{N1:St→Prop}(hd:pre.all noDefer=true)(h:AWpL P ops pre N1 s)(hn: ∀s',N1 s'→AWpLC P C ops rest N s' g):AWpLC P C ops (pre++rest) N s g:=fun cx m a w K hc hr hK=>by
 have h1:=h cx m a w (fun e a' w'=>e= .normal∧ ∃s' m',N1 s'∧SRep cx m' s' a' w') hr (fun s' m' a' w' h2 h3=>⟨rfl,s',m',h2,h3⟩)
 refine list_app (l:=none) (n:=0) (by rintro⟨a0,w0,h0,_⟩;cases h0) ?_ ?_ hd h1
 ·rintro a' w' ⟨_,s',m',h2,h3⟩
  exact hn s' h2 cx m' a' w' K hc h3 hK
 ·rintro c a' w' ⟨h0,_⟩;cases h0
def GoesY(P:Program)(s:St)(o:Oper)(l:Nat)(ds:List D):Prop:= ∀(cx:Ctx) (m:Nat→Value) (a:Act) (w:World),SRep cx m s a w→ ∃us:List Value,(execOp a.eval o).run P w=(Instr.yield l us.toArray).run P w∧RepDs w (Forb cx m s.hp) ds us
theorem awplc_yield{ops:Array Oper}{o:Oper}{rest:List Oper}{N:St→α→Prop}{l:Nat}{Step:α→List D→α→Prop}(hy:YieldOk P l C Step)(hg:o.guard=none)(hd:noDefer o=true){ds:List D}{g':α}(hgo:GoesY P s o l ds)(hdst:s.okDst o.dst=true)(hst:Step g ds g')
  (next:AWpLC P C ops rest N (s.put o.dst (.d (.v (.bool true)))) g'):AWpLC P C ops (o::rest) N s g:=fun cx m a w K hc hr hK=>by
 obtain⟨us,h1,h2⟩:=hgo cx m a w hr
 obtain⟨fn,tmps,assign,body,h3,h4⟩:=hy g ds g' cx m s a w us hst hc hr h2
 unfold wpListIn
 rw[if_pos (wanted_none hg _)]
 unfold Oper.wpIn
 refine⟨fun _ _=>trivial,?_⟩
 rw[Oper.semAt_eq _ _ _ (noDefer_ne hd),h1,h3,Oper.uponIn_round]
 refine⟨fun h=>by simp[Fence.wide]at h,h4.mono ?_⟩
 rintro e w' ⟨rfl,cx',h5,h6⟩
 exact next cx' m _ w' K h5 (h6.put hdst (repV_v.2 ⟨rfl,rfl⟩)) hK
end
def ICall(P:Program)(f:FuncId)(vs:List AV)(hs:List Blk){α:Type}(C:α→Ctx→Prop)(g:α)(Post:α→Prop):Prop:=
 ∀(cx:Ctx) (m:Nat→Value) (us:List Value) (w:World),C g cx→SRep cx m (St.bare hs) Act.none0 w→RepVs w (Forb cx m (hpFrom 0 hs)) m vs us→
  CallsIn Fence.wide 0 P f us.toArray w fun e w'=>(∃u,e= .returned u)∧ ∃g' cx' m' s' a',Post g'∧C g' cx'∧SRep cx' m' s' a' w'
theorem icall_of{P:Program}{f:FuncId}{fn:Func}{c:Code}{vs:List AV}{hs:List Blk}{α:Type}{C:α→Ctx→Prop}{g:α}{Post:α→Prop}(hf:P.funcs[f]? =some fn)(hb:fn.body=some c)(hle:vs.length≤fn.ntmps)(hres:fn.results= #[])
  (h:AWpC P C c (fun e s' g'=>(e= .ret∨e= .normal)∧Post g') ⟨fn.ntmps,tmFrom 0 vs,hpFrom 0 hs⟩ g):ICall P f vs hs C g Post:=by
 intro cx m us w hc h1 h2
 have hul:=(RepVs_iff.1 h2).1
 refine callsIn_of_wp_marks hf hb trivial (wpIn_mono (h cx m _ w hc ⟨Marks.nil _ _,?_,?_,h1.heap,h1.sep,h1.nox,h1.old,h1.fr,h1.xlt,h1.pin,h1.pinp,h1.gl⟩) ?_)
 ·simp;omega
 ·intro t v ht
  obtain⟨_,hv⟩:=gt_tmFrom ht
  obtain⟨u,h4,h5⟩:=(RepVs_iff.1 h2).2 _ v hv
  simp only[Nat.sub_zero]at h4
  have hlt:t<us.length:=(List.getElem?_eq_some_iff.1 h4).1
  have:(us.toArray++Array.replicate (fn.ntmps - us.toArray.size) undef).getD t undef=u:=by
   rw[Array.getD_eq_getD_getElem?,Array.getElem?_append_left (by simpa using hlt)]
   simp[h4]
  rw[this];exact h5
 ·rintro e a' w' ⟨cx',m',s',g',h3,⟨he,hp⟩,h4⟩
  obtain⟨w2,h5,h6⟩:=h4.left
  have key:=leavesM_taken (P:=P) (fn:=fn) (tmps:=a'.tmps) (R:=fun e w'=>(∃u,e= .returned u)∧ ∃g' cx' m' s' a',Post g'∧C g' cx'∧SRep cx' m' s' a' w') h5 (by
   refine⟨.tuple #[],?_,⟨_,rfl⟩,g',cx',m',s',_,hp,h3,h6⟩
   simp[results,hres,Sem.run_bind,Sem.run_pure,Result.andThen])
  rcases he with rfl|rfl<;>exact key
end Go.Proofs.Ytngghkoghbpceaa
