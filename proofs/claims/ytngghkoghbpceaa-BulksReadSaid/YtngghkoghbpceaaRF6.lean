/-
  The statement that loops over a function, seen from the function that it stands in.
  Conditions: none.
-/
import Derived.Test.YtngghkoghbpceaaRF5
namespace Go.Proofs.Ytngghkoghbpceaa
open Go.RowKit
set_option linter.unusedVariables false
set_option linter.unusedSimpArgs false
theorem SRep.laid{c:Ctx}{m:Nat→Value}{s:St}{a:Act}{w:World}(h:SRep c m s a w)(o:Obj):SRep c m s a (w.alloc o):=by
 have hb: ∀b,b<w.heap.size→(w.alloc o).heap[b]? =w.heap[b]? :=fun b hb=>by
  show(w.heap.push o)[b]? =w.heap[b]?
  rw[Array.getElem?_push];simp;omega
 have hsz:w.heap.size≤(w.alloc o).heap.size:=by rw[World.size_alloc];omega
 have hk:Kept w (Forb c m s.hp) (w.alloc o) (Forb c m s.hp):=fun b hlt hF=>⟨hF,hb b hlt⟩
 exact⟨h.defers.kept (fun D x hD=>hb D (Array.getElem?_eq_some_iff.1 hD).1),h.nt,fun t v ht=>RepV.kept hk hsz v _ (h.slot t v ht),fun κ B hB=>RepB.kept hk hsz (fun b _ hlt=>hb b hlt) (h.heap κ B hB),h.sep,h.nox,h.old,
  ⟨h.fr.os,h.fr.tape,h.fr.output,Nat.le_trans h.fr.size hsz,fun k hk' hn=>(hb k (Nat.lt_of_lt_of_le hk' h.fr.size)).trans (h.fr.block k hk' hn)⟩,h.xlt,h.pin,h.pinp,h.gl⟩
def okTm(hp:List (Nat×Blk))(ks0:List Nat):AV→Prop
 | .d _=>True
 | .ptr κ _=>κ∈ks0∧ ∃e cs,gt κ hp=some (.box e cs)
 |_=>False
def backHp(ks0:List Nat)(bs:List Blk):List (Nat×Blk):=(ks0.zip bs).map fun x=>(x.1,renB (fun j=>ks0[j]?) x.2)
theorem gt_zip{f:Blk→Blk}{κ:Nat}{B:Blk}: ∀(ks:List Nat) (bs:List Blk),gt κ ((ks.zip bs).map fun x=>(x.1,f x.2))=some B→ ∃(j:Nat) (B0:Blk),ks[j]? =some κ∧bs[j]? =some B0∧B=f B0
 | [],bs,h=>by simp[gt]at h
 |k::ks,[],h=>by simp[gt]at h
 |k::ks,b::bs,h=>by
  simp only[List.zip_cons_cons,List.map_cons,gt]at h
  split at h
  ·rename_i e;cases h;exact⟨0,b,by simp[e],by simp,rfl⟩
  ·obtain⟨j,B0,h1,h2,h3⟩:=gt_zip ks bs h
   exact⟨j+1,B0,by simpa using h1,by simpa using h2,h3⟩
theorem awp_rangeFunc{P:Program}{g:Operand}{ps:Array Tmp}{assign body:Code}{Q:Exit→St→Prop}{s:St}{f:FuncId}{fn0:Func}{caps:List AV}(hev:s.ev g=some (.clos f caps))(hf:IsFn P f fn0)
  (ks:List Nat){bs:List Blk}(hn:ks.Nodup)(hb:pickB (posOf · ks) s.hp ks=some bs)(hk16:ks.length≤16)
  (ks0:List Nat){bs0:List Blk}(hn0:ks0.Nodup)(hb0:pickB (posOf · ks0) s.hp ks0=some bs0)(hk0:ks0.length≤16)(hdis: ∀κ,κ∈ks0→κ∉ks)(hok:okHp (hpFrom 0 bs0)=true)
  (tm0:List (Nat×AV))(htm: ∀t v,gt t tm0=some v→gt t s.tm=some v∧okTm s.hp ks0 v)(Post:List Blk→Prop)
  (hcall: ∀z:RC,z.ps=ps→z.assign=assign→z.body=body→z.tm=mapv (renV (posOf · ks0)) tm0→z.a0.tmps.size=s.n→ICall P f (.d (.v (.func (.yield z.l) #[] #[]))::renVs (posOf · ks) caps) bs z.C (hpFrom 0 bs0) (fun hp'=> ∃bs',hp'=hpFrom 0 bs'∧bs'.length=ks0.length∧Post bs'))
  (next: ∀bs',Post bs'→bs'.length=ks0.length→Q .normal ⟨s.n,tm0,backHp ks0 bs'⟩):AWp P (.rangeFunc g ps assign body) Q s:=by
 intro cx m a w hr
 obtain⟨hl,hget⟩:=pickB_get hb
 obtain⟨hl0,hget0⟩:=pickB_get hb0
 have hdk: ∀κ,κ∈ks→ ∃B,gt κ s.hp=some B:=by
  intro κ hκ
  obtain⟨j,hj⟩:=List.getElem?_of_mem hκ
  obtain⟨B,h4,_⟩:=hget j κ hj
  exact⟨B,h4⟩
 have hdk0: ∀κ,κ∈ks0→ ∃B,gt κ s.hp=some B:=by
  intro κ hκ
  obtain⟨j,hj⟩:=List.getElem?_of_mem hκ
  obtain⟨B,h4,_⟩:=hget0 j κ hj
  exact⟨B,h4⟩
 have hdom0: ∀j B,gt j (hpFrom 0 bs0)=some B→ ∃κ B0,ks0[j]? =some κ∧gt κ s.hp=some B0∧B=renB (posOf · ks0) B0:=by
  intro j B hj
  rw[gt_hp0]at hj
  have hlt:j<ks0.length:=by rw[←hl0];exact(List.getElem?_eq_some_iff.1 hj).1
  have hk:ks0[j]? =some ks0[j]:=by simp[hlt]
  obtain⟨B0,h1,h2⟩:=hget0 j _ hk
  rw[hj]at h2;cases h2
  exact⟨_,B0,hk,h1,rfl⟩
 refine wpIn_wide.1 (wpIn_rangeFunc (n:=0) fun fn hfn=> ?_)
 have hrun0:=run_enterLoop_outer (P:=P) (w:=w) fn a.tmps ps assign body
 obtain⟨z,ez⟩: ∃z:RC,z= {X:=cx.X,S:=cx.S,w0:=cx.w0,pin:=fun j=>match ks0[j]? with|some κ=>(match gt κ s.hp with|some (.box _ _)=>some (m κ)|_=>none)|none=>none,a0:= {a with defers:= []},tm:=mapv (renV (posOf · ks0)) tm0,l:=w.heap.size+1,D:=w.heap.size,Ds:=fun D=>D=w.heap.size∨markD D∈a.defers,fn:=fn,ps:=ps,assign:=assign,body:=body}:=⟨_,rfl⟩
 have elp:({state:= .ready,pending:=none,fn,tmps:=a.tmps,params:=ps,assign,body,defers:=w.heap.size}:Loop)=z.lp:=by rw[ez];rfl
 rw[elp]at hrun0
 generalize hw2:(w.alloc (Obj.deferred (some []))).alloc (.loop z.lp)=w2 at hrun0
 have h2:SRep cx m s a w2:=by rw[←hw2];exact(hr.laid _).laid _
 have hsz1:(w.alloc (Obj.deferred (some []))).heap.size=w.heap.size+1:=World.size_alloc ..
 have hsz:w2.heap.size=w.heap.size+2:=by rw[←hw2,World.size_alloc,hsz1]
 have hlz:w2.heap[z.l]? =some (.loop z.lp):=by
  have:=World.alloc_heap_new (w.alloc (Obj.deferred (some []))) (.loop z.lp)
  rw[hsz1,hw2]at this
  rw[show z.l=w.heap.size+1 by rw[ez]];exact this
 have hold2: ∀b,b<w.heap.size→w2.heap[b]? =w.heap[b]? :=fun b hb=>by
  rw[←hw2]
  show((w.heap.push _).push _)[b]? =w.heap[b]?
  rw[Array.getElem?_push,Array.getElem?_push]
  simp only[Array.size_push]
  rw[if_neg (by omega),if_neg (by omega)]
 have hDz:w2.heap[w.heap.size]? =some (Obj.deferred (some [])):=by
  rw[←hw2]
  show((w.heap.push _).push _)[w.heap.size]? =_
  rw[Array.getElem?_push,Array.getElem?_push]
  simp only[Array.size_push]
  rw[if_neg (by omega)]
  simp
 have hmk: ∀D,markD D∈a.defers→w.heap[D]? =some (Obj.deferred (some []))∧(cx.S D∨cx.w0.heap.size≤D):=by
  intro D hD
  obtain⟨D',h1,h2,h3⟩:=hr.defers.2 _ hD
  cases markD_inj h1
  exact⟨h2,h3⟩
 have hzX:z.X=cx.X:=by rw[ez]
 have hzS:z.S=cx.S:=by rw[ez]
 have hzw:z.w0=cx.w0:=by rw[ez]
 have hza:z.a0= {a with defers:= []}:=by rw[ez]
 have hzt:z.tm=mapv (renV (posOf · ks0)) tm0:=by rw[ez]
 have hzl:z.l=w.heap.size+1:=by rw[ez]
 have hzD: ∀D,z.Ds D↔D=w.heap.size∨markD D∈a.defers:=by rw[ez];exact fun D=>Iff.rfl
 have hzp: ∀j,z.pin j=match ks0[j]? with|some κ=>(match gt κ s.hp with|some (.box _ _)=>some (m κ)|_=>none)|none=>none:=by rw[ez];exact fun κ=>rfl
 have hzbox: ∀j κ e cs,ks0[j]? =some κ→gt κ s.hp=some (.box e cs)→z.pin j=some (m κ):=by
  intro j κ e cs h1 h2
  rw[hzp,h1]
  simp only[h2]
 have hzsome: ∀j v,z.pin j=some v→ ∃κ e cs,ks0[j]? =some κ∧gt κ s.hp=some (.box e cs)∧v=m κ:=by
  intro j v hj
  rw[hzp]at hj
  split at hj
  ·rename_i κ hκ
   split at hj
   ·rename_i e cs hB
    cases hj;exact⟨κ,e,cs,hκ,hB,rfl⟩
   ·cases hj
  ·cases hj
 have hO0': ∀b,Owned (mapOf m ks0) (hpFrom 0 bs0) b→ ∃κ B,κ∈ks0∧gt κ s.hp=some B∧blkOf (m κ)=some b:=by
  rintro b ⟨j,B,h3,h4⟩
  obtain⟨κ,B0,h5,h6,_⟩:=hdom0 j B h3
  rw[mapOf_get h5]at h4
  exact⟨κ,B0,List.mem_of_getElem? h5,h6,h4⟩
 have hO0: ∀b,Owned (mapOf m ks0) (hpFrom 0 bs0) b→Owned m s.hp b:=fun b hb=>by
  obtain⟨κ,B,_,h3,h4⟩:=hO0' b hb
  exact⟨κ,B,h3,h4⟩
 have hO0m: ∀κ b,κ∈ks0→blkOf (m κ)=some b→Owned (mapOf m ks0) (hpFrom 0 bs0) b:=by
  intro κ b hκ h4
  obtain⟨j,hj⟩:=List.getElem?_of_mem hκ
  obtain⟨B,h5,h6⟩:=hget0 j κ hj
  exact⟨j,_,gt_hp0.2 h6,by rw[mapOf_get hj];exact h4⟩
 have hOI: ∀b,(∃κ,κ∈ks∧blkOf (m κ)=some b)→Owned m s.hp b:=by
  rintro b ⟨κ,h3,h4⟩
  obtain⟨B,hB⟩:=hdk κ h3
  exact⟨κ,B,hB,h4⟩
 have hOO: ∀b,(∃κ,κ∈ks∧blkOf (m κ)=some b)→ ¬Owned (mapOf m ks0) (hpFrom 0 bs0) b:=by
  rintro b ⟨κ,h3,h4⟩ h5
  obtain⟨κ',B',h6,h7,h8⟩:=hO0' b h5
  obtain⟨B,hB⟩:=hdk κ h3
  exact hr.sep κ κ' B B' b hB h7 (fun e=>hdis κ' h6 (e▸h3)) h4 h8
 have hOX: ∀b,Owned m s.hp b→ ¬cx.X b:=by
  rintro b ⟨κ,B,h3,h4⟩
  exact hr.nox κ B b h3 h4
 have hOold: ∀b,Owned m s.hp b→cx.S b∨cx.w0.heap.size≤b:=by
  rintro b ⟨κ,B,h3,h4⟩
  exact hr.old κ B b h3 h4
 have hcg:(z.ctx (hpFrom 0 bs0) (fun b=> ∃κ,κ∈ks∧blkOf (m κ)=some b) (mapOf m ks0) w2).X=fun b=>cx.X b∨ ∃κ,κ∈ks∧blkOf (m κ)=some b:=by
  simp only[RC.ctx,hzX]
 obtain⟨hS0,hren0⟩:=h2.hand (c':=z.ctx (hpFrom 0 bs0) (fun b=> ∃κ,κ∈ks∧blkOf (m κ)=some b) (mapOf m ks0) w2) ks0 hn0 hb0 (fun b hb=>by
   rw[hcg]at hb
   rcases hb with hb|hb
   ·exact .inl hb
   ·exact .inr (hOI b hb)) (fun κ b h3 h4 h5=>by
   rw[hcg]at h5
   obtain⟨B,hB⟩:=hdk0 κ h3
   rcases h5 with h5|h5
   ·exact hr.nox κ B b hB h4 h5
   ·exact hOO b h5 (hO0m κ b h3 h4)) (fun κ b h3 h4=> .inl (hO0m κ b h3 h4)) (Fr.refl _ _) (fun b hb=>by
   rw[hcg]at hb
   rcases hb with hb|hb
   ·exact Nat.lt_of_lt_of_le (h2.xlt b hb) h2.fr.size
   ·exact(owned_isC h2 (hOI b hb)).lt)
  (fun j v hj=>by
   obtain⟨κ,e,cs,h3,_,rfl⟩:=hzsome j v hj
   exact mapOf_get h3)
  (fun j v hj=>by
   obtain⟨κ,e,cs,h3,hB,rfl⟩:=hzsome j v hj
   have hlt:=(List.getElem?_eq_some_iff.1 h3).1
   obtain⟨b,c,h1,_⟩:=hr.heap κ _ hB
   exact⟨by omega,_,h1⟩)
  ⟨h2.gtok,fun b cs hb h=>h2.gnot hb (hO0 b h)⟩
 have hAt:z.At (hpFrom 0 bs0) (fun b=> ∃κ,κ∈ks∧blkOf (m κ)=some b) (mapOf m ks0) w2:=by
  refine⟨⟨by rw[hza];exact Marks.nil _ _,rfl,fun t v ht=> ?_,hS0.heap,hS0.sep,hS0.nox,hS0.old,hS0.fr,hS0.xlt,hS0.pin,hS0.pinp,hS0.gl⟩,hok,?_,by rw[hza],hlz,?_,by rw[hzS,hzw];exact h2.fr,?_⟩
  ·rw[hza]
   have ht':gt t (mapv (renV (posOf · ks0)) tm0)=some v:=by rw[←hzt];exact ht
   obtain⟨v0,h3,rfl⟩:=gt_some_mapv ht'
   exact hren0 _ _ (h2.slot t v0 (htm t v0 h3).1)
  ·intro t v ht
   have ht':gt t (mapv (renV (posOf · ks0)) tm0)=some v:=by rw[←hzt];exact ht
   obtain⟨v0,h3,rfl⟩:=gt_some_mapv ht'
   have:=(htm t v0 h3).2
   cases v0 with
   |d x=>simp only[renV];trivial
   |ptr κ off=>
    obtain⟨hm,e,cs,hB⟩:=this
    simp only[renV]
    cases hp:posOf κ ks0 with
    |some j=>
     simp only[RC.okS]
     rw[hzbox j κ e cs (posOf_get hp) hB];simp
    |none=>exact absurd hm (posOf_none hp)
   |_=>exact this.elim
  ·intro D hD
   rcases(hzD D).1 hD with rfl|hD
   ·exact hDz
   ·obtain⟨h3,_⟩:=hmk D hD
    exact(hold2 D (Array.getElem?_eq_some_iff.1 h3).1).trans h3
  ·rintro b (h5|h5)
   ·rw[hzS,hzw];exact hOold b (hOI b h5)
   ·rw[hzS,hzw];exact hOold b (hO0 b h5)
 let cI:Ctx:=⟨w2,fun b=> ∃κ,κ∈ks∧blkOf (m κ)=some b,fun b=>z.X b∨Owned (mapOf m ks0) (hpFrom 0 bs0) b,fun j=>match ks[j]? with|some κ=>(match gt κ s.hp with|some (.box _ _)=>some (m κ)|_=>none)|none=>none⟩
 have hC:z.C (hpFrom 0 bs0) cI:=by
  refine⟨mapOf m ks0,_,hAt,fun b=>Iff.rfl,fun b hb=> ?_,fun b hb _=>hb⟩
  have hc:=owned_isC hr (hOI b hb)
  refine⟨?_,fun h=> ?_,fun h=>hOX b (hOI b hb) (hzX▸h),hOO b hb,by rw[hzS,hzw];exact hOold b (hOI b hb)⟩
  ·intro e;have:=hc.lt;omega
  ·rcases(hzD b).1 h with h|h
   ·have:=hc.lt;omega
   ·exact hc.not (hmk b h).1
 obtain⟨hS,hren⟩:=h2.hand (c':=cI) ks hn hb (fun b hb=>by
   rcases hb with hb|hb
   ·exact .inl (hzX▸hb)
   ·exact .inr (hO0 b hb)) (fun κ b h3 h4 h5=>by
   rcases h5 with h5|h5
   ·exact hOX b (hOI b ⟨κ,h3,h4⟩) (hzX▸h5)
   ·exact hOO b ⟨κ,h3,h4⟩ h5) (fun κ b h3 h4=> .inl ⟨κ,h3,h4⟩) (Fr.refl _ _) (fun b hb=>by
   rcases hb with hb|hb
   ·exact Nat.lt_of_lt_of_le (h2.xlt b (hzX▸hb)) h2.fr.size
   ·exact(owned_isC h2 (hO0 b hb)).lt)
  (fun j v hj=>by
   simp only[cI]at hj
   split at hj
   ·rename_i κ hκ
    split at hj
    ·cases hj;exact mapOf_get hκ
    ·cases hj
   ·cases hj)
  (fun j v hj=>by
   simp only[cI]at hj
   split at hj
   ·rename_i κ hκ
    split at hj
    ·rename_i e cs hB
     cases hj
     have hlt:=(List.getElem?_eq_some_iff.1 hκ).1
     obtain⟨b,c,h1,_⟩:=hr.heap κ _ hB
     exact⟨by omega,_,h1⟩
    ·cases hj
   ·cases hj)
  ⟨h2.gtok,fun b cs hb h=>h2.gnot hb (hOI b h)⟩
 have hcl2:=hren _ _ (h2.ev hev)
 simp only[renV,RepV]at hcl2
 obtain⟨cus',hg1',hcr⟩:=hcl2
 have hargs:RepVs w2 (Forb cI (mapOf m ks) (hpFrom 0 bs)) (mapOf m ks) (.d (.v (.func (.yield z.l) #[] #[]))::renVs (posOf · ks) caps) (.func (.yield z.l) #[] #[]::cus'):=by
  simp only[RepVs]
  exact⟨_,_,rfl,repV_v.2 ⟨rfl,rfl⟩,hcr⟩
 have hI:=hcall z (by rw[ez]) (by rw[ez]) (by rw[ez]) (by rw[ez]) (by rw[hza];exact hr.nt) cI (mapOf m ks) _ w2 hC hS hargs
 have hbn:fn0.body.isNone=false:=by
  have:=hf.body
  cases hbd:fn0.body with
  |none=>rw[hbd]at this;cases this
  |some c=>rfl
 refine⟨w.heap.size+1,_,w2,{target:= .fn (.func f) cus'.toArray,args:= #[.func (.yield z.l) #[] #[]]},w2,f,_,w2,hrun0,?_,fun _ _=>trivial,?_,fun h=>by simp[Fence.wide]at h,CallsIn.mono hI ?_⟩
 ·simp only[resolve,rangeCall]
  rw[hg1']
  simp only[Deferred.ofValue,Sem.run_pure,hzl]
  have e1: #[]++Array.map a.eval #[Operand.const (Value.func (Fn.yield (w.heap.size+1)) #[] #[])]= #[Value.func (.yield (w.heap.size+1)) #[] #[]]:=by
   apply Array.ext';simp;rfl
  rw[e1]
 ·have hfun: ∀us:Array Value,(callFunc f us).run P w2= .ok (.enter f us) w2:=by
   intro us
   simp only[callFunc,Sem.run_bind,program,Sem.run,hf.at_,hf.name,hbn,Result.andThen]
   simp
  simp only[invoke]
  rw[hfun]
  have e1: #[Value.func (.yield z.l) #[] #[]]++cus'.toArray=(Value.func (.yield z.l) #[] #[]::cus').toArray:=by
   apply Array.ext';simp
  rw[e1]
 ·rintro e w' ⟨⟨u,rfl⟩,hp',cx',m',s',a',⟨bs',rfl,hlen',hpost⟩,⟨mA,OI',hA',hX',hS',hC'⟩,hI'⟩
  have hA:=hA'.step hX' hS' hC' hI'
  have hlt:z.l<w'.heap.size:=(Array.getElem?_eq_some_iff.1 hA.lp).1
  show ∃jump w₄,(Instr.endLoop (w.heap.size+1)).run P w'= .ok jump w₄∧_
  rw[←hzl]
  let mB:Nat→Value:=fun κ=>match posOf κ ks0 with|some j=>mA j|none=>m κ
  have hmB: ∀j κ,ks0[j]? =some κ→mB κ=mA j:=by
   intro j κ hj
   simp only[mB]
   rw[posOf_self hn0 hj]
  have hmB': ∀κ,κ∉ks0→mB κ=m κ:=by
   intro κ hκ
   simp only[mB]
   cases hp:posOf κ ks0 with
   |none=>rfl
   |some j=>exact absurd (List.mem_of_getElem? (posOf_get hp)) hκ
  refine⟨none,_,run_endLoop hA.lp (by simp[RC.lp]),⟨s.n,tm0,backHp ks0 bs'⟩,mB,next bs' hpost hlen',?_⟩
  have hdB: ∀κ B,gt κ (backHp ks0 bs')=some B→ ∃j B0,ks0[j]? =some κ∧gt j (hpFrom 0 bs')=some B0∧B=renB (fun j=>ks0[j]?) B0:=by
   intro κ B hB
   obtain⟨j,B0,h3,h4,h5⟩:=gt_zip _ _ hB
   exact⟨j,B0,h3,gt_hp0.2 h4,h5⟩
  have hBO: ∀b,Owned mB (backHp ks0 bs') b→Owned mA (hpFrom 0 bs') b:=by
   rintro b ⟨κ,B,h3,h4⟩
   obtain⟨j,B0,h5,h6,_⟩:=hdB κ B h3
   rw[hmB j κ h5]at h4
   exact⟨j,B0,h6,h4⟩
  have hk:Kept w' (Forb (z.ctx (hpFrom 0 bs') (Owned m' s'.hp) mA w') mA (hpFrom 0 bs')) w' (Forb cx mB (backHp ks0 bs')):=by
   intro b _ hF
   refine⟨?_,rfl⟩
   rintro(h|h)
   ·exact hF (.inl (.inl (hzX▸h)))
   ·exact hF (.inr (hBO b h))
  have hren: ∀(j κ:Nat),ks0[j]? =some κ→mB κ=mA j:=hmB
  have hfr:Fr cx.S cx.w0 w':=by have:=hA.fr;rw[hzS,hzw]at this;exact this
  have h5:SRep cx mB ⟨s.n,tm0,backHp ks0 bs'⟩ {a with defers:= []} w':=by
   refine⟨Marks.nil _ _,hr.nt,fun t v ht=> ?_,fun κ B hB=> ?_,fun κ κ' B B' b h3 h4 hne h6 h7=> ?_,fun κ B b h3 h4 h5=> ?_,fun κ B b h3 h4=> ?_,hfr,hr.xlt,fun κ v hv=> ?_,hr.pinp,hr.gl⟩
   ·obtain⟨h6,h7⟩:=htm t v ht
    have h8:=hA.rep.slot t (renV (posOf · ks0) v) (by
     show gt t z.tm=_
     rw[hzt,gt_mapv,ht];rfl)
    rw[hza]at h8
    cases v with
    |d x=>
     simp only[renV]at h8
     have:=RepV.kept hk (Nat.le_refl _) _ _ h8
     simpa only[RepV]using this
    |ptr κ off=>
     obtain⟨hm,e,cs,hB⟩:=h7
     simp only[renV]at h8
     cases hp:posOf κ ks0 with
     |none=>exact absurd hm (posOf_none hp)
     |some j=>
      simp only[hp,RepV]at h8
      simp only[RepV]
      rw[hmB j κ (posOf_get hp)]
      exact h8
    |_=>exact h7.elim
   ·obtain⟨j,B0,h6,h7,rfl⟩:=hdB κ B hB
    have h8:=RepB.kept hk (Nat.le_refl _) (fun _ _ _=>rfl) (hA.rep.heap j B0 h7)
    exact RepB.ren hmB (hmB j κ h6) h8
   ·obtain⟨j,B0,h8,h9,_⟩:=hdB κ B h3
    obtain⟨j',B0',h8',h9',_⟩:=hdB κ' B' h4
    rw[hmB j κ h8]at h6
    rw[hmB j' κ' h8']at h7
    exact hA.rep.sep j j' B0 B0' b h9 h9' (fun e=>hne (by subst e;rw[h8]at h8';exact Option.some.inj h8')) h6 h7
   ·obtain⟨j,B0,h8,h9,_⟩:=hdB κ B h3
    rw[hmB j κ h8]at h4
    exact hA.rep.nox j B0 b h9 h4 (.inl (hzX▸h5))
   ·have:=hA.own b (.inr (hBO b ⟨κ,B,h3,h4⟩))
    rw[hzS,hzw]at this;exact this
   ·by_cases hm:κ∈ks0
    ·obtain⟨j,hj⟩:=List.getElem?_of_mem hm
     obtain⟨B,hB⟩:=hdk0 κ hm
     have e1:=hr.pin κ v hv
     obtain⟨_,b,e2⟩:=hr.pinp κ v hv
     rw[hmB j κ hj]
     have hrep:=hr.heap κ B hB
     cases B with
     |box e cs=>rw[←e1];exact hA.rep.pin j (m κ) (hzbox j κ e cs hj hB)
     |ints e k xs c=>
      simp only[RepB]at hrep
      rcases hrep.1.2 with⟨_,a,ha⟩|⟨g,o,cap,cur,ha,_⟩<;>rw[e1,e2]at ha<;>cases ha
     |row e n xs c=>
      simp only[RepB]at hrep
      obtain⟨vals,ho,_⟩:=hrep
      rcases ho.2 with⟨_,a,ha⟩|⟨g,o,cap,cur,ha,_⟩<;>rw[e1,e2]at ha<;>cases ha
     |map kvs=>
      simp only[RepB]at hrep
      obtain⟨b',es,ck,ha,_⟩:=hrep
      rw[e1,e2]at ha;cases ha
     |vrow e xs=>
      exfalso
      obtain⟨B1,h71,h72⟩:=hget0 j κ hj
      rw[hB]at h71;cases h71
      have:=okHp_gt hok (κ:=j) (gt_hp0.2 h72)
      simp[renB,okBlk]at this
    ·rw[hmB' κ hm];exact hr.pin κ v hv
  have hDl: ∀D,z.Ds D→D≠z.l:=by
   rintro D hD rfl
   have:=hA.blk _ hD
   rw[hA.lp]at this;cases this
  refine h5.obj rfl ⟨?_,fun d hd=> ?_⟩ (keptC_put hA.lp (by intro cs e z e';cases e')) ⟨hfr.os,hfr.tape,hfr.output,Nat.le_trans hfr.size (by simp[World.putObj]),fun k hk hn=> ?_⟩
  ·show List.Nodup (markD w.heap.size::a.defers)
   refine List.nodup_cons.2 ⟨fun h=> ?_,hr.defers.1⟩
   have:=(Array.getElem?_eq_some_iff.1 (hmk _ h).1).1
   omega
  ·have hd':d=markD w.heap.size∨d∈a.defers:=by
    rcases List.mem_cons.1 (show d∈markD w.heap.size::a.defers from hd)with h|h
    ·exact .inl h
    ·exact .inr h
   rcases hd' with rfl|hd'
   ·have hz:z.Ds w.heap.size:=(hzD _).2 (.inl rfl)
    exact⟨_,rfl,(World.putObj_heap_other (hDl _ hz)).trans (hA.blk _ hz),.inr hr.fr.size⟩
   ·obtain⟨D,rfl,h6,h7⟩:=hr.defers.2 d hd'
    have hz:z.Ds D:=(hzD _).2 (.inr hd')
    exact⟨_,rfl,(World.putObj_heap_other (hDl _ hz)).trans (hA.blk _ hz),h7⟩
  ·rw[←hfr.block k hk hn]
   refine World.putObj_heap_other ?_
   have:=hr.fr.size
   omega
end Go.Proofs.Ytngghkoghbpceaa
