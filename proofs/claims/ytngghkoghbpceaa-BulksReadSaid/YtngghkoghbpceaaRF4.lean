/-
  One round of a loop over a function, seen from both sides.
  Conditions: none.
-/
import Derived.Test.YtngghkoghbpceaaRF3
namespace Go.Proofs.Ytngghkoghbpceaa
open Go.RowKit
set_option linter.unusedVariables false
set_option linter.unusedSimpArgs false
theorem putObj_undo{w:World}{l:Nat}{o o':Obj}(h:w.heap[l]? =some o):(w.putObj l o').putObj l o=w:=by
 unfold World.putObj
 have:(w.heap.setIfInBounds l o').setIfInBounds l o=w.heap:=by
  obtain⟨hl,e⟩:=Array.getElem?_eq_some_iff.1 h
  refine Array.ext_getElem? fun i=> ?_
  simp only[Array.getElem?_setIfInBounds,Array.size_setIfInBounds]
  by_cases hi:l=i
  ·subst hi;simp[hl,e]
  ·simp[hi]
 show({w with heap:=(w.heap.setIfInBounds l o').setIfInBounds l o}:World)=w
 rw[this]
theorem SRep.turnRec{c:Ctx}{m:Nat→Value}{s:St}{a:Act}{w:World}(h:SRep c m s a w){l:Nat}{r r':Loop}(hl:w.heap[l]? =some (.loop r)):SRep {c with w0:=c.w0.putObj l (.loop r')} m s a (w.putObj l (.loop r')):=by
 have hk:=keptC_put (w:=w) (D:=l) (o':= .loop r') hl (by intro cs e z e';cases e')
 refine⟨⟨h.defers.1,fun d hd=> ?_⟩,h.nt,fun t v hv=>RepV.obj hk v _ (h.slot t v hv),fun κ B hB=>(h.heap κ B hB).obj hk,h.sep,h.nox,fun κ B b h1 h2=> ?_,⟨h.fr.os,h.fr.tape,h.fr.output,?_,fun k hk' hn=> ?_⟩,fun b hb=> ?_,h.pin,h.pinp,⟨fun b cs hb=>by
  obtain⟨e,z,h1⟩:=h.gl.1 b cs hb
  obtain⟨e',z',h2⟩:=h.gtok b cs hb
  exact⟨e,z,(World.putObj_heap_other (by rintro rfl;rw[hl]at h2;cases h2)).trans h1⟩,h.gl.2⟩⟩
 ·obtain⟨D,h1,h2,h3⟩:=h.defers.2 d hd
  refine⟨D,h1,(World.putObj_heap_other ?_).trans h2,?_⟩
  ·rintro rfl;rw[hl]at h2;cases h2
  ·simpa[World.putObj]using h3
 ·simpa[World.putObj]using h.old κ B b h1 h2
 ·simpa[World.putObj]using h.fr.size
 ·have hk0:k<c.w0.heap.size:=by simpa[World.putObj]using hk'
  by_cases e:k=l
  ·subst e
   have h1:=(Array.getElem?_eq_some_iff.1 hl).1
   simp[World.putObj,h1,hk0]
  ·rw[World.putObj_heap_other e,World.putObj_heap_other e]
   exact h.fr.block k hk0 hn
 ·simpa[World.putObj]using h.xlt b hb
def putsS:List Tmp→List D→St→St
 |t::ts,d::ds,s=>putsS ts ds (s.put (some t) (.d d))
 |_,_,s=>s
inductive RepDs (w:World) (F:Nat→Prop):List D→List Value→Prop
 |nil:RepDs w F [] []
 |cons {d:D} {u:Value} {ds:List D} {us:List Value} (h:RepD w F d u) (hr:RepDs w F ds us):RepDs w F (d::ds) (u::us)
theorem RepDs.imp{w w':World}{F F':Nat→Prop}(hi: ∀d u,RepD w F d u→RepD w' F' d u){ds:List D}{us:List Value}(h:RepDs w F ds us):RepDs w' F' ds us:=by
 induction h with
 |nil=>exact .nil
 |cons h _ ih=>exact .cons (hi _ _ h) ih
theorem RepDs.len{w:World}{F:Nat→Prop}{ds:List D}{us:List Value}(h:RepDs w F ds us):us.length=ds.length:=by
 induction h with
 |nil=>rfl
 |cons h _ ih=>simp[ih]
theorem SRep.puts{c:Ctx}{m:Nat→Value}{w:World}: ∀(ts:List Tmp) (ds:List D) (us:List Value) {s:St} {a:Act},SRep c m s a w→(∀t∈ts,t<s.n)→RepDs w (Forb c m s.hp) ds us→
  SRep c m (putsS ts ds s) {a with tmps:=(ts.zip us).foldl (fun tmps (x:Tmp×Value)=>tmps.setIfInBounds x.1 x.2) a.tmps} w
 | [],ds,us,s,a,h,_,_=>by simpa[putsS]using h
 |t::ts,[],_,s,a,h,_,.nil=>by simpa[putsS]using h
 |t::ts,d::ds,u::us,s,a,h,ht,.cons h1 h2=>by
  have h3:=h.put (dst:=some t) (v:= .d d) (u:=u) (by simpa[St.okDst]using ht t (List.mem_cons_self ..)) (by simpa only[RepV]using h1)
  have h4:=SRep.puts ts ds us h3 (fun t' ht'=>ht t' (List.mem_cons_of_mem _ ht')) h2
  simpa[putsS,Act.put]using h4
def RoundOk(P:Program)(z:RC)(ds:List D)(hp hp':List (Nat×Blk)):Prop:=
 ds.length=z.ps.size∧(∀t∈z.ps.toList,t<z.a0.tmps.size)∧okHp hp'=true∧
 AWpR P z.l z.assign (Xthen (AWpR P z.l z.body (fun e s=>e= .normal∧s.hp=hp')) (fun _ _=>False)) (putsS z.ps.toList ds (z.st hp))
theorem roundAt{P:Program}{z:RC}{hp hp':List (Nat×Blk)}{OI:Nat→Prop}{m:Nat→Value}{w:World}(hA:z.At hp OI m w){ds:List D}{us:List Value}(hds:RepDs w (Forb (z.ctx hp OI m w) m hp) ds us)(hr:RoundOk P z ds hp hp')(hOI: ∀b,OI b→b<w.heap.size):
  RoundIn Fence.wide 0 P z.l z.fn ((z.ps.zip us.toArray).foldl (fun tmps (t,a)=>tmps.setIfInBounds t a) z.a0.tmps) z.assign z.body w fun e w'=>e= .returned (.bool true)∧Fr (Owned m hp) w w'∧ ∃m',z.At hp' OI m' w'∧ ∀b,Owned m' hp' b→Owned m hp b∨w.heap.size≤b:=by
 obtain⟨hlen,hts,hok,hwp⟩:=hr
 have h0:=hA.rep.puts z.ps.toList ds us (by simpa[RC.st]using hts) hds
 have etm:(z.ps.zip us.toArray).foldl (fun tmps (t,a)=>tmps.setIfInBounds t a) z.a0.tmps=(z.ps.toList.zip us).foldl (fun tmps (x:Tmp×Value)=>tmps.setIfInBounds x.1 x.2) z.a0.tmps:=by
  rw[←Array.foldl_toList];simp[Array.toList_zip]
 rw[etm]
 have hd0:({tmps:=(z.ps.toList.zip us).foldl (fun tmps (x:Tmp×Value)=>tmps.setIfInBounds x.1 x.2) z.a0.tmps,defers:= []}:Act)= {z.a0 with tmps:=(z.ps.toList.zip us).foldl (fun tmps (x:Tmp×Value)=>tmps.setIfInBounds x.1 x.2) z.a0.tmps}:=by
  have h0:=hA.none0
  show Act.mk _ _=Act.mk _ _
  rw[h0]
 have hlO: ∀w',Fr (Owned m hp) w w'→w'.heap[z.l]? =w.heap[z.l]? :=fun w' hf=>hf.block _ (Array.getElem?_eq_some_iff.1 hA.lp).1 (fun h=>(owned_isC hA.rep h).not_loop hA.lp)
 refine roundIn_of_wpIn trivial ?_
 rw[hd0]
 refine wpIn_mono (hwp _ _ _ _ h0) ?_
 rintro e a1 w1 ⟨s1,m1,hq,h1⟩
 cases e with
 |normal=>
  simp only[Xthen]at hq
  have hl1:w1.heap[z.l]? =some (.loop z.lp):=(hlO w1 h1.fr).trans hA.lp
  refine⟨_,run_beginRound hl1 rfl,?_⟩
  have h2:=h1.turnRec (r':=z.busy) hl1
  refine wpIn_mono (hq _ _ _ _ h2) ?_
  rintro e a2 w2 ⟨s2,m2,⟨rfl,hs2⟩,h3⟩
  have hll:z.l<w.heap.size:=(Array.getElem?_eq_some_iff.1 hA.lp).1
  have hl2:w2.heap[z.l]? =some (.loop z.busy):=by
   have:=h3.fr.block z.l (by simpa[RC.ctx,World.putObj]using hll) (fun h=>(owned_isC hA.rep h).not_loop hA.lp)
   rw[this];exact World.putObj_heap_same hll
  have h4:=h3.turnRec (r':=z.lp) hl2
  have ew:(({z.ctx hp OI m w with w0:=(z.ctx hp OI m w).w0.putObj z.l (.loop z.busy)}:Ctx).w0.putObj z.l (.loop z.lp))=w:=putObj_undo hA.lp
  rw[ew]at h4
  refine⟨_,_,run_endRound none hl2,?_⟩
  have h4':SRep (z.ctx hp OI m w) m2 s2 a2 (w2.putObj z.l (.loop z.lp)):=h4
  show(_=_∧_)
  generalize hw3:w2.putObj z.l (.loop z.lp)=w3 at h4'
  have hw3':w2.putObj z.l (.loop {z.busy with state:=if(none:Option Code).isNone then .ready else .done,pending:=none})=w3:=hw3
  rw[hw3']
  have hfr:Fr (Owned m hp) w w3:=h4'.fr
  have hown: ∀b,Owned m2 hp' b→Owned m hp b∨w.heap.size≤b:=by
   rintro b ⟨κ,B,h5,h6⟩
   exact h4'.old κ B b (by rw[hs2];exact h5) h6
  have hl3:w3.heap[z.l]? =some (.loop z.lp):=by rw[←hw3];exact World.putObj_heap_same (Array.getElem?_eq_some_iff.1 hl2).1
  refine⟨rfl,hfr,m2,⟨⟨by rw[hA.none0];exact Marks.nil _ _,rfl,?_,?_,?_,?_,fun κ B b h5 h6=> .inl ⟨κ,B,h5,h6⟩,Fr.refl _ _,?_,h4'.pin,h4'.pinp,⟨h4'.gtok,fun b cs hb ⟨κ,B,h5,h6⟩=>h4'.gnot hb ⟨κ,B,by rw[hs2];exact h5,h6⟩⟩⟩,hok,hA.slots,hA.none0,hl3,?_,?_,?_⟩,hown⟩
  ·intro t v ht
   have hk:KeptG w (Forb (z.ctx hp OI m w) m hp) w3 (Forb (z.ctx hp' OI m2 w3) m2 hp'):=by
    intro b hb hF
    refine⟨?_,hfr.block b hb.lt (fun h=>hF (.inr h))⟩
    rintro(h|h)
    ·exact hF (.inl h)
    ·rcases hown b h with h|h
     ·exact hF (.inr h)
     ·have:=hb.lt;omega
   have hv:=hA.rep.slot t v ht
   have hs:=hA.slots t v ht
   cases v with
   |d x=>simp only[RepV]at hv ⊢;exact RepD.g hk x _ hv
   |ptr κ off=>
    simp only[RC.okS]at hs
    cases hp0:z.pin κ with
    |none=>exact absurd hp0 hs
    |some u=>
     have e1:=hA.rep.pin κ u hp0
     have e2:=h4'.pin κ u hp0
     simp only[RepV]at hv ⊢
     rw[e2,←e1];exact hv
   |_=>exact hs.elim
  ·intro κ B hB
   have:=h4'.heap κ B (by rw[hs2];exact hB)
   rw[hs2]at this
   exact this
  ·intro κ κ' B B' b h5 h6
   exact h4'.sep κ κ' B B' b (by rw[hs2];exact h5) (by rw[hs2];exact h6)
  ·intro κ B b h5
   exact h4'.nox κ B b (by rw[hs2];exact h5)
  ·intro b hb
   exact Nat.lt_of_lt_of_le (hA.rep.xlt b hb) hfr.size
  ·intro D hD
   exact(hfr.block _ (Array.getElem?_eq_some_iff.1 (hA.blk D hD)).1 (fun h=>(owned_isC hA.rep h).not (hA.blk D hD))).trans (hA.blk D hD)
  ·refine⟨hfr.os.trans hA.fr.os,hfr.tape.trans hA.fr.tape,hfr.output.trans hA.fr.output,Nat.le_trans hA.fr.size hfr.size,fun k hk hn=> ?_⟩
   rw[hfr.block k (Nat.lt_of_lt_of_le hk hA.fr.size) ?_,hA.fr.block k hk hn]
   intro h
   rcases hA.own k (.inr h)with h|h
   ·exact hn h
   ·omega
  ·intro b hb
   rcases hb with hb|hb
   ·exact hA.own b (.inl hb)
   ·rcases hown b hb with h|h
    ·exact hA.own b (.inr h)
    ·exact .inr (Nat.le_trans hA.fr.size h)
 |_=>exact hq.elim
end Go.Proofs.Ytngghkoghbpceaa
