/-
  Two parties to one heap: a function that loops over a function, and the function that it loops over. A round turns the first one's blocks and leaves the second one's alone.
  Conditions: none.
-/
import Derived.Test.YtngghkoghbpceaaRF2
namespace Go.Proofs.Ytngghkoghbpceaa
open Go.RowKit
set_option linter.unusedVariables false
set_option linter.unusedSimpArgs false
def KeptG(w:World)(F:Nat→Prop)(w':World)(F':Nat→Prop):Prop:= ∀b,IsC w b→ ¬F b→ ¬F' b∧w'.heap[b]? =w.heap[b]?
mutual
theorem RepD.g{w w':World}{F F':Nat→Prop}(hk:KeptG w F w' F'): ∀(d:D) (u:Value),RepD w F d u→RepD w' F' d u
 | .v x,u,h=>h
 | .ints k xs c,u,h=>by
  simp only[RepD]at h ⊢
  obtain⟨a,cap,h1,h2,h3,h4,h4c,h5⟩:=h
  refine⟨a,cap,h1,h2,h3,h4,h4c,fun hne=> ?_⟩
  obtain⟨b,off,ha,hF,hc⟩:=h5 hne
  have hb:IsC w b:=by
   cases xs with
   |nil=>exact absurd rfl hne
   |cons x l=>exact cell_isC (hc 0 x (by simp))
  exact⟨b,off,ha,(hk b hb hF).1,fun i x hx=>cell_step (hk b hb hF).2 (hc i x hx)⟩
 | .sl n xs c,u,h=>by
  simp only[RepD]at h ⊢
  obtain⟨a,cap,vals,h1,h2,h3,h4,h4c,hr,h5⟩:=h
  refine⟨a,cap,vals,h1,h2,h3,h4,h4c,RepRow.g hk xs vals hr,fun hne=> ?_⟩
  obtain⟨b,off,ha,hF,hc⟩:=h5 hne
  have hb:IsC w b:=by
   cases vals with
   |nil=>exact absurd rfl hne
   |cons x l=>exact cell_isC (hc 0 x (by simp))
  exact⟨b,off,ha,(hk b hb hF).1,fun i x hx=>cell_step (hk b hb hF).2 (hc i x hx)⟩
 | .agg cs,u,h=>by
  simp only[RepD]at h ⊢
  obtain⟨us,h1,h2⟩:=h
  exact⟨us,h1,RepRow.g hk cs us h2⟩
theorem RepRow.g{w w':World}{F F':Nat→Prop}{c:Value→Prop}(hk:KeptG w F w' F'): ∀(ds:List D) (vals:List Value),RepRow w F c ds vals→RepRow w' F' c ds vals
 | [],vals,h=>by simpa only[RepRow]using h
 |d::ds,vals,h=>by
  simp only[RepRow]at h ⊢
  obtain⟨v,rest,h1,h2,h3,h4⟩:=h
  exact⟨v,rest,h1,h2,RepD.g hk d v h3,RepRow.g hk ds rest h4⟩
end
def okAV:AV→Bool
 | .d _=>true
 | .own _=>true
 | .ptr _ _=>true
 | .bot=>true
 |_=>false
def okBlk:Blk→Bool
 | .box _ cs=>cs.all okAV
 | .map _=>false
 | .vrow _ _=>false
 |_=>true
def okHp(hp:List (Nat×Blk)):Bool:=hp.all fun x=>okBlk x.2
theorem okHp_gt{hp:List (Nat×Blk)}(h:okHp hp=true){κ:Nat}{B:Blk}(hB:gt κ hp=some B):okBlk B=true:=by
 induction hp with
 |nil=>cases hB
 |cons x l ih=>
  simp only[okHp,List.all_cons,Bool.and_eq_true]at h
  simp only[gt]at hB
  split at hB
  ·cases hB;exact h.1
  ·exact ih h.2 hB
theorem RepV.g{w w':World}{F F':Nat→Prop}{m:Nat→Value}(hk:KeptG w F w' F'){v:AV}(hv:okAV v=true){u:Value}(h:RepV w F m v u):RepV w' F' m v u:=by
 cases v with
 |d x=>simp only[RepV]at h ⊢;exact RepD.g hk x u h
 |own κ=>simpa only[RepV]using h
 |ptr κ off=>simpa only[RepV]using h
 |bot=>simp only[RepV]
 |_=>cases hv
theorem RepVs.g{w w':World}{F F':Nat→Prop}{m:Nat→Value}(hk:KeptG w F w' F'): ∀(vs:List AV) (us:List Value),vs.all okAV=true→RepVs w F m vs us→RepVs w' F' m vs us
 | [],us,_,h=>by simpa only[RepVs]using h
 |v::vs,us,hv,h=>by
  simp only[List.all_cons,Bool.and_eq_true]at hv
  simp only[RepVs]at h ⊢
  obtain⟨u,rest,h1,h2,h3⟩:=h
  exact⟨u,rest,h1,RepV.g hk hv.1 h2,RepVs.g hk vs rest hv.2 h3⟩
theorem RepB.g{w w':World}{F F':Nat→Prop}{m:Nat→Value}{κ:Nat}{B:Blk}(hk:KeptG w F w' F')(hv:okBlk B=true)(hb: ∀b,blkOf (m κ)=some b→w'.heap[b]? =w.heap[b]?)(h:RepB w F m κ B):RepB w' F' m κ B:=by
 cases B with
 |box e cs=>
  obtain⟨b',c,h1,h2,h3,h4⟩:=h
  exact⟨b',c,h1,by rw[hb b' (by rw[h1];rfl)];exact h2,RepVs.g hk _ _ hv h3,h4⟩
 |ints e k xs c=>exact⟨h.1.kept (fun b h1 _=>hb b h1),h.2⟩
 |row e n xs c=>
  obtain⟨vals,h,hc,h2⟩:=h
  exact⟨vals,h.kept (fun b h1 _=>hb b h1),hc,RepRow.g hk _ _ h2⟩
 |map kvs=>cases hv
 |vrow e xs=>cases hv
theorem IsC.lt{w:World}{b:Nat}(h:IsC w b):b<w.heap.size:=by
 rcases h with⟨cs,e,z,h⟩|⟨es,ck,h⟩<;>exact(Array.getElem?_eq_some_iff.1 h).1
theorem owned_isC{cx:Ctx}{m:Nat→Value}{s:St}{a:Act}{w:World}(h:SRep cx m s a w){b:Nat}(hb:Owned m s.hp b):IsC w b:=by
 obtain⟨κ,B,h1,h2⟩:=hb
 exact(h.heap κ B h1).isC h2
theorem IsC.not_loop{w:World}{b:Nat}{r:Loop}(h:IsC w b)(hd:w.heap[b]? =some (.loop r)):False:=by
 rcases h with⟨cs,e,z,h⟩|⟨es,ck,h⟩<;>(rw[h]at hd;cases hd)
structure RC where
 X:Nat→Prop
 S:Nat→Prop
 w0:World
 pin:Nat→Option Value
 a0:Act
 tm:List (Nat×AV)
 l:Nat
 D:Nat
 Ds:Nat→Prop
 fn:FuncId
 ps:Array Tmp
 assign:Code
 body:Code
def RC.lp(z:RC):Loop:= {state:= .ready,pending:=none,fn:=z.fn,tmps:=z.a0.tmps,params:=z.ps,assign:=z.assign,body:=z.body,defers:=z.D}
def RC.busy(z:RC):Loop:= {z.lp with state:= .busy}
def RC.ctx(z:RC)(hp:List (Nat×Blk))(OI:Nat→Prop)(m:Nat→Value)(w:World):Ctx:=⟨w,Owned m hp,fun b=>z.X b∨OI b,z.pin⟩
def RC.st(z:RC)(hp:List (Nat×Blk)):St:=⟨z.a0.tmps.size,z.tm,hp⟩
def RC.okS(z:RC):AV→Prop
 | .d _=>True
 | .ptr κ _=>z.pin κ≠none
 |_=>False
structure RC.At (z:RC) (hp:List (Nat×Blk)) (OI:Nat→Prop) (m:Nat→Value) (w:World):Prop where
 rep:SRep (z.ctx hp OI m w) m (z.st hp) z.a0 w
 ok:okHp hp=true
 slots: ∀t v,gt t z.tm=some v→z.okS v
 none0:z.a0.defers= []
 lp:w.heap[z.l]? =some (.loop z.lp)
 blk: ∀D,z.Ds D→w.heap[D]? =some (Obj.deferred (some []))
 fr:Fr z.S z.w0 w
 own: ∀b,OI b∨Owned m hp b→z.S b∨z.w0.heap.size≤b
def RC.C(z:RC)(hp:List (Nat×Blk))(cI:Ctx):Prop:= ∃(m:Nat→Value) (OI:Nat→Prop),z.At hp OI m cI.w0∧(∀b,cI.X b↔z.X b∨Owned m hp b)∧
 (∀b,cI.S b→b≠z.l∧ ¬z.Ds b∧ ¬z.X b∧ ¬Owned m hp b∧(z.S b∨z.w0.heap.size≤b))∧(∀b,cI.S b→IsC cI.w0 b→OI b)
theorem RC.okS_av{z:RC}{v:AV}(h:z.okS v):okAV v=true:=by
 cases v<;>first|rfl|exact h.elim
theorem RC.At.step{z:RC}{hp:List (Nat×Blk)}{OI:Nat→Prop}{m:Nat→Value}{cI:Ctx}(hA:z.At hp OI m cI.w0)(hX: ∀b,cI.X b↔z.X b∨Owned m hp b)
  (hS: ∀b,cI.S b→b≠z.l∧ ¬z.Ds b∧ ¬z.X b∧ ¬Owned m hp b∧(z.S b∨z.w0.heap.size≤b))(hC: ∀b,cI.S b→IsC cI.w0 b→OI b)
  {mI:Nat→Value}{sI:St}{aI:Act}{w:World}(hI:SRep cI mI sI aI w):z.At hp (Owned mI sI.hp) m w:=by
 have hold: ∀b,b<cI.w0.heap.size→Owned mI sI.hp b→cI.S b:=by
  rintro b hb ⟨κ,B,h1,h2⟩
  rcases hI.old κ B b h1 h2 with h|h
  ·exact h
  ·omega
 have hOA: ∀b,Owned m hp b→IsC cI.w0 b:=fun b hb=>owned_isC hA.rep hb
 have hk:KeptG cI.w0 (Forb (z.ctx hp OI m cI.w0) m hp) w (Forb (z.ctx hp (Owned mI sI.hp) m w) m hp):=by
  intro b hb hF
  have hnS: ¬cI.S b:=fun h=>hF (.inl (.inr (hC b h hb)))
  refine⟨?_,hI.fr.block b hb.lt hnS⟩
  rintro((h|h)|h)
  ·exact hF (.inl (.inl h))
  ·exact hnS (hold b hb.lt h)
  ·exact hF (.inr h)
 have hblk: ∀κ B,gt κ hp=some B→ ∀b,blkOf (m κ)=some b→w.heap[b]? =cI.w0.heap[b]? :=fun κ B h1 b h2=>
  hI.fr.block b (hOA b ⟨κ,B,h1,h2⟩).lt (fun h=>(hS b h).2.2.2.1 ⟨κ,B,h1,h2⟩)
 have hl:w.heap[z.l]? =cI.w0.heap[z.l]? :=hI.fr.block _ (Array.getElem?_eq_some_iff.1 hA.lp).1 (fun h=>(hS _ h).1 rfl)
 have hD: ∀D,z.Ds D→w.heap[D]? =cI.w0.heap[D]? :=fun D hD=>hI.fr.block _ (Array.getElem?_eq_some_iff.1 (hA.blk D hD)).1 (fun h=>(hS _ h).2.1 hD)
 refine⟨⟨by rw[hA.none0];exact Marks.nil _ _,hA.rep.nt,fun t v ht=>RepV.g hk (RC.okS_av (hA.slots t v ht)) (hA.rep.slot t v ht),fun κ B hB=>RepB.g hk (okHp_gt hA.ok hB) (hblk κ B hB) (hA.rep.heap κ B hB),hA.rep.sep,?_,fun κ B b h1 h2=> .inl ⟨κ,B,h1,h2⟩,Fr.refl _ _,?_,hA.rep.pin,hA.rep.pinp,⟨hI.gtok,fun b cs hb h=>hA.rep.gnot hb h⟩⟩,
  hA.ok,hA.slots,hA.none0,hl.trans hA.lp,fun D h=>(hD D h).trans (hA.blk D h),?_,?_⟩
 ·intro κ B b h1 h2 h3
  rcases h3 with h3|h3
  ·exact hA.rep.nox κ B b h1 h2 (.inl h3)
  ·exact(hS b (hold b (hOA b ⟨κ,B,h1,h2⟩).lt h3)).2.2.2.1 ⟨κ,B,h1,h2⟩
 ·intro b hb
  rcases hb with hb|hb
  ·exact Nat.lt_of_lt_of_le (hA.rep.xlt b (.inl hb)) hI.fr.size
  ·exact(owned_isC hI hb).lt
 ·refine⟨hI.fr.os.trans hA.fr.os,hI.fr.tape.trans hA.fr.tape,hI.fr.output.trans hA.fr.output,Nat.le_trans hA.fr.size hI.fr.size,fun k hk hn=> ?_⟩
  rw[hI.fr.block k (Nat.lt_of_lt_of_le hk hA.fr.size) ?_,hA.fr.block k hk hn]
  intro h
  rcases(hS k h).2.2.2.2 with h|h
  ·exact hn h
  ·omega
 ·intro b hb
  rcases hb with hb|hb
  ·rcases Nat.lt_or_ge b cI.w0.heap.size with hlt|hge
   ·exact(hS b (hold b hlt hb)).2.2.2.2
   ·exact .inr (Nat.le_trans hA.fr.size hge)
  ·exact hA.own b (.inr hb)
end Go.Proofs.Ytngghkoghbpceaa
