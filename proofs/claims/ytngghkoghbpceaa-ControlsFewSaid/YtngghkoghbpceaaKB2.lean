/-
  The abstract view of the machine: drawn regions.
  Conditions: none; nothing here speaks of one program.
-/
import Derived.Test.YtngghkoghbpceaaKB
namespace Go.Proofs.Ytngghkoghbpceaa
open Go.RowKit
set_option linter.unusedVariables false
def QOp(P:Program)(ops:Array Oper)(o:Oper)(s:St)(v:AV):Prop:=
 ∀s2:St,s2.n=s.n→s2.hp=s.hp→(∀t∈o.looksAt ops,gt t s2.tm=gt t s.tm)→AWpL P ops [o] (fun s3=>s3=s2.put o.dst v) s2
def stepV(P:Program)(ops:Array Oper)(s:St)(o:Oper):Option AV:=
 if s.okDst o.dst=false then none else
 match o.guard with
 |none=>valOp P s o.op
 |some (j,want)=>match gtO (obind ops[j]? Oper.dst) s.tm with
  |some (.d (.v (.bool b)))=>if b=want then valOp P s o.op else some (.tup [])
  |some (.tup [])=>some (.tup [])
  |_=>none
theorem ev_congr{s s2:St}{x:Operand}(h: ∀t,x= .tmp t→gt t s2.tm=gt t s.tm):s2.ev x=s.ev x:=by
 cases x with
 |tmp t=>exact h t rfl
 |_=>rfl
theorem evL_congr{s s2:St}: ∀ {l:List Operand},(∀x∈l,s2.ev x=s.ev x)→s2.evL l=s.evL l
 | [],_=>rfl
 |x::l,h=>by
  have h1:=h x (by simp)
  have h2:=evL_congr (l:=l) (fun y hy=>h y (by simp[hy]))
  simp only[St.evL,h1,h2]
theorem evP_congr{s s2:St}: ∀ {l:List (Nat×Operand)},(∀p∈l,s2.ev p.2=s.ev p.2)→s2.evP l=s.evP l
 | [],_=>rfl
 |(i,x)::l,h=>by
  have h1:=h (i,x) (by simp)
  have h2:=evP_congr (l:=l) (fun y hy=>h y (by simp[hy]))
  simp only at h1
  simp only[St.evP,h1,h2]
theorem evI_congr{s s2:St}{x:Option Operand}(h: ∀y,x=some y→s2.ev y=s.ev y):s2.evI x=s.evI x:=by
 cases x with
 |none=>rfl
 |some y=>simp only[St.evI,h y rfl]
theorem valOp_congr{P:Program}{s s2:St}{op:Op}(hn:s2.n=s.n)(hp:s2.hp=s.hp)(h: ∀x∈op.operands,s2.ev x=s.ev x):valOp P s2 op=valOp P s op:=by
 have hs: ∀(t:TypeId) (v:AV),loadV P s2 t v=loadV P s t v:=fun t v=>by unfold loadV loadV0 loadF;rw[hp]
 have hi: ∀(t:TypeId) (v:AV) (i:Int),indexAddrV P s2 t v i=indexAddrV P s t v i:=fun t v i=>by unfold indexAddrV;rw[hp]
 have hl: ∀(t:TypeId) (v:AV),lenV P s2 t v=lenV P s t v:=fun t v=>by unfold lenV;rw[hp]
 have hc: ∀(t:TypeId) (v:AV),capV P s2 t v=capV P s t v:=fun t v=>by unfold capV;rw[hp]
 have hl': ∀(t:TypeId),lenV P s2 t=lenV P s t:=fun t=>funext (hl t)
 have hc': ∀(t:TypeId),capV P s2 t=capV P s t:=fun t=>funext (hc t)
 have hs': ∀(t:TypeId),loadV P s2 t=loadV P s t:=fun t=>funext (hs t)
 cases op<;>simp only[valOp]
 case move x=>exact h x (by simp[Op.operands])
 case assign x=>exact h x (by simp[Op.operands])
 case pick c x y=>rw[h c (by simp[Op.operands]),h x (by simp[Op.operands]),h y (by simp[Op.operands])]
 case binOp op t x y t'=>
  have ha: ∀v,s2.asD v=s.asD v:=fun v=>by unfold St.asD;rw[hp]
  rw[h x (by simp[Op.operands]),h y (by simp[Op.operands])]
  simp only[ha]
 case unOp op t x=>rw[h x (by simp[Op.operands])]
 case convert a b x=>rw[h x (by simp[Op.operands]),hp]
 case load t x=>rw[h x (by simp[Op.operands]),hs']
 case fieldAddr t x i=>rw[h x (by simp[Op.operands])]
 case field t x i=>rw[h x (by simp[Op.operands])]
 case indexAddr t x y=>
  rw[h x (by simp[Op.operands]),h y (by simp[Op.operands])]
  simp only[hi]
 case index t x y=>rw[h x (by simp[Op.operands]),h y (by simp[Op.operands])]
 case slice t x l hh m=>
  rw[h x (by simp[Op.operands]),evI_congr (fun y hy=>h y (by subst hy;simp[Op.operands])),evI_congr (fun y hy=>h y (by subst hy;simp[Op.operands])),evI_congr (fun y hy=>h y (by subst hy;simp[Op.operands]))]
 case extract x i=>rw[h x (by simp[Op.operands])]
 case build t l=>
  rw[evP_congr (fun p hp=>h p.2 (by
   simp only[Op.operands,List.mem_toArray,List.mem_map]
   exact⟨p,hp,rfl⟩))]
 case nilCheck x=>rw[h x (by simp[Op.operands])]
 case makeFunc f first caps=>
  cases f<;>simp only[]
  ·rw[evL_congr (fun x hx=>h x (by simp[Op.operands];exact .inr (by simpa using hx)))]
  ·split
   ·rename_i x hf hc
    rw[h x (by simp only[Op.operands,Array.mem_append];exact .inl (by rw[←Array.mem_toList_iff,hf];simp))]
   ·rfl
 case makeInterface t x=>rw[h x (by simp[Op.operands])]
 case call c=>
  obtain⟨cal,args,tys⟩:=c
  have ha: ∀x∈args.toList,s2.ev x=s.ev x:=fun x hx=>h x (by simp[Op.operands,Call.operands];exact .inr (by simpa using hx))
  cases cal<;>simp only[]
  rename_i b
  cases b<;>simp only[]
  ·split
   ·rename_i x t hx ht
    rw[ha x (by rw[hx];simp),hc']
   ·rfl
  ·split
   ·rename_i x t hx ht
    rw[ha x (by rw[hx];simp),hl']
   ·rfl
  ·split
   ·rename_i x y hx
    rw[evL_congr (fun z hz=>ha z (by rw[hx];exact hz))]
   ·rfl
theorem mem_looks{ops:Array Oper}{o:Oper}{t:Nat}(h:Operand.tmp t∈o.op.operands):t∈o.looksAt ops:=
 List.mem_append_left _ (List.mem_filterMap.2 ⟨.tmp t,by simpa using h,rfl⟩)
theorem qop_val{P:Program}{ops:Array Oper}{o:Oper}{s:St}{v:AV}(h:stepV P ops s o=some v):QOp P ops o s v:=by
 intro s2 hn hp hl
 have hev: ∀x∈o.op.operands,s2.ev x=s.ev x:=fun x hx=>ev_congr fun t ht=>hl t (mem_looks (by subst ht;exact hx))
 have hval:=valOp_congr (P:=P) hn hp hev
 have hok:s2.okDst o.dst=s.okDst o.dst:=by cases hd:o.dst<;>simp[St.okDst,hn]
 have hstep: ∀v,s.okDst o.dst=true→valOp P s o.op=some v→stepF P s2 o=some (s2.put o.dst v):=by
  intro v h1 h2
  rw[←hval]at h2
  unfold stepF
  rw[hok,h1,if_pos rfl]
  have none_: ∀ {x:Option St},valOp P s2 o.op=none→x=some (s2.put o.dst v):=fun h=>by rw[h2]at h;cases h
  split
  ·rename_i ho;exact none_ (by rw[ho];rfl)
  ·rename_i ho;exact none_ (by rw[ho];rfl)
  ·rename_i ho;exact none_ (by rw[ho];rfl)
  ·rename_i ho;exact none_ (by rw[ho];rfl)
  ·rename_i ho;exact none_ (by rw[ho];rfl)
  ·rename_i t x l hh m ho
   split
   ·rename_i κ hx
    refine none_ ?_
    rw[ho]
    simp only[valOp,hx]
    split
    ·rename_i vx il ih im h1 h2 h3 h4
     cases h1
     simp only[sliceV]
    ·rfl
   ·rw[←ho,h2];rfl
  ·rename_i c ho
   split
   ·rename_i hb
    refine none_ ?_
    rw[ho]
    obtain⟨cal,args,tys⟩:=c
    cases cal with
    |builtin b=>cases b<;>first|rfl|simp[isBlt]at hb
    |_=>simp[isBlt]at hb
   ·rw[←ho,h2];rfl
  ·rw[h2];rfl
 refine awpl_step (s':=s2.put o.dst v) ?_ (awpl_nil rfl)
 unfold stepV at h
 unfold stepG
 split at h
 ·cases h
 ·rename_i hk
  have hk:s.okDst o.dst=true:=by simpa using hk
  split at h
  ·rename_i hg;rw[hg];exact hstep v hk h
  ·rename_i j want hg
   rw[hg]
   have hgd:gtO (obind ops[j]? Oper.dst) s2.tm=gtO (obind ops[j]? Oper.dst) s.tm:=by
    cases hd:obind ops[j]? Oper.dst with
    |none=>rfl
    |some t=>exact hl t (List.mem_append_right _ (by have hd':(ops[j]?).bind (·.dst)=some t:=hd
                                                     simp[hg,hd']))
   simp only[hgd]
   split at h
   ·rename_i b hb
    rw[hb]
    simp only
    split at h
    ·rename_i hbw;rw[if_pos hbw];exact hstep v hk h
    ·rename_i hbw;rw[if_neg hbw,hok,hk];cases h;rfl
   ·rename_i hb
    rw[hb]
    simp only
    rw[hok,hk];cases h;rfl
   ·cases h
theorem killsV_nil:(∀v:AV,killsV [] v=v)∧(∀vs:List AV,killsVs [] vs=vs):=by
 have key: ∀v:AV,killsV [] v=v:=by
  intro v
  induction v using AV.rec (motive_2:=fun vs=>killsVs [] vs=vs)with
  |d x=>rfl
  |ptr κ off=>simp[killsV]
  |own κ=>simp[killsV]
  |pel κ off=>simp[killsV]
  |eaddr x=>rfl
  |agg cs ih=>simp only[killsV,ih]
  |tup vs ih=>simp only[killsV,ih]
  |clos f caps ih=>simp only[killsV,ih]
  |wrap k v ih=>simp only[killsV,ih]
  |bot=>rfl
  |nil=>rfl
  |cons v vs ih1 ih2=>simp only[killsVs,ih1,ih2]
 refine⟨key,fun vs=> ?_⟩
 induction vs with
 |nil=>rfl
 |cons v vs ih=>simp only[killsVs,key,ih]
theorem mapv_id{α:Type}{f:α→α}(h: ∀v,f v=v): ∀l:List (Nat×α),mapv f l=l
 | []=>rfl
 |(k,v)::l=>by simp only[mapv,h,mapv_id h l]
theorem awpl_sub{P:Program}{ops:Array Oper}{l:List Oper}{R:St→Prop}{s s':St}(hs:Sub s' s)(h:AWpL P ops l R s'):AWpL P ops l R s:=fun cx m a w K hr hK=>h cx m a w K (hr.sub hs) hK
theorem awpl_mono{P:Program}{ops:Array Oper}{l:List Oper}{R R':St→Prop}{s:St}(hR: ∀s',R s'→R' s')(h:AWpL P ops l R s):AWpL P ops l R' s:=fun cx m a w K hr hK=>h cx m a w K hr (fun s' m' a' w' h1 h2=>hK s' m' a' w' (hR s' h1) h2)
def QRunN(P:Program)(ops:Array Oper)(R:List Oper→St→Prop):Nat→List Oper→St→Prop
 |0,l,s=>R l s
 |p+1,o::l,s=> ∃v,QOp P ops o s v∧QRunN P ops R p l (s.put o.dst v)
 |_+1,[],_=>False
def maskS(D:Nat→Bool):Nat→List (Oper×AV)→St→St
 |_,[],s=>s
 |i,(o,v)::l,s=>maskS D (i+1) l (if D i then s.put o.dst v else s)
def lookD(t:Nat)(D:Nat→Bool):Nat→List (Oper×AV)→Option AV→Option AV
 |_,[],d=>d
 |i,(o,v)::l,d=>lookD t D (i+1) l (if D i=true∧o.dst=some t then some v else d)
theorem gt_put{s:St}{dst:Option Nat}{v:AV}{t:Nat}:gt t (s.put dst v).tm=if dst=some t then some v else gt t s.tm:=by
 cases dst with
 |none=>simp[St.put]
 |some d=>
  simp only[St.put,gt_ins]
  by_cases h:t=d
  ·subst h;simp
  ·rw[if_neg h,if_neg (by simpa using Ne.symm h)]
theorem put_hp{s:St}{dst:Option Nat}{v:AV}:(s.put dst v).hp=s.hp:=by cases dst<;>rfl
theorem put_n{s:St}{dst:Option Nat}{v:AV}:(s.put dst v).n=s.n:=by cases dst<;>rfl
theorem maskS_facts(D:Nat→Bool): ∀(L:List (Oper×AV)) (i:Nat) (s:St),(maskS D i L s).n=s.n∧(maskS D i L s).hp=s.hp∧ ∀t,gt t (maskS D i L s).tm=lookD t D i L (gt t s.tm)
 | [],i,s=>⟨rfl,rfl,fun _=>rfl⟩
 |(o,v)::l,i,s=>by
  obtain⟨h1,h2,h3⟩:=maskS_facts D l (i+1) (if D i then s.put o.dst v else s)
  refine⟨?_,?_,fun t=> ?_⟩
  ·simp only[maskS,h1];split<;>simp[put_n]
  ·simp only[maskS,h2];split<;>simp[put_hp]
  ·simp only[maskS,lookD,h3]
   congr 1
   cases D i with
   |true=>simp only[if_true,gt_put,true_and]
   |false=>simp
theorem lookD_congr{t:Nat}{D D':Nat→Bool}: ∀ {L:List (Oper×AV)} {i:Nat} {d:Option AV},(∀(j:Nat) o v,L[j]? =some (o,v)→o.dst=some t→D (i+j)=D' (i+j))→lookD t D i L d=lookD t D' i L d
 | [],i,d,_=>rfl
 |(o,v)::l,i,d,h=>by
  simp only[lookD]
  have h0:=h 0 o v rfl
  have e:(if D i=true∧o.dst=some t then some v else d)=(if D' i=true∧o.dst=some t then some v else d):=by
   by_cases hd:o.dst=some t
   ·have:=h0 hd;simp only[Nat.add_zero]at this;rw[this]
   ·simp[hd]
  rw[e]
  exact lookD_congr fun j o' v' hj hd=>by
   have:=h (j+1) o' v' (by simpa using hj) hd
   rw[show i+1+j=i+(j+1)by omega];exact this
theorem maskS_shift{D:Nat→Bool}: ∀ {L:List (Oper×AV)} {i:Nat} {s:St},maskS D (i+1) L s=maskS (fun k=>D (k+1)) i L s
 | [],_,_=>rfl
 |(o,v)::l,i,s=>by simp only[maskS];exact maskS_shift
theorem maskS_none{D:Nat→Bool}: ∀ {L:List (Oper×AV)} {i:Nat} {s:St},(∀k,D k=false)→maskS D i L s=s
 | [],_,_,_=>rfl
 |(o,v)::l,i,s,h=>by simp only[maskS,h,Bool.false_eq_true,if_false];exact maskS_none h
theorem maskS_congr{D D':Nat→Bool}(h: ∀k,D k=D' k){L:List (Oper×AV)}{i:Nat}{s:St}:maskS D i L s=maskS D' i L s:=by rw[funext h]
theorem qrun_values{P:Program}{ops:Array Oper}{R:List Oper→St→Prop}: ∀ {p:Nat} {l:List Oper} {s:St},QRunN P ops R p l s→
  ∃L:List (Oper×AV),L.length=p∧L.map (·.1)=l.take p∧(∀(i:Nat) o v,L[i]? =some (o,v)→QOp P ops o (maskS (fun k=>decide (k<i)) 0 L s) v)∧R (l.drop p) (maskS (fun _=>true) 0 L s)
 |0,l,s,h=>⟨[],rfl,by simp,by simp,by simpa[QRunN,maskS]using h⟩
 |p+1,[],s,h=>by simp[QRunN]at h
 |p+1,o::l,s,h=>by
  simp only[QRunN]at h
  obtain⟨v,h1,h2⟩:=h
  obtain⟨L,e1,e2,e3,e4⟩:=qrun_values h2
  refine⟨(o,v)::L,by simp[e1],by simp[e2],fun i o' v' hi=> ?_,?_⟩
  ·cases i with
   |zero=>
    simp at hi;obtain⟨rfl,rfl⟩:=hi
    rw[maskS_none (fun k=>by simp)];exact h1
   |succ i=>
    have:=e3 i o' v' (by simpa using hi)
    simp only[maskS]
    rw[maskS_shift]
    simp only[Nat.zero_lt_succ,decide_true,if_true]
    rw[maskS_congr (D':=fun k=>decide (k<i)) (fun k=>by simp)]
    exact this
  ·simp only[maskS,if_true]
   rw[maskS_shift]
   simpa using e4
def slotsOk(ops:Array Oper)(l:List Oper)(p:Nat):Bool:=
 (List.range p).all fun i=>(l[i]?).all fun o=>
  (List.range p).all fun j=>(l[j]?).all fun oj=>
   (i==j||o.dst != oj.dst||o.dst==none)&&
   ((o.looksAt ops).all fun t=>oj.dst != some t||o.after.toList.any fun e=>Region.binds .any e&&e.on==j)
theorem slotsOk_get{ops:Array Oper}{l:List Oper}{p:Nat}(h:slotsOk ops l p=true){i j:Nat}{o oj:Oper}(hi:l[i]? =some o)(hj:l[j]? =some oj)(hip:i<p)(hjp:j<p):
  (i≠j→ ∀t,o.dst=some t→oj.dst≠some t)∧ ∀t,t∈o.looksAt ops→oj.dst=some t→ ∃e∈o.after,Region.binds .any e=true∧e.on=j:=by
 have h1:=List.all_eq_true.1 h i (by simpa using hip)
 rw[hi]at h1
 simp only[Option.all_some]at h1
 have h2:=List.all_eq_true.1 h1 j (by simpa using hjp)
 rw[hj]at h2
 simp only[Option.all_some,Bool.and_eq_true]at h2
 obtain⟨h3,h4⟩:=h2
 refine⟨fun hne t ht htj=> ?_,fun t ht htj=> ?_⟩
 ·rw[ht,htj]at h3
  simp[hne]at h3
 ·have:=List.all_eq_true.1 h4 t ht
  rw[htj]at this
  simp only[bne_self_eq_false,Bool.false_or]at this
  obtain⟨e,he,h5⟩:=List.any_eq_true.1 this
  simp only[Bool.and_eq_true,beq_iff_eq]at h5
  exact⟨e,by simpa using he,h5⟩
def drawOk(l:List Oper)(p:Nat):Bool:=edgesBack 0 l&&tailOk p l&&slotsOk l.toArray l p&&decide (p≤l.length)
theorem awp_drawqA{P:Program}{l:List Oper}{Q:Exit→St→Prop}{s:St}(p:Nat)(hok:drawOk l p=true)
  (h:QRunN P l.toArray (fun l' s'=>AWpL P l.toArray l' (Q .normal) s') p l s):AWpA P l.toArray Q s:=by
 simp only[drawOk,Bool.and_eq_true,decide_eq_true_eq]at hok
 obtain⟨⟨⟨o1,o2⟩,o3⟩,o4⟩:=hok
 obtain⟨L,e1,e2,e3,e4⟩:=qrun_values h
 have hL: ∀(j:Nat) o,j<p→l[j]? =some o→ ∃v,L[j]? =some (o,v):=by
  intro j o hj ho
  have h1:(L.map (·.1))[j]? =some o:=by rw[e2,List.getElem?_take,if_pos hj];exact ho
  rw[List.getElem?_map]at h1
  obtain⟨⟨o',v⟩,h2,h3⟩:=Option.map_eq_some_iff.1 h1
  simp at h3;subst h3
  exact⟨v,h2⟩
 have hL': ∀(j:Nat) o v,L[j]? =some (o,v)→j<p∧l[j]? =some o:=by
  intro j o v hj
  have hjp:j<p:=by rw[←e1];exact(List.getElem?_eq_some_iff.1 hj).1
  refine⟨hjp,?_⟩
  have h1:(L.map (·.1))[j]? =some o:=by rw[List.getElem?_map,hj];rfl
  rw[e2,List.getElem?_take,if_pos hjp]at h1
  exact h1
 refine awp_drawA (by simpa using o1) p (by simpa using o4) (by simpa using o2) (fun D=>maskS D 0 L s) (by rw[maskS_none (fun _=>rfl)];exact⟨rfl,fun t v ht=> .inr ht,fun _ _ h=>h⟩) ?_ ?_
 ·intro i o D hip ho hDi hpr hdc
  have ho':l[i]? =some o:=by simpa using ho
  obtain⟨v,hLi⟩:=hL i o hip ho'
  have hq:=e3 i o v hLi
  obtain⟨f1,f2,f3⟩:=maskS_facts D L 0 s
  obtain⟨g1,g2,g3⟩:=maskS_facts (fun k=>decide (k<i)) L 0 s
  refine awpl_mono ?_ (hq (maskS D 0 L s) (by rw[f1,g1]) (by rw[f2,g2]) (fun t ht=> ?_))
  ·rintro s3 rfl
   obtain⟨k1,k2,k3⟩:=maskS_facts (setD D i) L 0 s
   refine⟨by rw[put_n,k1,f1],fun t v' hv=> .inr ?_,fun κ B hB=>by rw[put_hp,f2];rw[k2]at hB;exact hB⟩
   rw[k3]at hv
   rw[gt_put]
   by_cases hd:o.dst=some t
   ·rw[if_pos hd]
    have:lookD t (setD D i) 0 L (gt t s.tm)=some v:=by
     have gen: ∀(L':List (Oper×AV)) (b j:Nat) (d:Option AV),L'[j]? =some (o,v)→b+j=i→(∀(k:Nat) o' v'',L'[k]? =some (o',v'')→o'.dst=some t→k=j)→lookD t (setD D i) b L' d=some v:=by
      intro L'
      induction L' with
      |nil=>intro b j d hj;simp at hj
      |cons q L' ihl=>
       obtain⟨oq,vq⟩:=q
       intro b j d hj hbj huniq
       simp only[lookD]
       cases j with
       |zero=>
        simp at hj;obtain⟨rfl,rfl⟩:=hj
        have hb':setD D i b=true:=by simp[setD];omega
        rw[if_pos ⟨hb',hd⟩]
        have rest: ∀(L'':List (Oper×AV)) (b':Nat) (d:Option AV),(∀(k:Nat) o' v'',L''[k]? =some (o',v'')→o'.dst≠some t)→lookD t (setD D i) b' L'' d=d:=by
         intro L''
         induction L'' with
         |nil=>intro b' d _;rfl
         |cons q L'' ih2=>
          obtain⟨oq,vq⟩:=q
          intro b' d hno
          simp only[lookD]
          have:=hno 0 oq vq rfl
          rw[if_neg (fun h=>this h.2)]
          exact ih2 _ _ (fun k o' v'' hk=>hno (k+1) o' v'' (by simpa using hk))
        exact rest L' (b+1) _ (fun k o' v'' hk hdk=>by
         have:=huniq (k+1) o' v'' (by simpa using hk) hdk
         omega)
       |succ j=>
        exact ihl (b+1) j _ (by simpa using hj) (by omega) (fun k o' v'' hk hdk=>by
         have:=huniq (k+1) o' v'' (by simpa using hk) hdk
         omega)
     refine gen L 0 i _ hLi (by omega) (fun k o' v'' hk hdk=> ?_)
     obtain⟨hkp,hlk⟩:=hL' k o' v'' hk
     by_cases hki:k=i
     ·exact hki
     ·exact absurd hdk ((slotsOk_get o3 ho' hlk hip hkp).1 (Ne.symm hki) t hd)
    rw[this]at hv;exact hv
   ·rw[if_neg hd,f3]
    rw[←hv]
    refine lookD_congr fun j o' v'' hj hdj=> ?_
    obtain⟨hjp,hlj⟩:=hL' j o' v'' hj
    unfold setD
    rw[if_neg]
    intro e
    have hji:j=i:=by omega
    subst hji
    rw[ho']at hlj;cases hlj
    exact hd hdj
  ·rw[f3,g3]
   refine lookD_congr fun j o' v'' hj hdj=> ?_
   obtain⟨hjp,hlj⟩:=hL' j o' v'' hj
   obtain⟨e,he,hbe,hon⟩:=(slotsOk_get o3 ho' hlj hip hjp).2 t ht hdj
   have h1:=hpr e he hbe
   have h2:=edgesBack_get o1 (j:=i) ho' e he hbe
   rw[Nat.zero_add,←hon,h1]
   simp;omega
 ·intro D hD
  have hl:l.toArray.toList.drop p=l.drop p:=by simp
  rw[hl]
  refine awpl_sub ?_ e4
  obtain⟨f1,f2,f3⟩:=maskS_facts D L 0 s
  obtain⟨g1,g2,g3⟩:=maskS_facts (fun _=>true) L 0 s
  refine⟨by rw[g1,f1],fun t v hv=> .inr ?_,fun κ B hB=>by rw[f2];rw[g2]at hB;exact hB⟩
  rw[f3]
  rw[g3]at hv
  rw[←hv]
  refine lookD_congr fun j o' v'' hj _=> ?_
  obtain⟨hjp,_⟩:=hL' j o' v'' hj
  rw[Nat.zero_add,hD j hjp]
def wideB:Blk→Blk
 | .ints e k xs _=> .ints e k xs none
 | .row e n xs _=> .row e n xs none
 |B=>B
def wideL(κ:Nat):List (Nat×Blk)→List (Nat×Blk)
 | []=> []
 |(j,B)::l=>(j,if j=κ then wideB B else B)::wideL κ l
def St.wide(s:St)(κ:Nat):St:= {s with hp:=wideL κ s.hp}
theorem gt_wideL{κ j:Nat}{B:Blk}: ∀ {l:List (Nat×Blk)},gt j (wideL κ l)=some B→ ∃B0,gt j l=some B0∧(B=B0∨B=wideB B0)
 | [],h=>by simp[wideL,gt]at h
 |(i,B1)::l,h=>by
  simp only[wideL,gt]at h ⊢
  by_cases hj:j=i
  ·rw[if_pos hj]at h ⊢
   cases h
   refine⟨_,rfl,?_⟩
   split
   ·exact .inr rfl
   ·exact .inl rfl
  ·rw[if_neg hj]at h ⊢
   exact gt_wideL h
theorem RepB.wide{w:World}{F:Nat→Prop}{m:Nat→Value}{κ:Nat}{B:Blk}(h:RepB w F m κ B):RepB w F m κ (wideB B):=by
 cases B with
 |box e cs=>exact h
 |map kvs=>exact h
 |vrow e xs=>exact h
 |ints e k xs c=>exact⟨h.1,fun q hq=>by cases hq⟩
 |row e n xs c=>obtain⟨vals,h1,_,h3⟩:=h;exact⟨vals,h1,fun q hq=>(by cases hq),h3⟩
theorem SRep.wide{c:Ctx}{m:Nat→Value}{s:St}{a:Act}{w:World}(h:SRep c m s a w)(κ:Nat):SRep c m (s.wide κ) a w:=by
 have hF: ∀b,Forb c m (s.wide κ).hp b→Forb c m s.hp b:=by
  rintro b (hX|⟨κ',B,h1,h2⟩)
  ·exact .inl hX
  ·obtain⟨B0,h3,_⟩:=gt_wideL h1
   exact .inr ⟨κ',B0,h3,h2⟩
 have hk:Kept w (Forb c m s.hp) w (Forb c m (s.wide κ).hp):=fun b _ hb=>⟨fun h'=>hb (hF b h'),rfl⟩
 refine⟨h.defers,h.nt,fun t v ht=>RepV.kept hk (Nat.le_refl _) v _ (h.slot t v ht),?_,?_,?_,?_,h.fr,h.xlt,h.pin,h.pinp,h.gl⟩
 ·intro j B hj
  obtain⟨B0,h1,h2⟩:=gt_wideL hj
  have h3:=RepB.kept hk (Nat.le_refl _) (fun _ _ _=>rfl) (h.heap j B0 h1)
  rcases h2 with rfl|rfl
  ·exact h3
  ·exact h3.wide
 ·intro j j' B B' b h1 h2 hne
  obtain⟨B1,h1',_⟩:=gt_wideL h1
  obtain⟨B2,h2',_⟩:=gt_wideL h2
  exact h.sep j j' B1 B2 b h1' h2' hne
 ·intro j B b h1
  obtain⟨B1,h1',_⟩:=gt_wideL h1
  exact h.nox j B1 b h1'
 ·intro j B b h1
  obtain⟨B1,h1',_⟩:=gt_wideL h1
  exact h.old j B1 b h1'
theorem awp_wide{P:Program}{Q:Exit→St→Prop}{s:St}{c:Code}(κ:Nat)(h: ∀s',s.wide κ=s'→AWp P c Q s'):AWp P c Q s:=fun cx m a w hr=>h _ rfl cx m a w (hr.wide κ)
theorem x_mat{P:Program}{Q:Exit→St→Prop}{s:St}{c:Code}(t κ:Nat)(B:Blk)(h: ∀r,gt t s.tm=r→ ∃v,r=some v∧isEmptyA v=true)(h16:16≤κ)(htn:t<s.n)(hB:(∃e k,B= .ints e k [] (some 0))∨(∃e n,B= .row e n [] (some 0)))(next: ∀s',s.mat t κ B=s'→AWp P c Q s'):AWp P c Q s:=by
 obtain⟨v,h1,h2⟩:=h _ rfl
 exact awp_mat t κ B h1 h2 h16 htn hB (next _ rfl)
attribute [push_cast] wideB wideL St.wide allD insL delL flatV flatVs flatD flatDs flatB isEmptyA
theorem forb_gt{c:Ctx}{m:Nat→Value}{hp hp':List (Nat×Blk)}(h: ∀j,gt j hp=gt j hp'):Forb c m hp=Forb c m hp':=by
 funext b
 simp only[Forb,Owned,h]
theorem gt_datLast{BS:List Blk}{B:Blk}{d:D}(j:Nat):gt j (mapv (datB BS.length d) (del BS.length (hpFrom 0 (BS++ [B]))))=gt j (hpFrom 0 (BS.map (datB BS.length d))):=by
 rw[gt_mapv,gt_del]
 apply Option.ext
 intro x
 rw[gt_hp0]
 by_cases hj:j=BS.length
 ·subst hj;simp
 ·rw[if_neg hj,Option.map_eq_some_iff]
  constructor
  ·rintro⟨B0,h1,rfl⟩
   rw[gt_hp0]at h1
   have hlt:j<BS.length:=by
    have:=(List.getElem?_eq_some_iff.1 h1).1
    simp at this;omega
   rw[List.getElem?_append_left hlt]at h1
   rw[List.getElem?_map,h1];rfl
  ·intro h
   rw[List.getElem?_map]at h
   obtain⟨B0,h1,h2⟩:=Option.map_eq_some_iff.1 h
   refine⟨B0,?_,h2⟩
   rw[gt_hp0,List.getElem?_append_left (List.getElem?_eq_some_iff.1 h1).1];exact h1
theorem acall_datLast1{P:Program}{f:FuncId}{us:List AV}{hs BS:List Blk}{R:AV}{B:Blk}{d:D}(h:ACall P f us hs fun r hs'=>r=R∧hs'=BS++ [B])(hn:hs.length≤BS.length)(hd:B.data=some d):
  ACall P f us hs fun r hs'=>r=datV BS.length d R∧hs'=BS.map (datB BS.length d):=by
 intro cx m vs w h1 h2 h3
 refine(h cx m vs w h1 h2 h3).mono ?_
 rintro e w' ⟨u,m',r,hs',rfl,⟨rfl,rfl⟩,hl,h4,h5⟩
 have hS:SRep cx m' ⟨1,[(0,r)],hpFrom 0 (BS++ [B])⟩ ⟨#[u],[]⟩ w':=by
  refine⟨Marks.nil _ _,rfl,fun t v ht=> ?_,h4.heap,h4.sep,h4.nox,h4.old,h4.fr,h4.xlt,h4.pin,h4.pinp,h4.gl⟩
  simp only[gt]at ht
  split at ht
  ·rename_i e;subst e;cases ht;exact h5
  ·cases ht
 have hB:gt BS.length (hpFrom 0 (BS++ [B]))=some B:=by rw[gt_hp0];simp
 have hf:=hS.freeze (κ:=BS.length) hB hd
 have hgt:=gt_datLast (BS:=BS) (B:=B) (d:=d)
 have hF:Forb cx m' (mapv (datB BS.length d) (del BS.length (hpFrom 0 (BS++ [B]))))=Forb cx m' (hpFrom 0 (BS.map (datB BS.length d))):=forb_gt hgt
 refine⟨u,m',_,_,rfl,⟨rfl,rfl⟩,by simpa using hn,?_,?_⟩
 ·refine⟨Marks.nil _ _,rfl,by simp[St.bare,gt],?_,?_,?_,?_,hf.fr,hf.xlt,hf.pin,hf.pinp,hf.gl⟩
  ·intro κ B' hB'
   have:=hf.heap κ B' (by rw[←hB'];exact hgt κ)
   simp only[St.freeze]at this
   rw[hF]at this
   exact this
  ·intro κ κ' B1 B2 b e1 e2
   exact hf.sep κ κ' B1 B2 b ((hgt κ).trans e1) ((hgt κ').trans e2)
  ·intro κ B1 b e1
   exact hf.nox κ B1 b ((hgt κ).trans e1)
  ·intro κ B1 b e1
   exact hf.old κ B1 b ((hgt κ).trans e1)
 ·have:=hf.slot 0 (datV BS.length d r) (by simp[St.freeze,mapv,gt])
  simp only[St.freeze]at this
  rw[hF]at this
  simpa using this
def datLast:Nat→AV→List Blk→Option (AV×List Blk)
 |0,R,BS=>some (R,BS)
 |k+1,R,BS=>match BS.getLast? with
  |some B=>match B.data with
   |some d=>datLast k (datV (BS.length - 1) d R) (BS.dropLast.map (datB (BS.length - 1) d))
   |none=>none
  |none=>none
theorem acall_datLast{P:Program}{f:FuncId}{us:List AV}{hs:List Blk}: ∀ {k:Nat} {R R':AV} {BS BS':List Blk},(ACall P f us hs fun r hs'=>r=R∧hs'=BS)→hs.length+k≤BS.length→datLast k R BS=some (R',BS')→
  ACall P f us hs fun r hs'=>r=R'∧hs'=BS'
 |0,R,R',BS,BS',h,_,hd=>by
  simp only[datLast,Option.some.injEq,Prod.mk.injEq]at hd
  obtain⟨rfl,rfl⟩:=hd
  exact h
 |k+1,R,R',BS,BS',h,hn,hd=>by
  simp only[datLast]at hd
  split at hd
  ·rename_i B hB
   split at hd
   ·rename_i d hdB
    have hne:BS≠ []:=by rintro rfl;simp at hB
    have hspl:BS=BS.dropLast++ [B]:=by
     have h1:=List.dropLast_concat_getLast hne
     rw[List.getLast?_eq_some_getLast hne]at hB
     cases hB
     exact h1.symm
    have hlen:BS.dropLast.length=BS.length - 1:=List.length_dropLast
    rw[←hlen]at hd
    rw[hspl]at h
    refine acall_datLast (acall_datLast1 h (by omega) hdB) (by rw[List.length_map];omega) hd
   ·cases hd
  ·cases hd
open Classical in
noncomputable def eqAny {α:Type} (x y:α):Bool:=decide (x=y)
noncomputable def eqVal:Value→Value→Bool
 | .bool a,.bool b=>a==b
 | .int k a,.int k' b=>decide (k=k')&&decide (a=b)
 | .slice none 0 0,.slice none 0 0=>true
 | .pointer none,.pointer none=>true
 | .nilFunc,.nilFunc=>true
 | .nilIface,.nilIface=>true
 |x,y=>eqAny x y
theorem eqVal_get{x y:Value}(h:eqVal x y=true):x=y:=by
 unfold eqVal at h
 split at h<;>first|(simp only[Bool.and_eq_true,decide_eq_true_eq]at h;rw[h.1,h.2])|rfl|(simp only[beq_iff_eq]at h;rw[h])|(simp only[eqAny,decide_eq_true_eq]at h;exact h)
theorem eqVal_self(x:Value):eqVal x x=true:=by
 unfold eqVal
 split<;>simp_all[eqAny]
mutual
noncomputable def eqD:D→D→Bool
 | .v x,.v y=>eqVal x y
 | .ints k xs c,.ints k' ys c'=>decide (k=k')&&(decide (xs=ys)&&decide (c=c'))
 | .sl n xs c,.sl n' ys c'=>decide (n=n')&&(eqAny xs ys&&decide (c=c'))
 | .agg cs,.agg ds=>eqDs cs ds
 |_,_=>false
termination_by structural x=>x
noncomputable def eqDs:List D→List D→Bool
 | [],[]=>true
 |x::xs,y::ys=>eqD x y&&eqDs xs ys
 |_,_=>false
termination_by structural x=>x
end
mutual
theorem eqD_get: ∀(x y:D),eqD x y=true→x=y
 | .v x,y,h=>by cases y<;>simp only[eqD]at h<;>first|(rw[eqVal_get h])|cases h
 | .ints k xs c,y,h=>by
  cases y<;>simp only[eqD]at h<;>first|(simp only[Bool.and_eq_true,decide_eq_true_eq]at h;rw[h.1,h.2.1,h.2.2])|cases h
 | .sl n xs c,y,h=>by
  cases y<;>simp only[eqD]at h<;>first|(simp only[Bool.and_eq_true,decide_eq_true_eq,eqAny]at h;rw[h.1,h.2.1,h.2.2])|cases h
 | .agg cs,y,h=>by
  cases y<;>simp only[eqD]at h<;>first|(rw[eqDs_get cs _ h])|cases h
theorem eqDs_get: ∀(x y:List D),eqDs x y=true→x=y
 | [],y,h=>by cases y<;>simp only[eqDs]at h<;>first|rfl|cases h
 |x::xs,y,h=>by
  cases y with
  |nil=>simp only[eqDs]at h;cases h
  |cons y ys=>
   simp only[eqDs,Bool.and_eq_true]at h
   rw[eqD_get x y h.1,eqDs_get xs ys h.2]
end
mutual
noncomputable def eqV:AV→AV→Bool
 | .d x,.d y=>eqD x y
 | .ptr κ o,.ptr κ' o'=>decide (κ=κ')&&decide (o=o')
 | .own κ,.own κ'=>decide (κ=κ')
 | .pel κ o,.pel κ' o'=>decide (κ=κ')&&decide (o=o')
 | .eaddr x,.eaddr y=>eqD x y
 | .agg cs,.agg ds=>eqVs cs ds
 | .tup cs,.tup ds=>eqVs cs ds
 | .clos f cs,.clos g ds=>decide (f=g)&&eqVs cs ds
 | .wrap k v,.wrap k' u=>eqAny k k'&&eqV v u
 | .bot,.bot=>true
 |_,_=>false
termination_by structural x=>x
noncomputable def eqVs:List AV→List AV→Bool
 | [],[]=>true
 |x::xs,y::ys=>eqV x y&&eqVs xs ys
 |_,_=>false
termination_by structural x=>x
end
mutual
theorem eqV_get: ∀(x y:AV),eqV x y=true→x=y
 | .d x,y,h=>by cases y<;>simp only[eqV]at h<;>first|(rw[eqD_get _ _ h])|cases h
 | .ptr κ o,y,h=>by cases y<;>simp only[eqV]at h<;>first|(simp only[Bool.and_eq_true,decide_eq_true_eq]at h;rw[h.1,h.2])|cases h
 | .own κ,y,h=>by cases y<;>simp only[eqV]at h<;>first|(simp only[decide_eq_true_eq]at h;rw[h])|cases h
 | .pel κ o,y,h=>by cases y<;>simp only[eqV]at h<;>first|(simp only[Bool.and_eq_true,decide_eq_true_eq]at h;rw[h.1,h.2])|cases h
 | .eaddr x,y,h=>by cases y<;>simp only[eqV]at h<;>first|(rw[eqD_get _ _ h])|cases h
 | .agg cs,y,h=>by cases y<;>simp only[eqV]at h<;>first|(rw[eqVs_get _ _ h])|cases h
 | .tup cs,y,h=>by cases y<;>simp only[eqV]at h<;>first|(rw[eqVs_get _ _ h])|cases h
 | .clos f cs,y,h=>by cases y<;>simp only[eqV]at h<;>first|(simp only[Bool.and_eq_true,decide_eq_true_eq]at h;rw[h.1,eqVs_get _ _ h.2])|cases h
 | .wrap k v,y,h=>by cases y<;>simp only[eqV]at h<;>first|(simp only[Bool.and_eq_true,decide_eq_true_eq,eqAny]at h;rw[h.1,eqV_get _ _ h.2])|cases h
 | .bot,y,h=>by cases y<;>simp only[eqV]at h<;>first|rfl|cases h
theorem eqVs_get: ∀(x y:List AV),eqVs x y=true→x=y
 | [],y,h=>by cases y<;>simp only[eqVs]at h<;>first|rfl|cases h
 |x::xs,y,h=>by
  cases y with
  |nil=>simp only[eqVs]at h;cases h
  |cons y ys=>
   simp only[eqVs,Bool.and_eq_true]at h
   rw[eqV_get x y h.1,eqVs_get xs ys h.2]
end
noncomputable def eqB:Blk→Blk→Bool
 | .box e cs,.box e' ds=>decide (e=e')&&eqVs cs ds
 |_,_=>false
theorem eqB_get{x y:Blk}(h:eqB x y=true):x=y:=by
 unfold eqB at h
 split at h
 ·simp only[Bool.and_eq_true,decide_eq_true_eq]at h;rw[h.1,eqVs_get _ _ h.2]
 ·cases h
noncomputable def sameB:Option Blk→Blk→Bool
 |some B0,B=>eqB B B0
 |none,_=>false
noncomputable def sameK (s:St) (ks:List Nat) (f:Nat→Option Nat):List Nat→List Blk→Bool
 | [],[]=>true
 |k::l,B::bs=>sameB (gt k s.hp) (renB f B)&&sameK s ks f l bs
 |_,_=>false
theorem sameK_get{s:St}{ks:List Nat}{f:Nat→Option Nat}: ∀ {l:List Nat} {bs:List Blk},sameK s ks f l bs=true→bs.length=l.length∧ ∀(j κ:Nat) (B:Blk),l[j]? =some κ→bs[j]? =some B→ ∃e cs,gt κ s.hp=some (.box e cs)∧renB f B= .box e cs
 | [],[],_=>⟨rfl,by simp⟩
 | [],_::_,h=>by simp[sameK]at h
 |_::_,[],h=>by simp[sameK]at h
 |k::l,B::bs,h=>by
  simp only[sameK,Bool.and_eq_true]at h
  obtain⟨h1,h2⟩:=h
  obtain⟨h3,h4⟩:=sameK_get h2
  refine⟨by simp[h3],fun j κ B' hj hb=> ?_⟩
  cases j with
  |zero=>
   simp at hj hb
   subst hj hb
   unfold sameB at h1
   split at h1
   ·rename_i B0 hB0
    have e:=eqB_get h1
    cases B0 with
    |box e' cs=>exact⟨e',cs,hB0,e⟩
    |ints e' k' xs c=>unfold eqB at h1;split at h1<;>first|(rename_i heq;cases heq)|cases h1
    |row e' k' xs c=>unfold eqB at h1;split at h1<;>first|(rename_i heq;cases heq)|cases h1
    |map kvs=>unfold eqB at h1;split at h1<;>first|(rename_i heq;cases heq)|cases h1
    |vrow e' xs=>unfold eqB at h1;split at h1<;>first|(rename_i heq;cases heq)|cases h1
   ·cases h1
  |succ j=>exact h4 j κ B' (by simpa using hj) (by simpa using hb)
theorem awpl_back{P:Program}{ops:Array Oper}{l:List Oper}{R R':St→Prop}{s:St}(hR: ∀s',R s'→ ∃s2,Sub s2 s'∧R' s2)(h:AWpL P ops l R s):AWpL P ops l R' s:=fun cx m a w K hr hK=>h cx m a w K hr (fun s' m' a' w' h1 h2=>by
 obtain⟨s2,h3,h4⟩:=hR s' h1
 exact hK s2 m' a' w' h4 (h2.sub h3))
theorem after_same{s:St}{ks:List Nat}{q:Nat}{BS:List Blk}(hn:ks.Nodup)(h:sameK s ks (backF ks q BS.length) ks BS=true):Sub s (afterS s ks q BS):=by
 obtain⟨hl,hb⟩:=sameK_get h
 have hbox: ∀κ,κ∈ks→ ∃e cs,gt κ s.hp=some (.box e cs):=by
  intro κ hκ
  obtain⟨j,hj⟩:=List.getElem?_of_mem hκ
  have hlt:=(List.getElem?_eq_some_iff.1 hj).1
  obtain⟨e,cs,h1,_⟩:=hb j κ BS[j] hj (by simp)
  exact⟨e,cs,h1⟩
 have hK:rowKeys s.hp ks++newKeys ks q BS.length= []:=by
  have h1:rowKeys s.hp ks= []:=by
   unfold rowKeys
   rw[List.filter_eq_nil_iff]
   intro κ hκ
   obtain⟨e,cs,h2⟩:=hbox κ hκ
   rw[h2];simp
  have h2:newKeys ks q BS.length= []:=by unfold newKeys;rw[hl,Nat.sub_self];rfl
  rw[h1,h2];rfl
 have hB0: ∀B:Blk,killsB [] B=B:=by
  intro B;cases B<;>simp only[killsB]<;>rw[killsV_nil.2]
 unfold afterS
 simp only[hK]
 refine⟨rfl,fun t v hv=> .inr ?_,fun κ B hB=> ?_⟩
 ·rw[mapv_id killsV_nil.1];exact hv
 ·rw[gt_insL,mapv_id hB0,gt_delL]
  cases hg:gt κ (backFrom (backK ks q) (backF ks q BS.length) 0 BS)with
  |some B1=>
   obtain⟨j,B2,_,h2,h3,h4⟩:=gt_backFrom hg
   have h2':BS[j]? =some B2:=by simpa using h2
   have hlt:=(List.getElem?_eq_some_iff.1 h2').1
   have hkj:ks[j]? =some ks[j]:=by simp[hl▸hlt]
   have e1:backK ks q j=ks[j]:=by unfold backK;rw[hkj]
   rw[e1]at h3
   obtain⟨e,cs,h5,h6⟩:=hb j ks[j] B2 hkj h2'
   rw[←h3]at h5
   rw[h5]at hB
   cases hB
   simp only[h4,h6]
  |none=>
   have hnot:κ∉ks:=by
    intro hκ
    obtain⟨j,hj⟩:=List.getElem?_of_mem hκ
    have hlt:=(List.getElem?_eq_some_iff.1 hj).1
    have:=gt_backFrom_none hg j (Nat.zero_le _) (by rw[hl];simpa using hlt)
    apply this
    unfold backK;rw[hj]
   simp only[if_neg hnot];exact hB
theorem Sub.trans{a b c:St}(h:Sub a b)(h':Sub b c):Sub a c:=
 ⟨h.1.trans h'.1,fun t v hv=>by
  rcases h.2.1 t v hv with h1|h1
  ·exact .inl h1
  ·exact h'.2.1 t v h1,fun κ B hB=>h'.2.2 κ B (h.2.2 κ B hB)⟩
theorem Sub.refl(a:St):Sub a a:=⟨rfl,fun _ _ h=> .inr h,fun _ _ h=>h⟩
theorem Sub.put{a b:St}(h:Sub a b)(d:Option Nat)(v:AV):Sub (a.put d v) (b.put d v):=by
 cases d with
 |none=>exact h
 |some d=>
  refine⟨h.1,fun t u hu=> ?_,h.2.2⟩
  simp only[St.put,gt_ins]at hu ⊢
  split
  ·rename_i e;rw[if_pos e]at hu;exact .inr hu
  ·rename_i e;rw[if_neg e]at hu;exact h.2.1 t u hu
end Go.Proofs.Ytngghkoghbpceaa
