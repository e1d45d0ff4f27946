/-
  The abstract view of the machine: runs reckoned out.
  Conditions: none; nothing here speaks of one program.
-/
import Derived.Test.YtngghkoghbpceaaKC
import Derived.ScopeJumps
namespace Go.Proofs.Ytngghkoghbpceaa
open Go.RowKit
set_option linter.unusedVariables false
def opsK(s:St)(l:List Operand):List Nat:=l.flatMap fun x=>match s.ev x with|some v=>keysV v|none=> []
def SameK(s s2:St)(K:List Nat):Prop:= ∀κ∈K,gt κ s2.hp=gt κ s.hp
theorem opsK_mem{s:St}{l:List Operand}{x:Operand}{v:AV}(hx:x∈l)(hv:s.ev x=some v){κ:Nat}(hκ:κ∈keysV v):κ∈opsK s l:=
 List.mem_flatMap.2 ⟨x,hx,by rw[hv];exact hκ⟩
theorem loadV_k{P:Program}{s s2:St}{t:TypeId}{v:AV}(h:SameK s s2 (keysV v)):loadV P s2 t v=loadV P s t v:=by
 cases v with
 |ptr κ off=>simp only[loadV,loadV0,loadF];rw[h κ (by simp[keysV])]
 |pel κ off=>simp only[loadV,loadV0,loadF];rw[h κ (by simp[keysV])]
 |wrap k u=>
  cases u with
  |own κ=>have e:=h κ (by simp[keysV]);cases k<;>first|rfl|(simp only[loadV,loadV0,loadF];rw[e])
  |_=>cases k<;>rfl
 |_=>rfl
theorem indexAddrV_k{P:Program}{s s2:St}{t:TypeId}{v:AV}{i:Int}(h:SameK s s2 (keysV v)):indexAddrV P s2 t v i=indexAddrV P s t v i:=by
 cases v with
 |own κ=>simp only[indexAddrV];rw[h κ (by simp[keysV])]
 |d x=>cases x<;>rfl
 |eaddr x=>cases x<;>rfl
 |wrap k u=>
  cases u with
  |own κ=>have e:=h κ (by simp[keysV]);cases k<;>first|rfl|(simp only[indexAddrV];rw[e])
  |_=>cases k<;>rfl
 |_=>rfl
theorem lenV_k{P:Program}{s s2:St}{t:TypeId}{v:AV}(h:SameK s s2 (keysV v)):lenV P s2 t v=lenV P s t v:=by
 unfold lenV
 split
 ·rfl
 ·rfl
 ·rfl
 ·rfl
 ·rename_i κ;rw[h κ (by simp[keysV])]
 ·rename_i κ;rw[h κ (by simp[keysV])]
 ·rfl
theorem capV_k{P:Program}{s s2:St}{t:TypeId}{v:AV}(h:SameK s s2 (keysV v)):capV P s2 t v=capV P s t v:=by
 unfold capV
 split
 ·rfl
 ·rfl
 ·rfl
 ·rename_i κ;rw[h κ (by simp[keysV])]
 ·rfl
theorem asD_k{s s2:St}{v:AV}(h:SameK s s2 (keysV v)):s2.asD v=s.asD v:=by
 cases v with
 |own κ=>simp only[St.asD];rw[h κ (by simp[keysV])]
 |_=>rfl
theorem obind_congr{α β:Type}{x:Option α}{f g:α→Option β}(h: ∀a,x=some a→f a=g a):obind x f=obind x g:=by
 cases x with
 |none=>rfl
 |some a=>exact h a rfl
theorem valOp_k{P:Program}{s s2:St}{op:Op}(h: ∀x∈op.operands,s2.ev x=s.ev x)(hk:SameK s s2 (opsK s op.operands.toList)):valOp P s2 op=valOp P s op:=by
 have key: ∀ {x:Operand} {v:AV},x∈op.operands→s.ev x=some v→SameK s s2 (keysV v):=fun hx hv κ hκ=>hk κ (opsK_mem (by simpa using hx) hv hκ)
 cases op<;>simp only[valOp]
 case move x=>exact h x (by simp[Op.operands])
 case assign x=>exact h x (by simp[Op.operands])
 case pick c x y=>rw[h c (by simp[Op.operands]),h x (by simp[Op.operands]),h y (by simp[Op.operands])]
 case binOp op t x y t'=>
  rw[h x (by simp[Op.operands]),h y (by simp[Op.operands])]
  split
  ·rename_i vx vy hx hy
   rw[asD_k (key (by simp[Op.operands]) hx),asD_k (key (by simp[Op.operands]) hy)]
  ·rfl
 case unOp op t x=>rw[h x (by simp[Op.operands])]
 case convert a b x=>
  rw[h x (by simp[Op.operands])]
  split
  ·rename_i κ hx
   rw[key (by simp[Op.operands]) hx κ (by simp[keysV])]
  ·rfl
  ·rfl
 case load t x=>
  rw[h x (by simp[Op.operands])]
  exact obind_congr fun v hv=>loadV_k (key (by simp[Op.operands]) hv)
 case fieldAddr t x i=>rw[h x (by simp[Op.operands])]
 case field t x i=>rw[h x (by simp[Op.operands])]
 case indexAddr t x y=>
  rw[h x (by simp[Op.operands]),h y (by simp[Op.operands])]
  split
  ·rename_i vx k i hx hy
   exact indexAddrV_k (key (by simp[Op.operands]) hx)
  ·rfl
 case index t x y=>rw[h x (by simp[Op.operands]),h y (by simp[Op.operands])]
 case slice t x l hh m=>
  rw[h x (by simp[Op.operands]),evI_congr (fun y hy=>h y (by subst hy;simp[Op.operands])),evI_congr (fun y hy=>h y (by subst hy;simp[Op.operands])),evI_congr (fun y hy=>h y (by subst hy;simp[Op.operands]))]
 case extract x i=>rw[h x (by simp[Op.operands])]
 case build t l=>
  rw[evP_congr (fun p hp=>h p.2 (by
   simp only[Op.operands,List.mem_toArray,List.mem_map]
   exact⟨p,hp,rfl⟩))]
 case nilCheck x=>rw[h x (by simp[Op.operands])]
 case makeFunc f first caps=>
  cases f<;>simp only[]
  ·rw[evL_congr (fun x hx=>h x (by simp[Op.operands];exact .inr (by simpa using hx)))]
  ·split
   ·rename_i x hf hc
    rw[h x (by simp only[Op.operands,Array.mem_append];exact .inl (by rw[←Array.mem_toList_iff,hf];simp))]
   ·rfl
 case makeInterface t x=>rw[h x (by simp[Op.operands])]
 case call c=>
  obtain⟨cal,args,tys⟩:=c
  have ha: ∀x∈args.toList,s2.ev x=s.ev x:=fun x hx=>h x (by simp[Op.operands,Call.operands];exact .inr (by simpa using hx))
  cases cal<;>simp only[]
  rename_i b
  have hmem: ∀x∈args.toList,x∈(Op.call ⟨.builtin b,args,tys⟩).operands:=fun x hx=>by simp[Op.operands,Call.operands];simpa using hx
  cases b<;>simp only[]
  ·split
   ·rename_i x t hx ht
    rw[ha x (by rw[hx];simp)]
    congr 1
    exact obind_congr fun v hv=>capV_k (key (hmem x (by rw[hx];simp)) hv)
   ·rfl
  ·split
   ·rename_i x t hx ht
    rw[ha x (by rw[hx];simp)]
    congr 1
    exact obind_congr fun v hv=>lenV_k (key (hmem x (by rw[hx];simp)) hv)
   ·rfl
  ·split
   ·rename_i x y hx
    rw[evL_congr (fun z hz=>ha z (by rw[hx];exact hz))]
   ·rfl
theorem argA_k{P:Program}{s s2:St}{V:List Nat}{t:TypeId}{v:AV}(h:SameK s s2 (keysV v)):argA P s2 [] V t v=argA P s [] V t v:=by
 unfold argA
 split
 ·rename_i κ;rw[h κ (by simp[keysV])]
 ·rfl
 ·rfl
 ·rfl
theorem argsA_k{P:Program}{s s2:St}{V:List Nat}: ∀ {ts:List TypeId} {vs:List AV},SameK s s2 (keysVs vs)→argsA P s2 [] V ts vs=argsA P s [] V ts vs
 | [],vs,h=>by simp only[argsA]
 |t::ts,[],h=>by simp only[argsA]
 |t::ts,v::vs,h=>by
  simp only[argsA]
  rw[argA_k (fun κ hκ=>h κ (by simp[keysVs,hκ])),argsA_k (fun κ hκ=>h κ (by simp[keysVs,hκ]))]
theorem keysVs_filter{f:AV→Bool}: ∀ {vs:List AV} {κ:Nat},κ∈keysVs (vs.filter f)→κ∈keysVs vs
 | [],κ,h=>h
 |v::vs,κ,h=>by
  rw[List.filter_cons]at h
  simp only[keysVs,List.mem_append]
  split at h
  ·simp only[keysVs,List.mem_append]at h
   exact h.imp id keysVs_filter
  ·exact .inr (keysVs_filter h)
theorem evL_keys{s:St}: ∀ {l:List Operand} {vs:List AV} {κ:Nat},s.evL l=some vs→κ∈keysVs vs→κ∈opsK s l
 | [],vs,κ,h,hk=>by simp only[St.evL,Option.some.injEq]at h;subst h;simp[keysVs]at hk
 |x::l,vs,κ,h,hk=>by
  simp only[St.evL]at h
  split at h
  ·rename_i v r hv hr
   cases h
   simp only[keysVs,List.mem_append]at hk
   rcases hk with hk|hk
   ·exact opsK_mem (by simp) hv hk
   ·have:=evL_keys hr hk
    obtain⟨y,hy,hyk⟩:=List.mem_flatMap.1 this
    exact List.mem_flatMap.2 ⟨y,by simp[hy],hyk⟩
  ·cases h
def noKeys(P:Program)(s:St)(o:Oper):Bool:=
 match o.op with
 | .call c=>match goC P s c with
  |some (_,vs)=>(keysVs (vs.filter notOwn)).isEmpty
  |none=>true
 |_=>true
theorem goC_keys{P:Program}{s:St}{c:Call}{f:FuncId}{vs:List AV}{κ:Nat}(h:goC P s c=some (f,vs))(hk:κ∈keysVs vs):κ∈opsK s c.operands.toList:=by
 obtain⟨cal,args,tys⟩:=c
 have app: ∀a b:List AV,∀κ,κ∈keysVs (a++b)→κ∈keysVs a∨κ∈keysVs b:=by
  intro a b
  induction a with
  |nil=>intro κ h;exact .inr h
  |cons x a ih=>
   intro κ h
   simp only[List.cons_append,keysVs,List.mem_append]at h ⊢
   rcases h with h|h
   ·exact .inl (.inl h)
   ·rcases ih κ h with h|h
    ·exact .inl (.inr h)
    ·exact .inr h
 have hargs: ∀ws,s.evL args.toList=some ws→κ∈keysVs ws→κ∈opsK s (Call.operands ⟨cal,args,tys⟩).toList:=by
  intro ws hws hκ
  obtain⟨y,hy,hyk⟩:=List.mem_flatMap.1 (evL_keys hws hκ)
  exact List.mem_flatMap.2 ⟨y,by simp[Call.operands];exact .inr (by simpa using hy),hyk⟩
 unfold goC at h
 cases cal with
 |value g=>
  simp only at h
  unfold goV at h
  split at h
  ·rename_i f' caps ws h1 h2
   simp only[Option.some.injEq,Prod.mk.injEq]at h
   obtain⟨rfl,rfl⟩:=h
   rcases app _ _ _ hk with hk|hk
   ·exact hargs _ h2 hk
   ·exact opsK_mem (x:=g) (by simp[Call.operands]) h1 (by simpa only[keysV]using hk)
  ·rename_i u ws h1 h2
   obtain⟨f',_,he⟩:=Option.map_eq_some_iff.1 h
   simp only[Prod.mk.injEq]at he
   obtain⟨rfl,rfl⟩:=he
   exact hargs _ h2 hk
  ·cases h
 |invoke r n=>
  simp only at h
  unfold goI at h
  split at h
  ·rename_i t v ws h1 h2
   obtain⟨f',_,he⟩:=Option.map_eq_some_iff.1 h
   simp only[Prod.mk.injEq]at he
   obtain⟨rfl,rfl⟩:=he
   simp only[keysVs,List.mem_append]at hk
   rcases hk with hk|hk
   ·exact opsK_mem (x:=r) (by simp[Call.operands]) h1 (by simpa only[keysV]using hk)
   ·exact hargs _ h2 hk
  ·cases h
 |builtin b=>cases h
theorem callD7_nil{s s2:St}{V:List Nat}{q q2:Nat}{r:Option (AV×List Blk)}:callD7 s2 [] V q2 r=callD7 s [] V q r:=by
 have hb0:backF [] q2 0=backF [] q 0:=by funext j;simp[backF]
 cases r with
 |none=>rfl
 |some p=>
  obtain⟨R,BS⟩:=p
  cases BS with
  |nil=>
   have e: ∀(s:St) (f:Nat→Option Nat),callD7 s [] V q2 (some (R,[]))=if(V.isEmpty||(flatV R&&([]:List Blk).all flatB))then some (renV (backF [] q2 0) R)else none:=fun _ _=>rfl
   have e': ∀(s:St) (f:Nat→Option Nat),callD7 s [] V q (some (R,[]))=if(V.isEmpty||(flatV R&&([]:List Blk).all flatB))then some (renV (backF [] q 0) R)else none:=fun _ _=>rfl
   rw[e s2 (backF [] q 0),e' s (backF [] q 0),hb0]
  |cons B l=>simp only[callD7,sameK,Bool.false_and,Bool.false_eq_true,if_false]
theorem callD_k{P:Program}{run:RunF}{s s2:St}{o:Oper}(hn:s2.n=s.n)(h: ∀x∈o.op.operands,s2.ev x=s.ev x)(hk:SameK s s2 (opsK s o.op.operands.toList))(h0:noKeys P s o=true):callD P run s2 o=callD P run s o:=by
 have hok:s2.okDst o.dst=s.okDst o.dst:=by cases hd:o.dst<;>simp[St.okDst,hn]
 unfold callD
 split
 ·cases hc:opCall o.op with
  |none=>rfl
  |some c=>
   have ho:o.op= .call c:=by
    unfold opCall at hc
    split at hc
    ·rename_i c' hc';cases hc;exact hc'
    ·cases hc
   have hgc:goC P s2 c=goC P s c:=goC_congr fun x hx=>h x (by rw[ho];exact hx)
   unfold noKeys at h0
   rw[ho]at h0
   simp only at h0
   simp only[callD0,hgc]
   cases hgo:goC P s c with
   |none=>rfl
   |some r=>
    obtain⟨f,vs⟩:=r
    rw[hgo]at h0
    simp only at h0 ⊢
    have hke:keysVs (vs.filter notOwn)= []:=List.isEmpty_iff.1 h0
    have hkk:SameK s s2 (keysVs vs):=fun κ hκ=>hk κ (by rw[ho];exact goC_keys hgo hκ)
    have hr0: ∀hp:List (Nat×Blk),reachK hp 64 [] []= []:=fun _=>rfl
    have hrm: ∀V,rmK [] V=V:=by intro V;unfold rmK;rw[List.filter_eq_self];intro a _;simp
    have e1:(keysVs (vs.filter isOwn)).all (fun κ=>(gt κ s2.hp).isSome)=(keysVs (vs.filter isOwn)).all (fun κ=>(gt κ s.hp).isSome):=by
     rw[Bool.eq_iff_iff,List.all_eq_true,List.all_eq_true]
     constructor
     ·intro h' κ hκ;rw[←hkk κ (keysVs_filter hκ)];exact h' κ hκ
     ·intro h' κ hκ;rw[hkk κ (keysVs_filter hκ)];exact h' κ hκ
    simp only[callD1]
    cases P.funcs[f]? with
    |none=>rfl
    |some fn=>
     simp only[callD2,callD3,callD4,hok,hke,hr0,hrm,pickB,callD5,argsA_k hkk,e1,List.all_nil,Bool.and_true]
     cases run f (argsA P s [] (keysVs (vs.filter isOwn)) fn.params.toList vs) []with
     |none=>rfl
     |some p=>
      obtain⟨R,BS⟩:=p
      simp only[callD6]
      rw[callD7_nil (s:=s) (q:=maxK s.hp 16)]
 ·rfl
theorem stepV_k{P:Program}{ops:Array Oper}{s s2:St}{o:Oper}(hn:s2.n=s.n)(hr: ∀t∈o.looksAt ops,gt t s2.tm=gt t s.tm)(hk:SameK s s2 (opsK s o.op.operands.toList)):stepV P ops s2 o=stepV P ops s o:=by
 have hev: ∀x∈o.op.operands,s2.ev x=s.ev x:=fun x hx=>ev_congr fun t ht=>hr t (mem_looks (by subst ht;exact hx))
 have hok:s2.okDst o.dst=s.okDst o.dst:=by cases hd:o.dst<;>simp[St.okDst,hn]
 have hg: ∀j want,o.guard=some (j,want)→gtO (obind ops[j]? Oper.dst) s2.tm=gtO (obind ops[j]? Oper.dst) s.tm:=by
  intro j want hg
  cases hd:obind ops[j]? Oper.dst with
  |none=>rfl
  |some t=>exact hr t (List.mem_append_right _ (by have hd':(ops[j]?).bind (·.dst)=some t:=hd
                                                   simp[hg,hd']))
 unfold stepV
 rw[hok,valOp_k hev hk]
 split
 ·rfl
 ·split
  ·rfl
  ·rename_i j want hgd;rw[hg j want hgd]
noncomputable def callK0 (P:Program) (run:RunF) (s:St) (o:Oper):Option AV:=if noKeys P s o then callD P run s o else none
noncomputable def valK (P:Program) (run:RunF) (ops:Array Oper) (s:St) (o:Oper):Option AV:=
 match stepV P ops s o with
 |some v=>some v
 |none=>match o.guard with
  |none=>callK0 P run s o
  |some (j,want)=>match gtO (obind ops[j]? Oper.dst) s.tm with
   |some (.d (.v (.bool b)))=>if b=want then callK0 P run s {o with guard:=none}else none
   |_=>none
theorem callK0_D{P:Program}{run:RunF}{s:St}{o:Oper}{v:AV}(h:callK0 P run s o=some v):noKeys P s o=true∧callD P run s o=some v:=by
 unfold callK0 at h
 split at h
 ·rename_i h0;exact⟨h0,h⟩
 ·cases h
theorem valK_k{P:Program}{run:RunF}{ops:Array Oper}{s s2:St}{o:Oper}{v:AV}(hn:s2.n=s.n)(hr: ∀t∈o.looksAt ops,gt t s2.tm=gt t s.tm)(hk:SameK s s2 (opsK s o.op.operands.toList))(h:valK P run ops s o=some v):valX P run ops s2 o=some v:=by
 have hev: ∀x∈o.op.operands,s2.ev x=s.ev x:=fun x hx=>ev_congr fun t ht=>hr t (mem_looks (by subst ht;exact hx))
 have hg: ∀j want,o.guard=some (j,want)→gtO (obind ops[j]? Oper.dst) s2.tm=gtO (obind ops[j]? Oper.dst) s.tm:=by
  intro j want hg
  cases hd:obind ops[j]? Oper.dst with
  |none=>rfl
  |some t=>exact hr t (List.mem_append_right _ (by have hd':(ops[j]?).bind (·.dst)=some t:=hd
                                                   simp[hg,hd']))
 unfold valK at h
 unfold valX
 rw[stepV_k hn hr hk]
 cases hsv:stepV P ops s o with
 |some u=>rw[hsv]at h;exact h
 |none=>
  rw[hsv]at h
  simp only at h ⊢
  cases hgd:o.guard with
  |none=>
   rw[hgd]at h
   simp only at h ⊢
   obtain⟨h0,h1⟩:=callK0_D h
   rw[callD_k hn hev hk h0];exact h1
  |some q=>
   obtain⟨j,want⟩:=q
   rw[hgd]at h
   simp only at h ⊢
   rw[hg j want hgd]
   split at h
   ·rename_i b hb
    rw[hb]
    simp only
    split at h
    ·rename_i hbw
     rw[if_pos hbw]
     obtain⟨h0,h1⟩:=callK0_D h
     have:callD P run s2 {o with guard:=none}=callD P run s {o with guard:=none}:=callD_k (o:= {o with guard:=none}) hn hev hk h0
     rw[this];exact h1
    ·cases h
   ·cases h
def dstW(d:Option Nat)(v:AV):List (Nat×AV):=match d with|some d=> [(d,v)]|none=> []
theorem applyE_put{s:St}{d:Option Nat}{v:AV}:Sub (applyE s ⟨dstW d v,[]⟩) (s.put d v):=by
 cases d with
 |none=>exact⟨rfl,fun t u h=> .inr h,fun κ B h=>h⟩
 |some d=>exact⟨rfl,fun t u h=> .inr (by simpa only[applyE,dstW,insL,St.put]using h),fun κ B h=>h⟩
theorem lop_val{P:Program}{run:RunF}(hrun:RunOk P run){ops:Array Oper}{s:St}{o:Oper}{v:AV}(h:valK P run ops s o=some v):LOp P ops s ⟨o,⟨dstW o.dst v,[]⟩,o.looksAt ops,opsK s o.op.operands.toList,[]⟩:=by
 intro s2 hn hr hk _ _
 have h2:valX P run ops s2 o=some v:=valK_k hn hr hk h
 refine awpl_mono ?_ (valX_sound hrun h2 s2 rfl rfl (fun _ _=>rfl))
 rintro s3 rfl
 exact applyE_put
theorem killV_id(κ:Nat): ∀v:AV,κ∉keysV v→killV κ v=v:=by
 intro v
 induction v using AV.rec (motive_2:=fun vs=>κ∉keysVs vs→killVs κ vs=vs)with
 |d x=>intro _;rfl
 |ptr j off=>intro h;simp only[keysV,List.mem_singleton]at h;simp only[killV,if_neg (Ne.symm h)]
 |own j=>intro h;simp only[keysV,List.mem_singleton]at h;simp only[killV,if_neg (Ne.symm h)]
 |pel j off=>intro h;simp only[keysV,List.mem_singleton]at h;simp only[killV,if_neg (Ne.symm h)]
 |eaddr x=>intro _;rfl
 |agg cs ih=>intro h;simp only[keysV]at h;simp only[killV,ih h]
 |tup vs ih=>intro h;simp only[keysV]at h;simp only[killV,ih h]
 |clos f caps ih=>intro h;simp only[keysV]at h;simp only[killV,ih h]
 |wrap k v ih=>intro h;simp only[keysV]at h;simp only[killV,ih h]
 |bot=>intro _;rfl
 |nil=>rfl
 |cons v vs ih1 ih2=>
  rename_i h
  simp only[keysVs,List.mem_append,not_or]at h
  simp only[killVs,ih1 h.1,ih2 h.2]
theorem keysV_kill(κ:Nat): ∀(v:AV) (j:Nat),j∈keysV (killV κ v)→j≠κ∧j∈keysV v:=by
 intro v
 induction v using AV.rec (motive_2:=fun vs=> ∀j,j∈keysVs (killVs κ vs)→j≠κ∧j∈keysVs vs)with
 |d x=>intro j h;simp[killV,keysV]at h
 |ptr i off=>
  intro j h
  simp only[killV]at h
  split at h
  ·simp[keysV]at h
  ·rename_i hne;simp only[keysV,List.mem_singleton]at h ⊢;subst h;exact⟨hne,rfl⟩
 |own i=>
  intro j h
  simp only[killV]at h
  split at h
  ·simp[keysV]at h
  ·rename_i hne;simp only[keysV,List.mem_singleton]at h ⊢;subst h;exact⟨hne,rfl⟩
 |pel i off=>
  intro j h
  simp only[killV]at h
  split at h
  ·simp[keysV]at h
  ·rename_i hne;simp only[keysV,List.mem_singleton]at h ⊢;subst h;exact⟨hne,rfl⟩
 |eaddr x=>intro j h;simp[killV,keysV]at h
 |agg cs ih=>intro j h;simp only[killV,keysV]at h ⊢;exact ih j h
 |tup vs ih=>intro j h;simp only[killV,keysV]at h ⊢;exact ih j h
 |clos f caps ih=>intro j h;simp only[killV,keysV]at h ⊢;exact ih j h
 |wrap k v ih=>intro j h;simp only[killV,keysV]at h ⊢;exact ih j h
 |bot=>intro j h;simp[killV,keysV]at h
 |nil=>rename_i h;simp[killVs,keysVs]at h
 |cons v vs ih1 ih2=>
  rename_i j h
  simp only[killVs,keysVs,List.mem_append]at h ⊢
  rcases h with h|h
  ·exact⟨(ih1 j h).1,.inl (ih1 j h).2⟩
  ·exact⟨(ih2 j h).1,.inr (ih2 j h).2⟩
theorem killVs_map(κ:Nat): ∀vs:List AV,killVs κ vs=vs.map (killV κ)
 | []=>rfl
 |v::vs=>by simp only[killVs,List.map_cons,killVs_map κ vs]
theorem mem_keysVs{κ:Nat}: ∀ {vs:List AV} {v:AV},v∈vs→κ∈keysV v→κ∈keysVs vs
 |u::vs,v,h,hk=>by
  simp only[keysVs,List.mem_append]
  rcases List.mem_cons.1 h with h|h
  ·subst h;exact .inl hk
  ·exact .inr (mem_keysVs h hk)
theorem killV_idem(κ:Nat)(v:AV):killV κ (killV κ v)=killV κ v:=killV_id κ _ fun h=>(keysV_kill κ v κ h).1 rfl
theorem killB_id(κ:Nat)(B:Blk)(h:κ∉keysB B):killB κ B=B:=by
 cases B with
 |box e cs=>
  simp only[keysB]at h
  simp only[killB]
  rw[killVs_map]
  congr 1
  have:cs.map (killV κ)=cs.map id:=List.map_congr_left fun v hv=>killV_id κ v fun hk=>h (mem_keysVs hv hk)
  rw[this,List.map_id]
 |map cs=>
  simp only[keysB]at h
  simp only[killB]
  rw[killVs_map]
  congr 1
  have:cs.map (killV κ)=cs.map id:=List.map_congr_left fun v hv=>killV_id κ v fun hk=>h (mem_keysVs hv hk)
  rw[this,List.map_id]
 |vrow e cs=>
  simp only[keysB]at h
  simp only[killB]
  rw[killVs_map]
  congr 1
  have:cs.map (killV κ)=cs.map id:=List.map_congr_left fun v hv=>killV_id κ v fun hk=>h (mem_keysVs hv hk)
  rw[this,List.map_id]
 |_=>rfl
theorem killB_idem(κ:Nat)(B:Blk):killB κ (killB κ B)=killB κ B:=by
 cases B with
 |box e cs=>simp only[killB,killVs_map,List.map_map];congr 1;exact List.map_congr_left fun v _=>killV_idem κ v
 |map cs=>simp only[killB,killVs_map,List.map_map];congr 1;exact List.map_congr_left fun v _=>killV_idem κ v
 |vrow e cs=>simp only[killB,killVs_map,List.map_map];congr 1;exact List.map_congr_left fun v _=>killV_idem κ v
 |_=>rfl
theorem nm_one{κ:Nat}{v:AV}(h:nm [κ] v=false):κ∉keysV v:=by
 intro hk
 have:=List.any_eq_true.2 ⟨κ,hk,(by show List.contains [κ] κ=true;simp)⟩
 unfold nm at h;rw[h]at this;cases this
theorem nmB_one{κ:Nat}{B:Blk}(h:nmB [κ] B=false):κ∉keysB B:=by
 intro hk
 have:=List.any_eq_true.2 ⟨κ,hk,(by show List.contains [κ] κ=true;simp)⟩
 unfold nmB at h;rw[h]at this;cases this
theorem gt_setB{s:St}{κ j:Nat}{B:Blk}:gt j (s.setB true κ B).hp=if j=κ then some B else(gt j s.hp).map (killB κ):=by
 simp only[St.setB,if_true,gt_ins,gt_mapv]
theorem setB_twice{s:St}{κ:Nat}{B B':Blk}:Sub (s.setB true κ B') ((s.setB true κ B).setB true κ B'):=by
 refine⟨rfl,fun t v hv=> .inr ?_,fun j B0 hB=> ?_⟩
 ·simp only[St.setB,if_true,gt_mapv]at hv ⊢
  rw[←hv,Option.map_map]
  congr 1
  funext x;exact killV_idem κ x
 ·rw[gt_setB]at hB ⊢
  split
  ·rename_i e;rw[if_pos e]at hB;exact hB
  ·rename_i e
   rw[if_neg e]at hB
   rw[gt_setB,if_neg e,←hB,Option.map_map]
   congr 1
   funext x;exact killB_idem κ x
def blkE(P:Program)(s:St)(o:Oper):Option (Bool×Nat×Blk×AV):=
 match o.op with
 | .alloc e=>match o.dst,zeroT P e with
  |some d,some zs=>some (true,kL d,.box e (zs.map fun z=> .d (.v z)),.ptr (kL d) 0)
  |_,_=>none
 | .box e x=>match o.dst,obind (s.ev x) AV.parts with
  |some d,some ps=>some (true,kL d,.box e (killVs (kL d) ps),.ptr (kL d) 0)
  |_,_=>none
 | .buildSlice t n l=>match o.dst,obind (s.evP l.toList) (litX P (kO o.dst) t n)with
  |some d,some B=>some (true,kL d,B,valB (kL d) B)
  |_,_=>none
 | .makeSlice t l cp=>match o.dst,s.ev l,s.ev cp with
  |some d,some (.d (.v (.int _ i))),some (.d (.v (.int _ j)))=>omap (makeB P t i j) fun B=>(true,kL d,B,.own (kL d))
  |_,_,_=>none
 | .store t ad x=>match s.ev ad,s.ev x with
  |some va,some vx=>omap (storeB P s t va vx) fun r=>(false,r.1,r.2,.bot)
  |_,_=>none
 | .call {callee:= .builtin .append,args:=args,argTypes:=tys}=>match args.toList,tys.toList with
  | [x,y],[t,t']=>if t≠t' then omap (appZB P s o.dst t t' (s.ev x) (s.ev y)) (fun r=>(true,r.1,r.2,.own r.1))else match appVX P s o.dst t (s.ev x) (s.ev y)with
   |some r=>some (true,r.1,r.2,valB r.1 r.2)
   |none=>match appT P t,s.ev x,s.ev y with
   |some (e,n,by'),some (.own κ),some vy=>match gt κ s.hp with
    |some B=>if B.isRow n=true∧B.elem=e then omap (growB s by' B vy) fun B'=>(true,κ,B',.own κ)else none
    |none=>none
   |some (e,n,by'),some vx,some vy=>match o.dst,emptyB P t with
    |some d,some B=>if isEmptyA vx=true then omap (growB (s.setB true (kL d) B) by' B (killV (kL d) vy)) fun B'=>(true,kL d,B',.own (kL d))
     else omap (growD s e n by' vx vy) fun B'=>(true,kL d,B',.own (kL d))
    |_,_=>none
   |_,_,_=>none
  |_,_=>none
 |_=>none
theorem blkE_step{P:Program}{s:St}{o:Oper}{k:Bool}{κ:Nat}{B:Blk}{v:AV}(h:blkE P s o=some (k,κ,B,v))(hok:s.okDst o.dst=true): ∃s',stepF P s o=some s'∧Sub ((s.setB k κ B).put o.dst v) s':=by
 obtain⟨d,op,ty,pos,af,g⟩:=o
 unfold blkE at h
 unfold stepF
 simp only at h hok ⊢
 rw[hok,if_pos rfl]
 split at h
 ·rename_i e
  simp only[stepB]
  split at h
  ·rename_i d' zs h2
   cases h
   rw[h2]
   exact⟨_,rfl,Sub.refl _⟩
  ·cases h
 ·rename_i e x
  simp only[stepB]
  split at h
  ·rename_i d' ps h2
   cases h
   rw[h2]
   exact⟨_,rfl,Sub.refl _⟩
  ·cases h
 ·rename_i t n l
  simp only[stepB]
  split at h
  ·rename_i d' B' h2
   cases h
   rw[h2]
   exact⟨_,rfl,Sub.refl _⟩
  ·cases h
 ·rename_i t l cp
  simp only[stepB]
  split at h
  ·rename_i d' kl i kc j h2 h3
   obtain⟨B',hB',he⟩:=Option.map_eq_some_iff.1 h
   cases he
   rw[h2,h3]
   refine⟨_,by simp only[omap,hB',Option.map_some],Sub.refl _⟩
  ·cases h
 ·rename_i t ad x
  simp only[stepB]
  split at h
  ·rename_i va vx h1 h2
   obtain⟨⟨κ',B'⟩,hB',he⟩:=Option.map_eq_some_iff.1 h
   cases he
   rw[h1,h2]
   refine⟨_,by simp only[omap,hB',Option.map_some],Sub.refl _⟩
  ·cases h
 ·rename_i args tys
  simp only[isBlt,if_true,stepB]
  split at h
  ·rename_i x y t t' hx ht
   rw[hx,ht]
   simp only
   split at h
   ·rename_i htt
    obtain⟨⟨κ',B'⟩,hB',he⟩:=Option.map_eq_some_iff.1 h
    cases he
    rw[if_pos htt]
    exact⟨_,by simp only[appZ,omap,hB',Option.map_some],Sub.refl _⟩
   ·rename_i htt
    rw[if_neg htt]
    split at h
    ·rename_i r hr
     cases h
     rw[hr]
     exact⟨_,rfl,Sub.refl _⟩
    rename_i hnone
    rw[hnone]
    simp only
    split at h
    ·rename_i e n by' κ' vy h1 h2 h3
     rw[h1,h2,h3]
     simp only
     split at h
     ·rename_i B0 hB0
      rw[hB0]
      simp only
      split at h
      ·rename_i hc
       rw[if_pos hc]
       obtain⟨B',hB',he⟩:=Option.map_eq_some_iff.1 h
       cases he
       exact⟨_,by simp only[omap,hB',Option.map_some],Sub.refl _⟩
      ·cases h
     ·cases h
    ·rename_i e n by' vx vy hno h1 h2 h3
     rw[h1,h2,h3]
     split at h
     ·rename_i d' B0 h5
      have tail: ∀s',(if isEmptyA vx=true then omap (growB (s.setB true (kL d') B0) by' B0 (killV (kL d') vy)) fun B'=>((s.setB true (kL d') B0).setB true (kL d') B').put (some d') (.own (kL d'))else omap (growD s e n by' vx vy) fun B'=>(s.setB true (kL d') B').put (some d') (.own (kL d')))=some s'→(match some (e,n,by'),some vx,some vy with
        |some (e,n,by'),some (AV.own κ),some vy=>match gt κ s.hp with
         |some B=>if B.isRow n=true∧B.elem=e then omap (growB s by' B vy) fun B'=>(s.setB true κ B').put (some d') (.own κ)else none
         |none=>none
        |some (e,n,by'),some vx,some vy=>match some d',emptyB P t with
         |some d,some B=>if isEmptyA vx=true then
           let s1:=s.setB true (kL d) B
           omap (growB s1 by' B (killV (kL d) vy)) fun B'=>(s1.setB true (kL d) B').put (some d') (.own (kL d))
          else omap (growD s e n by' vx vy) fun B'=>(s.setB true (kL d) B').put (some d') (.own (kL d))
         |_,_=>none
        |_,_,_=>none)=some s':=by
       intro s' hs
       rw[h5]
       cases vx with
       |own κ=>exact(hno κ rfl).elim
       |_=>exact hs
      split at h
      ·rename_i hemp
       obtain⟨B',hB',he⟩:=Option.map_eq_some_iff.1 h
       cases he
       refine⟨_,tail _ (by rw[if_pos hemp,omap,hB'];rfl),Sub.put setB_twice _ _⟩
      ·rename_i hemp
       obtain⟨B',hB',he⟩:=Option.map_eq_some_iff.1 h
       cases he
       refine⟨_,tail _ (by rw[if_neg hemp,omap,hB'];rfl),Sub.refl _⟩
     ·cases h
    ·cases h
  ·cases h
 ·cases h
theorem intsA_k{s s2:St}{k:IntKind}{v:AV}(h:SameK s s2 (keysV v)):s2.intsA k v=s.intsA k v:=by
 unfold St.intsA
 split
 ·rfl
 ·rfl
 ·rename_i κ;rw[h κ (by simp[keysV])]
 ·rfl
theorem rowA_k{s s2:St}{k:Nat}{v:AV}(h:SameK s s2 (keysV v)):s2.rowA k v=s.rowA k v:=by
 unfold St.rowA
 split
 ·rfl
 ·rfl
 ·rename_i κ;rw[h κ (by simp[keysV])]
 ·rfl
theorem growB_k{s s2:St}{b:Nat}{B:Blk}{v:AV}(h:SameK s s2 (keysV v)):growB s2 b B v=growB s b B v:=by
 unfold growB
 split
 ·rw[intsA_k h]
 ·rw[rowA_k h]
 ·rfl
theorem appVB_k{s s2:St}{e n b κ:Nat}{x v:AV}(hx:SameK s s2 (keysV x))(h:SameK s s2 (keysV v)):appVB s2 e n b κ x v=appVB s e n b κ x v:=by
 unfold appVB
 split
 ·rename_i l j
  rw[h j (by simp[keysV])]
  split
  ·split
   ·rename_i l' κ';rw[hx κ' (by simp[keysV])]
   ·rfl
  ·rfl
 ·rfl
theorem appVX_k{P:Program}{s s2:St}{d:Option Nat}{t:TypeId}{vx vy:Option AV}(hx: ∀v,vx=some v→SameK s s2 (keysV v))(hy: ∀v,vy=some v→SameK s s2 (keysV v)):appVX P s2 d t vx vy=appVX P s d t vx vy:=by
 unfold appVX
 split
 ·rename_i x l j
  split
  ·simp only[appVB_k (hx _ rfl) (hy _ rfl)]
  ·rfl
 ·rfl
theorem growD_k{s s2:St}{e n b:Nat}{x v:AV}(h:SameK s s2 (keysV v)):growD s2 e n b x v=growD s e n b x v:=by
 unfold growD
 split
 ·rw[intsA_k h]
 ·rw[rowA_k h]
 ·rfl
theorem storeB_k{P:Program}{s s2:St}{t:TypeId}{ad v:AV}(h:SameK s s2 (keysV ad)):storeB P s2 t ad v=storeB P s t ad v:=by
 have e0:storeB0 P s2 t ad v=storeB0 P s t ad v:=by
  unfold storeB0
  split
  ·rename_i κ off;rw[h κ (by simp[keysV])]
  ·rename_i κ off;rw[h κ (by simp[keysV])]
  ·rfl
 have e1:storeF P s2 t ad v=storeF P s t ad v:=by
  unfold storeF
  split
  ·rename_i κ off;rw[h κ (by simp[keysV])]
  ·rfl
 unfold storeB
 rw[e0,e1]
theorem setB_k{s s2:St}{κ:Nat}{B:Blk}{v:AV}(h:SameK s s2 (keysV v)):SameK (s.setB true κ B) (s2.setB true κ B) (keysV (killV κ v)):=by
 intro j hj
 obtain⟨h1,h2⟩:=keysV_kill κ v j hj
 rw[gt_setB,gt_setB,if_neg h1,if_neg h1,h j h2]
theorem blkE_k{P:Program}{s s2:St}{o:Oper}(h: ∀x∈o.op.operands,s2.ev x=s.ev x)(hk:SameK s s2 (opsK s o.op.operands.toList)):blkE P s2 o=blkE P s o:=by
 have key: ∀ {x:Operand} {v:AV},x∈o.op.operands→s.ev x=some v→SameK s s2 (keysV v):=fun hx hv κ hκ=>hk κ (opsK_mem (by simpa using hx) hv hκ)
 obtain⟨d,op,ty,pos,af,g⟩:=o
 unfold blkE
 simp only at h hk key ⊢
 split
 ·rfl
 ·rename_i e x;rw[h x (by simp[Op.operands])]
 ·rename_i t n l
  rw[evP_congr (fun p hp=>h p.2 (by
   simp only[Op.operands,List.mem_toArray,List.mem_map]
   exact⟨p,hp,rfl⟩))]
 ·rename_i t l cp;rw[h l (by simp[Op.operands]),h cp (by simp[Op.operands])]
 ·rename_i t ad x
  rw[h ad (by simp[Op.operands]),h x (by simp[Op.operands])]
  split
  ·rename_i va vx h1 h2;rw[storeB_k (key (by simp[Op.operands]) h1)]
  ·rfl
 ·rename_i args tys
  split
  ·rename_i x y t t' hx ht
   have hmem: ∀x∈args.toList,x∈(Op.call ⟨.builtin .append,args,tys⟩).operands:=fun x hx=>by simp[Op.operands,Call.operands];simpa using hx
   have hax:=hmem x (by rw[hx];simp)
   have hay:=hmem y (by rw[hx];simp)
   rw[h x hax,h y hay]
   split
   ·have:appZB P s2 d t t' (s.ev x) (s.ev y)=appZB P s d t t' (s.ev x) (s.ev y):=by
     unfold appZB
     split
     ·rename_i e n by' kn κ kq i hT htn h2 h3
      rw[key hax h2 κ (by simp[keysV])]
     ·rfl
    rw[this]
   ·rw[appVX_k (fun v hv=>key hax hv) (fun v hv=>key hay hv)]
    split
    ·rfl
    split
    ·rename_i e n by' κ vy h1 h2 h3
     rw[key hax h2 κ (by simp[keysV])]
     split
     ·rw[growB_k (key hay h3)]
     ·rfl
    ·rename_i e n by' vx vy hno h1 h2 h3
     split
     ·rw[growB_k (setB_k (key hay h3)),growD_k (key hay h3)]
     ·rfl
    ·rfl
  ·rfl
 ·rfl
def namesW(s:St)(κ:Nat):List (Nat×AV):=(s.tm.filter fun p=>nm [κ] p.2).map fun p=>(p.1,.bot)
def blkLoc(ops:Array Oper)(s:St)(o:Oper)(r:Bool×Nat×Blk×AV):Loc:=
 ⟨o,⟨dstW o.dst r.2.2.2++(if r.1 then namesW s r.2.1 else []),[(r.2.1,r.2.2.1)]⟩,o.looksAt ops,opsK s o.op.operands.toList,if r.1 then [r.2.1]else []⟩
theorem gt_append{α:Type}{t:Nat}: ∀ {a b:List (Nat×α)},gt t (a++b)=match gt t a with|some v=>some v|none=>gt t b
 | [],b=>rfl
 |(k,v)::a,b=>by
  simp only[List.cons_append,gt]
  split
  ·rfl
  ·exact gt_append
theorem gt_namesW{s:St}{κ t:Nat}{v:AV}(h:gt t (namesW s κ)=some v):v= .bot:=by
 obtain⟨p,_,hp⟩:=List.mem_map.1 (gt_memL h)
 cases hp;rfl
theorem killsV_id(K:List Nat)(v:AV)(h:nm K v=false):killsV K v=v:=by
 induction v using AV.rec (motive_2:=fun vs=>((keysVs vs).any K.contains=false)→killsVs K vs=vs)with
 |nil=>rfl
 |cons x l hx hl=>
  rename_i h
  simp only[keysVs,List.any_append,Bool.or_eq_false_iff]at h
  simp only[killsVs,hx h.1,hl h.2]
 |_=>first
  |(simp only[killsV];done)
  |(simp[nm,keysV]at h;simp[killsV,h];done)
  |(rename_i ih;simp only[killsV];rw[ih (by simpa only[nm,keysV]using h)])
theorem killsB_id(K:List Nat)(B:Blk)(h:nmB K B=false):killsB K B=B:=by
 cases B with
 |box e cs=>
  have:killsV K (.agg cs)= .agg cs:=killsV_id K _ (by simpa only[nm,keysV,nmB,keysB]using h)
  simp only[killsV,AV.agg.injEq]at this
  simp only[killsB,this]
 |map cs=>
  have:killsV K (.agg cs)= .agg cs:=killsV_id K _ (by simpa only[nm,keysV,nmB,keysB]using h)
  simp only[killsV,AV.agg.injEq]at this
  simp only[killsB,this]
 |vrow e cs=>
  have:killsV K (.agg cs)= .agg cs:=killsV_id K _ (by simpa only[nm,keysV,nmB,keysB]using h)
  simp only[killsV,AV.agg.injEq]at this
  simp only[killsB,this]
 |_=>rfl
theorem pickB_same{f:Nat→Option Nat}{hp hp2:List (Nat×Blk)}: ∀ {l:List Nat},(∀κ∈l,gt κ hp2=gt κ hp)→pickB f hp2 l=pickB f hp l
 | [],_=>rfl
 |κ::l,h=>by
  simp only[pickB]
  rw[h κ (by simp),pickB_same (fun j hj=>h j (by simp[hj]))]
theorem rowKeys_same{hp hp2:List (Nat×Blk)}{l:List Nat}(h: ∀κ∈l,gt κ hp2=gt κ hp):rowKeys hp2 l=rowKeys hp l:=by
 unfold rowKeys
 exact List.filter_congr fun κ hκ=>by rw[h κ hκ]
theorem argA_v0{P:Program}{s s2:St}{ks:List Nat}{t:TypeId}{v:AV}:argA P s2 ks [] t v=argA P s ks [] t v:=by
 cases v<;>simp[argA]
theorem argsA_v0{P:Program}{s s2:St}{ks:List Nat}: ∀ {ts:List TypeId} {vs:List AV},argsA P s2 ks [] ts vs=argsA P s ks [] ts vs
 | [],vs=>by simp only[argsA]
 |t::ts,[]=>by simp only[argsA]
 |t::ts,v::vs=>by simp only[argsA];rw[argA_v0 (s:=s) (s2:=s2),argsA_v0 (s:=s) (s2:=s2)]
theorem after_hand{s2:St}{ks:List Nat}{q:Nat}{BS:List Blk}{d:Option Nat}{v:AV}{K:List Nat}(hK:rowKeys s2.hp ks++newKeys ks q BS.length=K)(hlen:ks.length≤BS.length)
  (h1: ∀t u,gt t s2.tm=some u→(gt t (dstW d v)).isSome=true∨nm K u=false)
  (h2: ∀κ B,gt κ s2.hp=some B→(gt κ (backFrom (backK ks q) (backF ks q BS.length) 0 BS)).isSome=true∨nmB K B=false):
  Sub (applyE s2 ⟨dstW d v,backFrom (backK ks q) (backF ks q BS.length) 0 BS⟩) ((afterS s2 ks q BS).put d v):=by
 have etm:(afterS s2 ks q BS).tm=mapv (killsV K) s2.tm:=by rw[←hK];rfl
 have ehp:((afterS s2 ks q BS).put d v).hp=insL (backFrom (backK ks q) (backF ks q BS.length) 0 BS) (mapv (killsB K) (delL ks s2.hp)):=by rw[←hK];cases d<;>rfl
 refine⟨by cases d<;>rfl,fun t u hu=> .inr ?_,fun j B hB=> ?_⟩
 ·simp only[applyE,gt_insL]at hu
  have e:gt t ((afterS s2 ks q BS).put d v).tm=match gt t (dstW d v)with|some v=>some v|none=>gt t (afterS s2 ks q BS).tm:=by
   cases d with
   |none=>rfl
   |some d=>
    simp only[St.put,dstW,gt,gt_ins]
    split<;>rfl
  rw[e]
  cases hw:gt t (dstW d v)with
  |some w=>rw[hw]at hu;exact hu
  |none=>
   rw[hw]at hu
   simp only at hu ⊢
   rw[etm,gt_mapv,hu,Option.map_some]
   have:=h1 t u hu
   rw[hw]at this
   simp only[Option.isSome_none,Bool.false_eq_true,false_or]at this
   rw[killsV_id _ _ this]
 ·simp only[applyE,gt_insL]at hB
  rw[ehp,gt_insL]
  cases hw:gt j (backFrom (backK ks q) (backF ks q BS.length) 0 BS)with
  |some w=>rw[hw]at hB;exact hB
  |none=>
   rw[hw]at hB
   simp only at hB ⊢
   have hj:j∉ks:=by
    intro hm
    obtain⟨i,hi,he⟩:=List.getElem_of_mem hm
    refine gt_backFrom_none hw i (Nat.zero_le _) (by omega) ?_
    simp only[backK,List.getElem?_eq_getElem hi,he]
   rw[gt_mapv,gt_delL]
   simp only[hj,if_false,hB,Option.map_some]
   have:=h2 j B hB
   rw[hw]at this
   simp only[Option.isSome_none,Bool.false_eq_true,false_or]at this
   rw[killsB_id _ _ this]
theorem argA_vV{P:Program}{s s2:St}{ks V:List Nat}{t:TypeId}{v:AV}(h: ∀κ∈V,gt κ s2.hp=gt κ s.hp):argA P s2 ks V t v=argA P s ks V t v:=by
 cases v with
 |own κ=>
  simp only[argA]
  split
  ·rename_i hc
   rw[h κ (by simpa using hc)]
  ·rfl
 |d x=>
  by_cases hx:x= .v (.slice none 0 0)
  ·subst hx;simp only[argA]
  ·have e: ∀s':St,argA P s' ks V t (.d x)= .d (uncap x):=fun s'=>by
    unfold argA
    split
    ·rename_i h;cases h
    ·rename_i h;cases h;exact absurd rfl hx
    ·rename_i h;cases h;rfl
    ·rename_i h1 h2 h3;exact absurd rfl (h3 x)
   rw[e,e]
 |_=>simp[argA]
theorem argsA_vV{P:Program}{s s2:St}{ks V:List Nat}(h: ∀κ∈V,gt κ s2.hp=gt κ s.hp): ∀ {ts:List TypeId} {vs:List AV},argsA P s2 ks V ts vs=argsA P s ks V ts vs
 | [],vs=>by simp only[argsA]
 |t::ts,[]=>by simp only[argsA]
 |t::ts,v::vs=>by simp only[argsA];rw[argA_vV h,argsA_vV h]
theorem lop_handV{P:Program}{ops:Array Oper}{s:St}{o:Oper}{c:Call}{f:FuncId}{fn:Func}{vs:List AV}{ks V:List Nat}{q:Nat}{v:AV}{bs BS:List Blk}
  (hg:o.guard=none)(ho:o.op= .call c)(hf:IsFn P f fn)(hgo:goC P s c=some (f,vs))(hdst:s.okDst o.dst=true)(hq:16≤q)
  (hn:ks.Nodup)(hk16:ks.length≤16)(hkq: ∀κ∈ks,κ<q)(hb:pickB (posOf · ks) s.hp ks=some bs)(hlen:bs.length≤BS.length)
  (hV: ∀κ,κ∈V→κ∈keysVs vs∧κ∉ks∧(gt κ s.hp).isSome=true)(hfl:V= []∨(flatV v=true∧ ∀B,B∈BS→flatB B=true))
  (hcall:ACall P f (argsA P s ks V fn.params.toList vs) bs fun r hs'=>r=v∧hs'=BS):
  LOp P ops s ⟨o,⟨dstW o.dst (renV (backF ks q BS.length) v),backFrom (backK ks q) (backF ks q BS.length) 0 BS⟩,o.looksAt ops,opsK s o.op.operands.toList++ks,rowKeys s.hp ks++newKeys ks q BS.length⟩:=by
 intro s2 hn' hr hk hn1 hn2
 have hev: ∀x∈o.op.operands,s2.ev x=s.ev x:=fun x hx=>ev_congr fun t ht=>hr t (mem_looks (by subst ht;exact hx))
 have hok2:s2.okDst o.dst=true:=by rw[←hdst];cases hd:o.dst<;>simp[St.okDst,hn']
 have hgo2:goC P s2 c=some (f,vs):=by rw[←hgo];exact goC_congr fun x hx=>hev x (by rw[ho];exact hx)
 have hks: ∀κ∈ks,gt κ s2.hp=gt κ s.hp:=fun κ hκ=>hk κ (List.mem_append_right _ hκ)
 have hVs: ∀κ∈V,gt κ s2.hp=gt κ s.hp:=fun κ hκ=>hk κ (List.mem_append_left _ (by rw[ho];exact goC_keys hgo (hV κ hκ).1))
 refine awpl_callG hg hf (goC_sound ho hf hgo2) hok2 ks V q (bs:=bs) (Post:=fun r hs'=>r=v∧hs'=BS) (by rw[argsA_vV hVs];exact hcall) hn (by rw[pickB_same hks];exact hb) hk16 hq (fun κ hκ=>⟨(hV κ hκ).2.1,by rw[hVs κ hκ];exact(hV κ hκ).2.2⟩) ?_
 rintro r hs' ⟨rfl,rfl⟩ _
 exact⟨fun κ hκ=> .inl (hkq κ hκ),hfl,awpl_nil (after_hand (by rw[rowKeys_same hks]) (by rw[←(pickB_get hb).1];exact hlen) hn1 hn2)⟩
def namesH(s:St)(κ:Nat):List (Nat×Blk):=(s.hp.map (·.1)).filterMap fun j=>if j=κ then none else match gt j s.hp with
 |some C=>if nmB [κ] C then some (j,killB κ C)else none
 |none=>none
def blkLocH(ops:Array Oper)(s:St)(o:Oper)(r:Bool×Nat×Blk×AV):Loc:=
 ⟨o,⟨dstW o.dst r.2.2.2++(if r.1 then namesW s r.2.1 else []),(r.2.1,r.2.2.1)::(if r.1 then namesH s r.2.1 else [])⟩,o.looksAt ops,opsK s o.op.operands.toList++(if r.1 then(namesH s r.2.1).map (·.1)else []),if r.1 then [r.2.1]else []⟩
theorem gt_namesH{s:St}{κ j:Nat}{X:Blk}(h:gt j (namesH s κ)=some X): ∃C,gt j s.hp=some C∧X=killB κ C∧j≠κ∧j∈(namesH s κ).map (·.1):=by
 have hm:=gt_memL h
 obtain⟨i,_,hi⟩:=List.mem_filterMap.1 hm
 split at hi
 ·cases hi
 ·rename_i hne
  split at hi
  ·rename_i C hC
   split at hi
   ·cases hi
    exact⟨C,hC,rfl,hne,List.mem_map.2 ⟨_,hm,rfl⟩⟩
   ·cases hi
  ·cases hi
theorem lop_blkH0{P:Program}{ops:Array Oper}{s:St}{o:Oper}{k:Bool}{κ:Nat}{B0:Blk}{v:AV}(hg:o.guard=none)(h:blkE P s o=some (k,κ,B0,v))(hok:s.okDst o.dst=true):LOp P ops s (blkLocH ops s o (k,κ,B0,v)):=by
 intro s2 hn hr hk hn1 hn2
 have hev: ∀x∈o.op.operands,s2.ev x=s.ev x:=fun x hx=>ev_congr fun t ht=>hr t (mem_looks (by subst ht;exact hx))
 have hok2:s2.okDst o.dst=true:=by rw[←hok];cases hd:o.dst<;>simp[St.okDst,hn]
 have h2:blkE P s2 o=some (k,κ,B0,v):=by rw[blkE_k hev (fun j hj=>hk j (List.mem_append_left _ hj))];exact h
 obtain⟨s3,h3,h4⟩:=blkE_step h2 hok2
 show AWpL P ops [o] _ s2
 refine awpl_step (by unfold stepG;rw[hg];exact h3) (awpl_nil ?_)
 refine Sub.trans ?_ h4
 have hsub:Sub (applyE s2 (blkLocH ops s o (k,κ,B0,v)).e) ((s2.setB k κ B0).put o.dst v):=by
  simp only[blkLocH]at hn1 hn2 hk ⊢
  refine⟨by cases o.dst<;>cases k<;>rfl,fun t u hu=> ?_,fun j C0 hB=> ?_⟩
  ·simp only[applyE,gt_insL,gt_append]at hu
   by_cases ht:o.dst=some t
   ·rw[ht]at hu ⊢
    simp only[dstW,gt,if_true]at hu
    cases hu
    exact .inr (by simp[St.put,gt_ins_same])
   ·have e1:gt t (dstW o.dst v)=none:=by
     cases hd:o.dst with
     |none=>rfl
     |some d=>simp only[dstW,gt];rw[if_neg (fun e=>ht (by rw[hd,e]))]
    have e2:gt t ((s2.setB k κ B0).put o.dst v).tm=gt t (s2.setB k κ B0).tm:=by
     cases hd:o.dst with
     |none=>rfl
     |some d=>simp only[St.put];exact gt_ins_ne _ (fun e=>ht (by rw[hd,e])) _
    rw[e1]at hu
    simp only at hu
    rw[e2]
    cases k with
    |false=>
     simp only[Bool.false_eq_true,if_false,gt]at hu
     exact .inr hu
    |true=>
     simp only[if_true]at hu hn1
     cases hg:gt t (namesW s κ)with
     |some w=>
      rw[hg]at hu
      simp only[Option.some.injEq]at hu
      subst hu
      exact .inl (gt_namesW hg)
     |none=>
      rw[hg]at hu
      have:=hn1 t u hu
      rw[gt_append,e1]at this
      simp only[hg,Option.isSome_none,Bool.false_eq_true,false_or]at this
      refine .inr ?_
      simp only[St.setB,if_true,gt_mapv]
      have hu':gt t s2.tm=some u:=hu
      rw[hu',Option.map_some,killV_id κ u (nm_one this)]
  ·simp only[applyE,gt_insL,gt]at hB
   have e2:((s2.setB k κ B0).put o.dst v).hp=(s2.setB k κ B0).hp:=by cases o.dst<;>rfl
   rw[e2]
   by_cases e:j=κ
   ·subst e
    simp only[if_true]at hB
    cases hB
    cases k<;>simp[St.setB,gt_ins_same]
   ·rw[if_neg e]at hB
    cases k with
    |false=>
     simp only[Bool.false_eq_true,if_false,gt]at hB
     simp only[St.setB,Bool.false_eq_true,if_false,gt_ins_ne _ e];exact hB
    |true=>
     simp only[if_true]at hB hn2 hk
     rw[gt_setB,if_neg e]
     cases hH:gt j (namesH s κ)with
     |some X=>
      rw[hH]at hB
      simp only[Option.some.injEq]at hB
      subst hB
      obtain⟨C,hC,rfl,_,hmem⟩:=gt_namesH hH
      rw[hk j (List.mem_append_right _ hmem),hC,Option.map_some]
     |none=>
      rw[hH]at hB
      simp only at hB
      rw[hB,Option.map_some]
      have:=hn2 j C0 hB
      simp only[gt,if_neg e,hH,Option.isSome_none,Bool.false_eq_true,false_or]at this
      rw[killB_id κ C0 (nmB_one this)]
 exact hsub
def handKA(s:St)(vs:List AV):List Nat:=reachK s.hp 64 (keysVs (vs.filter notOwn)) []
noncomputable def handX (P:Program) (run:RunF) (ops:Array Oper) (s:St) (o:Oper):Option Loc:=
 match o.op with
 | .call c=>match goC P s c with
  |some (f,vs)=>match P.funcs[f]? with
   |some fn=>if fnOk fn&&s.okDst o.dst then
     match pickB (posOf · (handKA s vs)) s.hp (handKA s vs)with
     |some bs=>if nodupB (handKA s vs)&&(decide ((handKA s vs).length≤16)&&(handKA s vs).all (fun κ=>decide (κ<maxK s.hp (16+s.n))))then
       match run f (argsA P s (handKA s vs) [] fn.params.toList vs) bs with
       |some (v,BS)=>some ⟨o,⟨dstW o.dst (renV (backF (handKA s vs) (maxK s.hp (16+s.n)) BS.length) v),backFrom (backK (handKA s vs) (maxK s.hp (16+s.n))) (backF (handKA s vs) (maxK s.hp (16+s.n)) BS.length) 0 BS⟩,o.looksAt ops,opsK s o.op.operands.toList++handKA s vs,rowKeys s.hp (handKA s vs)++newKeys (handKA s vs) (maxK s.hp (16+s.n)) BS.length⟩
       |none=>none
      else none
     |none=>none
    else none
   |none=>none
  |none=>none
 |_=>none
theorem lop_guard{P:Program}{ops:Array Oper}{s:St}{q:Loc}{o:Oper}{j:Nat}{b:Bool}(hg:o.guard=some (j,b))(hq:q.o= {o with guard:=none})(hrd:q.reads=({o with guard:=none}:Oper).looksAt ops)(hb:gtO (obind ops[j]? Oper.dst) s.tm=some (.d (.v (.bool b))))(h:LOp P ops s q):
  LOp P ops s ⟨o,q.e,o.looksAt ops,q.keys,q.kill⟩:=by
 obtain⟨t,ht,hb'⟩:=gtO_some hb
 intro s2 hn hr hk hn1 hn2
 have htl:t∈o.looksAt ops:=List.mem_append_right _ (by have hd':(ops[j]?).bind (·.dst)=some t:=ht
                                                       simp[hg,hd'])
 have:=h s2 hn (fun t' ht'=>hr t' (by
  rw[hrd]at ht'
  simp only[Oper.looksAt,List.mem_append]at ht' ⊢
  rcases ht' with h|h
  ·exact .inl h
  ·simp at h)) hk hn1 hn2
 rw[hq]at this
 exact awpl_guard hg (Option.bind_eq_some_iff.2 ⟨t,ht,by rw[hr t htl];exact hb'⟩) this
noncomputable def locX (P:Program) (run:RunF) (ops:Array Oper) (s:St) (o:Oper):Option Loc:=
 match valK P run ops s o with
 |some v=>some ⟨o,⟨dstW o.dst v,[]⟩,o.looksAt ops,opsK s o.op.operands.toList,[]⟩
 |none=>if s.okDst o.dst=true then match o.guard with
   |none=>match blkE P s o with
    |some r=>some (blkLocH ops s o r)
    |none=>handX P run ops s o
   |some (j,want)=>match gtO (obind ops[j]? Oper.dst) s.tm with
    |some (.d (.v (.bool b)))=>if b=want then omap (blkE P s {o with guard:=none}) fun r=>
      ⟨o,(blkLoc ops s {o with guard:=none} r).e,o.looksAt ops,(blkLoc ops s {o with guard:=none} r).keys,(blkLoc ops s {o with guard:=none} r).kill⟩else none
    |_=>none
  else none
noncomputable def locsX (P:Program) (run:RunF) (ops:Array Oper):Nat→List Oper→St→Option (List Loc×St)
 |0,_,s=>some ([],s)
 |_+1,[],_=>none
 |p+1,o::l,s=>match locX P run ops s o with
  |some q=>match locsX P run ops p l (applyE s q.e)with
   |some (L,s')=>some (q::L,s')
   |none=>none
  |none=>none
theorem maskE_shift{D:Nat→Bool}: ∀ {L:List Loc} {i:Nat} {s:St},maskE D (i+1) L s=maskE (fun k=>D (k+1)) i L s
 | [],_,_=>rfl
 |q::l,i,s=>by simp only[maskE];exact maskE_shift
theorem maskE_none{D:Nat→Bool}: ∀ {L:List Loc} {i:Nat} {s:St},(∀k,D k=false)→maskE D i L s=s
 | [],_,_,_=>rfl
 |q::l,i,s,h=>by simp only[maskE,h,Bool.false_eq_true,if_false];exact maskE_none h
noncomputable def drawX (P:Program) (run:RunF) (ops:Array Oper) (s:St):Option St:=
 match leastOk ops.toList (ops.size+1) 0 with
 |some p=>match locsX P run ops p ops.toList s with
  |some (L,s')=>if edgesBack 0 ops.toList&&(tailOk p ops.toList&&indepOk ops.toList s L)then opsX P run ops (ops.toList.drop p) s' else none
  |none=>none
 |none=>none
theorem awp_scope_fwd{P:Program}{c rest:Code}{s:St}{Q:Exit→St→Prop}(l:Nat)(hf:findLabel c l=some rest)(h:AWp P c (fun e s'=>match e with| .goto l'=>l'=l∧AWp P rest (Xscope Q) s'|e=>Q e s') s):AWp P (.scope c) Q s:=by
 intro cx m a w hr
 refine wp_scope_jumps l (fun a w=> ∃m' s',SRep cx m' s' a w∧AWp P rest (Xscope Q) s') (fun _ _=>0) hf (Code.wp_mono ?_ (h cx m a w hr)) ?_
 ·rintro e a' w' ⟨s',m',h1,h2⟩
  cases e with
  |goto l'=>exact⟨h1.1,m',s',h2,h1.2⟩
  |_=>exact⟨s',m',h1,h2⟩
 ·rintro a' w' ⟨m',s',h1,h2⟩
  refine Code.wp_mono ?_ (h2 cx m' a' w' h1)
  rintro e a' w' ⟨s',m',h1,h2⟩
  cases e with
  |goto l'=>exact h1.elim
  |_=>exact⟨s',m',h1,h2⟩
noncomputable def regD (P:Program) (run:RunF) (ops:Array Oper) (s:St):Option St:=
 match leastOk ops.toList (ops.size+1) 0 with
 |some p=>if drawOk ops.toList p then
   match valsX P run ops p ops.toList s with
   |some (l,s')=>opsX P run ops l s'
   |none=>drawX P run ops s
  else drawX P run ops s
 |none=>none
def namedK(s:St)(l:List Oper):List Nat:=(reachK s.hp 64 (l.flatMap fun o=>opsK s o.op.operands.toList) []).filter (isRowK s.hp)
noncomputable def regX (P:Program) (run:RunF) (ops:Array Oper) (draw:Bool) (s:St):Option St:=
 if draw then
  match regD P run ops (preFix s ops.toList)with
  |some s'=>some s'
  |none=>match freezeL (preFix s ops.toList) (namedK (preFix s ops.toList) ops.toList)with
   |some s1=>regD P run ops s1
   |none=>none
 else opsX P run ops ops.toList s
def doneX(s':St)(n:Nat)(r:AV):Option (AV×List Blk):=
 let ks:=List.range n++(reachK s'.hp 64 (List.range n++keysV r) []).filter fun κ=>decide (n≤κ)
 if nodupB ks then match pickB (posOf · ks) s'.hp ks with
  |some bs=>some (renV (posOf · ks) r,bs)
  |none=>none
 else none
mutual
noncomputable def codeX (P:Program) (ov:RunF):Nat→Code→St→Option (Exit×St)
 |0,_,_=>none
 |n+1,c,s=>match c with
  | .skip=>some (.normal,s)
  | .label _=>some (.normal,s)
  | .exit i=>some (.exit i,s)
  | .ret=>some (.ret,s)
  | .goto l=>some (.goto l,s)
  | .seq a b=>match codeX P ov n a s with
   |some (.normal,s')=>codeX P ov n b s'
   |r=>r
  | .cond c a b=>match s.ev c with
   |some (.d (.v (.bool true)))=>codeX P ov n a s
   |some (.d (.v (.bool false)))=>codeX P ov n b s
   |_=>none
  | .block i c=>match codeX P ov n c s with
   |some (.exit j,s')=>if j=i then some (.normal,s')else some (.exit j,s')
   |r=>r
  | .scope c=>match codeX P ov n c s with
   |some (.goto l,s')=>match findLabel c l with
    |some rest=>match codeX P ov n rest s' with
     |some (.goto _,_)=>none
     |r=>r
    |none=>none
   |r=>r
  | .loop c=>match codeX P ov n c s with
   |some (.normal,s')=>codeX P ov n (.loop c) s'
   |r=>r
  | .region _ ops draw=>match regX P (fun f vs hs=>funcX P ov n f vs hs) ops draw s with
   |some s'=>some (.normal,s')
   |none=>none
  |_=>none
termination_by structural n=>n
noncomputable def funcX (P:Program) (ov:RunF):Nat→FuncId→List AV→List Blk→Option (AV×List Blk)
 |0,_,_,_=>none
 |n+1,f,vs,hs=>match ov f vs hs with
  |some r=>some r
  |none=>match P.funcs[f]? with
  |some fn=>match fn.body with
   |some c=>if decide (vs.length≤fn.ntmps)then
     match codeX P ov n c ⟨fn.ntmps,tmFrom 0 vs,hpFrom 0 hs⟩with
     |some (e,s')=>match e,resA P s' fn.results.toList with
      | .ret,some r=>doneX s' hs.length r
      | .normal,some r=>doneX s' hs.length r
      |_,_=>none
     |none=>none
    else none
   |none=>none
  |none=>none
termination_by structural n=>n
end
def dlen:D→Option Nat
 | .ints _ xs _=>some xs.length
 | .sl _ xs _=>some xs.length
 |_=>none
def sliceT(P:Program)(t:TypeId):Bool:=match P.underlying t with|some (.slice _)=>true|_=>false
theorem repD_len{w:World}{F:Nat→Prop}{d:D}{u:Value}{n:Nat}(hn:dlen d=some n)(h:RepD w F d u): ∃a cap,u= .slice a n cap∧n≤cap∧(a=none→cap=0):=by
 cases d with
 |ints k xs c=>
  simp only[dlen,Option.some.injEq]at hn
  subst hn
  simp only[RepD]at h
  obtain⟨a,cap,h1,h2,_,h4,_⟩:=h
  exact⟨a,cap,h1,h2,h4⟩
 |sl m xs c=>
  simp only[dlen,Option.some.injEq]at hn
  subst hn
  simp only[RepD]at h
  obtain⟨a,cap,vals,h1,h2,_,h4,_⟩:=h
  exact⟨a,cap,h1,h2,h4⟩
 |_=>simp[dlen]at hn
theorem equalIn_nilS{P:Program}(w:World)(d:Nat)(t e:TypeId)(a:Option Addr)(l c:Nat)(h:P.underlying t=some (.slice e)):(Op.equalIn (d+1) t (.slice a l c) (.slice none 0 0)).run P w= .ok a.isNone w:=by
 cases a<;>simp[Op.equalIn,run_underlying h]
theorem run_eql_nilS{P:Program}(w:World)(t:TypeId)(a:Option Addr)(l c:Nat)(h:sliceT P t=true):(binOp .eql t (.slice a l c) (.slice none 0 0)).run P w= .ok (.bool a.isNone) w:=by
 unfold sliceT at h
 split at h
 ·rename_i e hu
  have:(Op.equal t (.slice a l c) (.slice none 0 0)).run P w= .ok a.isNone w:=equalIn_nilS w 9999 t e a l c hu
  simp[binOp,this]
 ·cases h
theorem eqGuard_slice{P:Program}{w:World}(t:TypeId)(x y:Operand)(p:Option Addr)(l c:Nat)(v:Value):(eqGuard .eql t x y (.slice p l c) v).run P w= .ok () w:=by
 unfold eqGuard
 split<;>simp_all
theorem awpl_nilq{P:Program}{ops:Array Oper}{o:Oper}{l:List Oper}{Q:St→Prop}{s:St}{t t':TypeId}{x:Operand}{d:D}{n:Nat}(hg:o.guard=none)(ho:o.op= .binOp .eql t x (.const (.slice none 0 0)) t')(hu:sliceT P t=true)
  (hx:s.ev x=some (.d d))(hn:dlen d=some n)(hok:s.okDst o.dst=true)(h: ∀b:Bool,(b=true→n=0)→AWpL P ops l Q (s.put o.dst (.d (.v (.bool b))))):AWpL P ops (o::l) Q s:=by
 intro cx m a w K hr hk
 have rx:=hr.ev hx
 simp only[RepV]at rx
 obtain⟨p,cap,h1,h2,h3⟩:=repD_len hn rx
 have hy:Yld P o a w (.bool p.isNone):=by
  have hyv:a.eval (.const (.slice none 0 0))= .slice none 0 0:=rfl
  unfold Yld
  simp only[execOp,ho,h1,hyv,Sem.run_bind,eqGuard_slice,Result.andThen_ok,run_eql_nilS _ t _ _ _ hu];rfl
 unfold wpList
 rw[if_pos (wanted_none hg _)]
 refine .inl ?_
 unfold Yld at hy
 unfold Oper.wp
 rw[hy]
 exact h p.isNone (fun hb=>by
  cases p with
  |none=>have:=h3 rfl;omega
  |some p=>cases hb) cx m _ _ K (hr.put hok (repV_v.2 ⟨rfl,rfl⟩)) hk
abbrev TellF:=List AV→Option (AV×List Blk)
def tabRun:List (FuncId×TellF)→RunF
 | [],_,_,_=>none
 |(f,F)::l,g,us,bs=>if g=f then(if bs.isEmpty then F us else none)else tabRun l g us bs
theorem tabRun_nil{g:FuncId}{us:List AV}{bs:List Blk}:tabRun [] g us bs=none:=rfl
theorem tabRun_cons{f:FuncId}{F:TellF}{l:List (FuncId×TellF)}{g:FuncId}{us:List AV}{bs:List Blk}:tabRun ((f,F)::l) g us bs=if g=f then(if bs.isEmpty then F us else none)else tabRun l g us bs:=rfl
theorem tab_nil{P:Program}:RunOk P (tabRun []):=fun f vs hs R BS h=>by simp[tabRun]at h
theorem rangeN4:List.range 4= [0,1,2,3]:=rfl
theorem rangeN5:List.range 5= [0,1,2,3,4]:=rfl
theorem rangeN6:List.range 6= [0,1,2,3,4,5]:=rfl
theorem rangeN7:List.range 7= [0,1,2,3,4,5,6]:=rfl
theorem rangeN8:List.range 8= [0,1,2,3,4,5,6,7]:=rfl
theorem rangeN9:List.range 9= [0,1,2,3,4,5,6,7,8]:=rfl
theorem rangeN10:List.range 10= [0,1,2,3,4,5,6,7,8,9]:=rfl
theorem rangeN11:List.range 11= [0,1,2,3,4,5,6,7,8,9,10]:=rfl
theorem rangeN12:List.range 12= [0,1,2,3,4,5,6,7,8,9,10,11]:=rfl
theorem rangeN13:List.range 13= [0,1,2,3,4,5,6,7,8,9,10,11,12]:=rfl
theorem rangeN14:List.range 14= [0,1,2,3,4,5,6,7,8,9,10,11,12,13]:=rfl
theorem rangeN15:List.range 15= [0,1,2,3,4,5,6,7,8,9,10,11,12,13,14]:=rfl
theorem rangeN16:List.range 16= [0,1,2,3,4,5,6,7,8,9,10,11,12,13,14,15]:=rfl
theorem x_regX{P:Program}{ov:RunF}(hov:RunOk P ov){Q:Exit→St→Prop}{s:St}{id:Nat}{l:List Oper}(h: ∀r,opsX P ov l.toArray l s=r→ ∃s',r=some s'∧Q .normal s'):AWp P (.region id l.toArray false) Q s:=by
 obtain⟨s',h1,h2⟩:=h _ rfl
 exact awp_region_lit (opsX_sound hov h1 h2)
theorem x_seqX{P:Program}{ov:RunF}(hov:RunOk P ov){Q:Exit→St→Prop}{s:St}{id:Nat}{l:List Oper}{y:Code}(h: ∀r,opsX P ov l.toArray l s=r→ ∃s',r=some s'∧AWp P y Q s'):AWp P (.seq (.region id l.toArray false) y) Q s:=
 awp_seq (x_regX hov h)
theorem x_condB{P:Program}{Q:Exit→St→Prop}{s:St}{c:Operand}{x y:Code}(h: ∀r,s.ev c=r→(r=some (.d (.v (.bool true)))∧AWp P x Q s)∨(r=some (.d (.v (.bool false)))∧AWp P y Q s)):AWp P (.cond c x y) Q s:=by
 rcases h _ rfl with⟨h1,h2⟩|⟨h1,h2⟩
 ·exact awp_cond_true h1 h2
 ·exact awp_cond_false h1 h2
section
variable {P:Program} {ov run:RunF} {n:Nat} {s s':St}
def opsO(P:Program)(run:RunF)(ops:Array Oper)(l:List Oper):Option St→Option St
 |some s=>opsX P run ops l s
 |none=>none
theorem opsO_some{ops:Array Oper}{l:List Oper}:opsO P run ops l (some s)=opsX P run ops l s:=rfl
theorem opsX_nil{ops:Array Oper}:opsX P run ops [] s=some s:=rfl
theorem opsX_cons{ops:Array Oper}{o:Oper}{l:List Oper}:opsX P run ops (o::l) s=opsO P run ops l (opG P run ops s o):=by
 simp only[opsX];cases opG P run ops s o<;>rfl
def guardX(P:Program)(run:RunF)(s:St)(o:Oper)(want:Bool):Option AV→Option St
 |some (.d (.v (.bool b)))=>if b=want then opX P run s {o with guard:=none}else if s.okDst o.dst=true then some (s.put o.dst (.tup []))else none
 |some (.tup [])=>if s.okDst o.dst=true then some (s.put o.dst (.tup []))else none
 |_=>none
theorem opG_none{ops:Array Oper}{d:Option Nat}{op:Op}{t:TypeId}{p:String}{e:Array Edge}:opG P run ops s ⟨d,op,t,p,e,none⟩=opX P run s ⟨d,op,t,p,e,none⟩:=rfl
def dstAt:List Oper→Nat→Option Nat
 | [],_=>none
 |o::_,0=>o.dst
 |_::l,j+1=>dstAt l j
theorem dstAt_get: ∀(l:List Oper) (j:Nat),obind l.toArray[j]? Oper.dst=dstAt l j
 | [],j=>by simp[dstAt,obind]
 |o::l,0=>by simp[dstAt,obind]
 |o::l,j+1=>by
  have:=dstAt_get l j
  simp only[dstAt]
  rw[←this]
  simp
theorem opG_some'{l:List Oper}{d:Option Nat}{op:Op}{t:TypeId}{p:String}{e:Array Edge}{j:Nat}{w:Bool}:opG P run l.toArray s ⟨d,op,t,p,e,some (j,w)⟩=guardX P run s ⟨d,op,t,p,e,some (j,w)⟩ w (gtO (dstAt l j) s.tm):=by
 rw[←dstAt_get]
 simp only[opG];unfold guardX
 split<;>first|rfl|(split<;>first|rfl|simp_all)
theorem guardX_b{o:Oper}{w b:Bool}:guardX P run s o w (some (.d (.v (.bool b))))=if b=w then opX P run s {o with guard:=none}else if s.okDst o.dst=true then some (s.put o.dst (.tup []))else none:=rfl
theorem guardX_n{o:Oper}{w:Bool}:guardX P run s o w (some (.tup []))=if s.okDst o.dst=true then some (s.put o.dst (.tup []))else none:=rfl
def stepR(P:Program)(s:St)(o:Oper):Option St→Option St
 |some s'=>some s'
 |none=>match freezeL s (takenK s o)with
  |some s1=>stepF P s1 o
  |none=>none
theorem stepR_some{o:Oper}:stepR P s o (some s')=some s':=rfl
def freezeR(P:Program)(o:Oper):Option St→Option St
 |some s1=>stepF P s1 o
 |none=>none
theorem stepR_none{o:Oper}:stepR P s o none=freezeR P o (freezeL s (takenK s o)):=by
 simp only[stepR];unfold freezeR;split<;>simp_all
theorem freezeR_some{o:Oper}:freezeR P o (some s)=stepF P s o:=rfl
theorem stepX_eq{o:Oper}:stepX P s o=stepR P (preFix s [o]) o (stepF P (preFix s [o]) o):=rfl
def callR(s:St)(ks V:List Nat)(q:Nat)(dst:Option Nat):Option (AV×List Blk)→Option St
 |some (R,BS)=>if V.isEmpty||(flatV R&&BS.all flatB)then some ((afterS s ks q BS).put dst (renV (backF ks q BS.length) R))else none
 |none=>none
def callP(P:Program)(run:RunF)(s:St)(ks V:List Nat)(q:Nat)(f:FuncId)(fn:Func)(dst:Option Nat)(vs:List AV):Option (List Blk)→Option St
 |some bs=>if nodupB ks&&(decide (ks.length≤16)&&(V.all (fun κ=>(gt κ s.hp).isSome)&&ks.all (fun κ=>decide (κ<q))))then
   callR s ks V q dst (run f (argsA P s ks V fn.params.toList vs) bs)
  else none
 |none=>none
def callK(P:Program)(run:RunF)(s:St)(ks V:List Nat)(q:Nat)(f:FuncId)(fn:Func)(dst:Option Nat)(vs:List AV):Option St:=callP P run s ks V q f fn dst vs (pickB (posOf · ks) s.hp ks)
def callK'(P:Program)(run:RunF)(s:St)(ks V:List Nat)(q:Nat)(f:FuncId)(fn:Func)(dst:Option Nat)(vs:List AV):Option St:=callK P run s ks (rmK ks V) q f fn dst vs
theorem callK'_eq{ks V:List Nat}{q:Nat}{f:FuncId}{fn:Func}{dst:Option Nat}{vs:List AV}:callK' P run s ks V q f fn dst vs=callK P run s ks (rmK ks V) q f fn dst vs:=rfl
theorem callK_eq{ks V:List Nat}{q:Nat}{f:FuncId}{fn:Func}{dst:Option Nat}{vs:List AV}:callK P run s ks V q f fn dst vs=callP P run s ks V q f fn dst vs (pickB (posOf · ks) s.hp ks):=rfl
theorem callS_eq{V:List Nat}{f:FuncId}{fn:Func}{dst:Option Nat}{vs:List AV}:callS P run s V f fn dst vs=callK' P run s (reachK s.hp 64 (keysVs (vs.filter notOwn)) []) V (maxK s.hp (16+s.n)) f fn dst vs:=by
 rfl
theorem callP_some{ks V:List Nat}{q:Nat}{f:FuncId}{fn:Func}{dst:Option Nat}{vs:List AV}{bs:List Blk}:callP P run s ks V q f fn dst vs (some bs)=if nodupB ks&&(decide (ks.length≤16)&&(V.all (fun κ=>(gt κ s.hp).isSome)&&ks.all (fun κ=>decide (κ<q))))then
   callR s ks V q dst (run f (argsA P s ks V fn.params.toList vs) bs)else none:=rfl
theorem callR_some{ks V:List Nat}{q:Nat}{dst:Option Nat}{R:AV}{BS:List Blk}:callR s ks V q dst (some (R,BS))=if V.isEmpty||(flatV R&&BS.all flatB)then some ((afterS s ks q BS).put dst (renV (backF ks q BS.length) R))else none:=rfl
theorem call2_some{f f':FuncId}{fn:Func}{dst:Option Nat}{vs:List AV}:call2 P run s f fn dst (some (f',vs))=if f'=f∧s.okDst dst=true then callS P run s [] f fn dst vs else none:=rfl
theorem call1_some{f:FuncId}{fn:Func}{dst:Option Nat}{c:Call}:call1 P run f fn dst c (some s)=call2 P run s f fn dst (goC P s c):=rfl
theorem call0_some{f:FuncId}{fn:Func}{dst:Option Nat}{c:Call}{vs:List AV}{V:List Nat}:call0 P run s f fn dst c vs V (some s')=some s':=rfl
theorem call0_none{f:FuncId}{fn:Func}{dst:Option Nat}{c:Call}{vs:List AV}{V:List Nat}:call0 P run s f fn dst c vs V none=callB P run s f fn dst c vs (call1 P run f fn dst c (freezeL s (V.filter (isRowK s.hp)))):=rfl
theorem callB_some{f:FuncId}{fn:Func}{dst:Option Nat}{c:Call}{vs:List AV}:callB P run s f fn dst c vs (some s')=some s':=rfl
theorem callB_none{f:FuncId}{fn:Func}{dst:Option Nat}{c:Call}{vs:List AV}:callB P run s f fn dst c vs none=call1 P run f fn dst c (freezeL s ((reachK s.hp 64 (keysVs vs) []).filter (isRowK s.hp))):=rfl
theorem callF_some{f:FuncId}{fn:Func}{dst:Option Nat}{c:Call}{vs:List AV}:callF P run s f dst c vs (some fn)=if fnOk fn&&s.okDst dst then call0 P run s f fn dst c vs (keysVs (vs.filter isOwn)) (callS P run s (keysVs (vs.filter isOwn)) f fn dst vs)else none:=rfl
theorem callE_some{f:FuncId}{dst:Option Nat}{c:Call}{vs:List AV}:callE P run s dst c (some (f,vs))=callF P run s f dst c vs P.funcs[f]? :=rfl
theorem callX_eq{dst:Option Nat}{c:Call}:callX P run s dst c=callE P run s dst c (goC P s c):=rfl
theorem goC_value{g:Operand}{args:Array Operand}{tys:Array TypeId}:goC P s {callee:= .value g,args:=args,argTypes:=tys}=goV (s.ev g) (s.evL args.toList):=rfl
theorem goC_invoke{r:Operand}{n:String}{args:Array Operand}{tys:Array TypeId}:goC P s {callee:= .invoke r n,args:=args,argTypes:=tys}=goI P n (s.ev r) (s.evL args.toList):=rfl
theorem goV_clos{f:FuncId}{caps vs:List AV}:goV (some (.clos f caps)) (some vs)=some (f,vs++caps):=rfl
theorem goV_func{u:Value}{vs:List AV}:goV (some (.d (.v u))) (some vs)=omap (funOf u) fun f=>(f,vs):=rfl
theorem goI_some{n:String}{t:TypeId}{v:AV}{vs:List AV}:goI P n (some (.wrap (.ifc t) v)) (some vs)=omap (methA P t n) fun f=>(f,v::vs):=rfl
theorem kindX_f{o:Oper}:kindX P run s o false=stepX P s o:=rfl
theorem kindX_t{d:Option Nat}{c:Call}{t:TypeId}{p:String}{e:Array Edge}{gd:Option (Nat×Bool)}:kindX P run s ⟨d,.call c,t,p,e,gd⟩ true=callX P run s d c:=rfl
theorem opX_any{d:Option Nat}{op:Op}{t:TypeId}{p:String}{e:Array Edge}{gd:Option (Nat×Bool)}:opX P run s ⟨d,op,t,p,e,gd⟩=kindX P run s ⟨d,op,t,p,e,gd⟩ (isCallO op):=rfl
noncomputable def seqX (P:Program) (ov:RunF) (n:Nat) (b:Code):Option (Exit×St)→Option (Exit×St)
 |some (.normal,s)=>codeX P ov n b s
 |r=>r
theorem seqX_n{b:Code}:seqX P ov n b (some (.normal,s))=codeX P ov n b s:=rfl
theorem seqX_r{b:Code}:seqX P ov n b (some (.ret,s))=some (.ret,s):=rfl
theorem seqX_x{b:Code}{i:Nat}:seqX P ov n b (some (.exit i,s))=some (.exit i,s):=rfl
theorem seqX_g{b:Code}{i:Nat}:seqX P ov n b (some (.goto i,s))=some (.goto i,s):=rfl
theorem codeX_seq{a b:Code}:codeX P ov (n+1) (.seq a b) s=seqX P ov n b (codeX P ov n a s):=by
 simp only[codeX];unfold seqX;split<;>simp_all
noncomputable def condX (P:Program) (ov:RunF) (n:Nat) (a b:Code) (s:St):Option AV→Option (Exit×St)
 |some (.d (.v (.bool true)))=>codeX P ov n a s
 |some (.d (.v (.bool false)))=>codeX P ov n b s
 |_=>none
theorem condX_t{a b:Code}:condX P ov n a b s (some (.d (.v (.bool true))))=codeX P ov n a s:=rfl
theorem condX_f{a b:Code}:condX P ov n a b s (some (.d (.v (.bool false))))=codeX P ov n b s:=rfl
theorem codeX_cond{c:Operand}{a b:Code}:codeX P ov (n+1) (.cond c a b) s=condX P ov n a b s (s.ev c):=by
 simp only[codeX];unfold condX;split<;>simp_all
def blockX(i:Nat):Option (Exit×St)→Option (Exit×St)
 |some (.exit j,s)=>if j=i then some (.normal,s)else some (.exit j,s)
 |r=>r
theorem blockX_n{i:Nat}:blockX i (some (.normal,s))=some (.normal,s):=rfl
theorem blockX_r{i:Nat}:blockX i (some (.ret,s))=some (.ret,s):=rfl
theorem blockX_x{i j:Nat}:blockX i (some (.exit j,s))=if j=i then some (.normal,s)else some (.exit j,s):=rfl
theorem blockX_g{i j:Nat}:blockX i (some (.goto j,s))=some (.goto j,s):=rfl
theorem codeX_block{i:Nat}{c:Code}:codeX P ov (n+1) (.block i c) s=blockX i (codeX P ov n c s):=by
 simp only[codeX];unfold blockX;split<;>simp_all
def scopeN:Option (Exit×St)→Option (Exit×St)
 |some (.goto _,_)=>none
 |r=>r
theorem scopeN_n:scopeN (some (.normal,s))=some (.normal,s):=rfl
theorem scopeN_r:scopeN (some (.ret,s))=some (.ret,s):=rfl
theorem scopeN_x{j:Nat}:scopeN (some (.exit j,s))=some (.exit j,s):=rfl
noncomputable def scopeG (P:Program) (ov:RunF) (n:Nat) (s:St):Option Code→Option (Exit×St)
 |some rest=>scopeN (codeX P ov n rest s)
 |none=>none
theorem scopeG_s{c:Code}:scopeG P ov n s (some c)=scopeN (codeX P ov n c s):=rfl
noncomputable def scopeX (P:Program) (ov:RunF) (n:Nat) (c:Code):Option (Exit×St)→Option (Exit×St)
 |some (.goto l,s)=>scopeG P ov n s (findLabel c l)
 |r=>r
theorem scopeX_n{c:Code}:scopeX P ov n c (some (.normal,s))=some (.normal,s):=rfl
theorem scopeX_r{c:Code}:scopeX P ov n c (some (.ret,s))=some (.ret,s):=rfl
theorem scopeX_x{c:Code}{j:Nat}:scopeX P ov n c (some (.exit j,s))=some (.exit j,s):=rfl
theorem scopeX_g{c:Code}{j:Nat}:scopeX P ov n c (some (.goto j,s))=scopeG P ov n s (findLabel c j):=rfl
theorem codeX_scope{c:Code}:codeX P ov (n+1) (.scope c) s=scopeX P ov n c (codeX P ov n c s):=by
 simp only[codeX]
 generalize codeX P ov n c s=r
 match r with
 |some (.goto l,s')=>
  simp only[scopeX_g]
  generalize findLabel c l=fl
  match fl with
  |some rest=>
   simp only[scopeG_s]
   generalize codeX P ov n rest s'=r2
   match r2 with
   |some (.goto l,s')=>rfl
   |some (.normal,s')=>rfl
   |some (.ret,s')=>rfl
   |some (.exit _,s')=>rfl
   |some (.panic _,s')=>rfl
   |some (.outgrown,s')=>rfl
   |none=>rfl
  |none=>rfl
 |some (.normal,s')=>rfl
 |some (.ret,s')=>rfl
 |some (.exit _,s')=>rfl
 |some (.panic _,s')=>rfl
 |some (.outgrown,s')=>rfl
 |none=>rfl
noncomputable def loopX (P:Program) (ov:RunF) (n:Nat) (c:Code):Option (Exit×St)→Option (Exit×St)
 |some (.normal,s)=>codeX P ov n (.loop c) s
 |r=>r
theorem loopX_n{b:Code}:loopX P ov n b (some (.normal,s))=codeX P ov n (.loop b) s:=rfl
theorem loopX_r{b:Code}:loopX P ov n b (some (.ret,s))=some (.ret,s):=rfl
theorem loopX_x{b:Code}{i:Nat}:loopX P ov n b (some (.exit i,s))=some (.exit i,s):=rfl
theorem codeX_loop{c:Code}:codeX P ov (n+1) (.loop c) s=loopX P ov n c (codeX P ov n c s):=by
 simp only[codeX];unfold loopX;split<;>simp_all
def doneR:Option St→Option (Exit×St)
 |some s=>some (.normal,s)
 |none=>none
theorem doneR_some:doneR (some s)=some (.normal,s):=rfl
noncomputable def runX (P:Program) (ov:RunF) (n:Nat):RunF:=fun f vs hs=>funcX P ov n f vs hs
theorem runX_eq{f:FuncId}{vs:List AV}{hs:List Blk}:runX P ov n f vs hs=funcX P ov n f vs hs:=rfl
theorem codeX_region{i:Nat}{l:List Oper}:codeX P ov (n+1) (.region i l.toArray false) s=doneR (opsX P (runX P ov n) l.toArray l s):=by
 show(match regX P (runX P ov n) l.toArray false s with|some s'=>some (Exit.normal,s')|none=>none)=_
 simp only[regX];unfold doneR;split<;>simp_all
theorem codeX_skip:codeX P ov (n+1) .skip s=some (.normal,s):=rfl
theorem codeX_label{i:Nat}:codeX P ov (n+1) (.label i) s=some (.normal,s):=rfl
theorem codeX_exit{i:Nat}:codeX P ov (n+1) (.exit i) s=some (.exit i,s):=rfl
theorem codeX_ret:codeX P ov (n+1) .ret s=some (.ret,s):=rfl
theorem codeX_goto{i:Nat}:codeX P ov (n+1) (.goto i) s=some (.goto i,s):=rfl
def backX(s':St)(n:Nat):Option AV→Option (AV×List Blk)
 |some r=>doneX s' n r
 |none=>none
theorem backX_some{r:AV}{m:Nat}:backX s m (some r)=doneX s m r:=rfl
def bodyX(P:Program)(m:Nat)(res:List ResultVar):Option (Exit×St)→Option (AV×List Blk)
 |some (.ret,s)=>backX s m (resA P s res)
 |some (.normal,s)=>backX s m (resA P s res)
 |_=>none
theorem bodyX_r{m:Nat}{res:List ResultVar}:bodyX P m res (some (.ret,s))=backX s m (resA P s res):=rfl
theorem bodyX_n{m:Nat}{res:List ResultVar}:bodyX P m res (some (.normal,s))=backX s m (resA P s res):=rfl
noncomputable def funB (P:Program) (ov:RunF) (n:Nat) (vs:List AV) (hs:List Blk) (t:Nat) (res:List ResultVar):Option Code→Option (AV×List Blk)
 |some c=>if decide (vs.length≤t)then bodyX P hs.length res (codeX P ov n c ⟨t,tmFrom 0 vs,hpFrom 0 hs⟩)else none
 |none=>none
theorem funB_some{vs:List AV}{hs:List Blk}{t:Nat}{res:List ResultVar}{c:Code}:funB P ov n vs hs t res (some c)=if decide (vs.length≤t)then bodyX P hs.length res (codeX P ov n c ⟨t,tmFrom 0 vs,hpFrom 0 hs⟩)else none:=rfl
noncomputable def funF (P:Program) (ov:RunF) (n:Nat) (vs:List AV) (hs:List Blk):Option Func→Option (AV×List Blk)
 |some fn=>funB P ov n vs hs fn.ntmps fn.results.toList fn.body
 |none=>none
theorem funF_some{vs:List AV}{hs:List Blk}{fn:Func}:funF P ov n vs hs (some fn)=funB P ov n vs hs fn.ntmps fn.results.toList fn.body:=rfl
noncomputable def funO (P:Program) (ov:RunF) (n:Nat) (f:FuncId) (vs:List AV) (hs:List Blk):Option (AV×List Blk)→Option (AV×List Blk)
 |some r=>some r
 |none=>funF P ov n vs hs P.funcs[f]?
theorem funO_some{f:FuncId}{vs:List AV}{hs:List Blk}{r:AV×List Blk}:funO P ov n f vs hs (some r)=some r:=rfl
theorem funO_none{f:FuncId}{vs:List AV}{hs:List Blk}:funO P ov n f vs hs none=funF P ov n vs hs P.funcs[f]? :=rfl
theorem funcX_eq{f:FuncId}{vs:List AV}{hs:List Blk}:funcX P ov (n+1) f vs hs=funO P ov n f vs hs (ov f vs hs):=by
 simp only[funcX]
 cases h:ov f vs hs with
 |some r=>rfl
 |none=>
  simp only[funO]
  cases h2:P.funcs[f]? with
  |none=>rfl
  |some fn=>
   simp only[funF]
   cases h3:fn.body with
   |none=>rfl
   |some c=>
    simp only[funB]
    split
    ·cases h4:codeX P ov n c ⟨fn.ntmps,tmFrom 0 vs,hpFrom 0 hs⟩with
     |none=>rfl
     |some q=>
      obtain⟨e,s'⟩:=q
      cases h5:resA P s' fn.results.toList with
      |none=>cases e<;>simp only[bodyX,backX,h5]
      |some r=>cases e<;>simp only[bodyX,backX,h5]
    ·rfl
def doneK(s':St)(r:AV)(ks:List Nat):Option (AV×List Blk):=if nodupB ks then doneB r ks (pickB (posOf · ks) s'.hp ks)else none
 where doneB (r:AV) (ks:List Nat):Option (List Blk)→Option (AV×List Blk)
  |some bs=>some (renV (posOf · ks) r,bs)
  |none=>none
theorem doneX_eq{m:Nat}{r:AV}:doneX s m r=doneK s r (List.range m++(reachK s.hp 64 (List.range m++keysV r) []).filter fun κ=>decide (m≤κ)):=by
 rfl
theorem doneK_eq{r:AV}{ks:List Nat}:doneK s r ks=if nodupB ks then doneK.doneB r ks (pickB (posOf · ks) s.hp ks)else none:=rfl
theorem doneB_some{r:AV}{ks:List Nat}{bs:List Blk}:doneK.doneB r ks (some bs)=some (renV (posOf · ks) r,bs):=rfl
noncomputable def valsR (P:Program) (run:RunF) (ops:Array Oper) (p:Nat) (l:List Oper) (s:St) (dst:Option Nat):Option AV→Option (List Oper×St)
 |some v=>valsX P run ops p l (s.put dst v)
 |none=>none
theorem valsR_some{ops:Array Oper}{p:Nat}{l:List Oper}{dst:Option Nat}{v:AV}:valsR P run ops p l s dst (some v)=valsX P run ops p l (s.put dst v):=rfl
theorem valsX_zero{ops:Array Oper}{l:List Oper}:valsX P run ops 0 l s=some (l,s):=by simp only[valsX]
theorem valsX_succ{ops:Array Oper}{p:Nat}{o:Oper}{l:List Oper}:valsX P run ops (p+1) (o::l) s=valsR P run ops p l s o.dst (valX P run ops s o):=by
 simp only[valsX];unfold valsR;split<;>simp_all
def stepVG(P:Program)(s:St)(op:Op)(w:Bool):Option AV→Option AV
 |some (.d (.v (.bool b)))=>if b=w then valOp P s op else some (.tup [])
 |some (.tup [])=>some (.tup [])
 |_=>none
theorem stepVG_b{op:Op}{w b:Bool}:stepVG P s op w (some (.d (.v (.bool b))))=if b=w then valOp P s op else some (.tup []):=rfl
theorem stepVG_n{op:Op}{w:Bool}:stepVG P s op w (some (.tup []))=some (.tup []):=rfl
theorem stepV_none{ops:Array Oper}{d:Option Nat}{op:Op}{t:TypeId}{p:String}{e:Array Edge}:stepV P ops s ⟨d,op,t,p,e,none⟩=if s.okDst d=false then none else valOp P s op:=rfl
theorem stepV_some{l:List Oper}{d:Option Nat}{op:Op}{t:TypeId}{p:String}{e:Array Edge}{j:Nat}{w:Bool}:stepV P l.toArray s ⟨d,op,t,p,e,some (j,w)⟩=if s.okDst d=false then none else stepVG P s op w (gtO (dstAt l j) s.tm):=by
 rw[←dstAt_get]
 simp only[stepV];unfold stepVG
 split
 ·rfl
 ·split<;>first|rfl|simp_all
theorem callD7_some{ks V:List Nat}{q:Nat}{R:AV}{BS:List Blk}:callD7 s ks V q (some (R,BS))=if sameK s ks (backF ks q BS.length) ks BS&&(V.isEmpty||(flatV R&&BS.all flatB))then some (renV (backF ks q BS.length) R)else none:=rfl
theorem callD6_some{ks V:List Nat}{q m:Nat}{R:AV}{BS:List Blk}:callD6 s ks V q m (some (R,BS))=callD7 s ks V q (datLast (BS.length - m) R BS):=rfl
theorem callD5_some{f:FuncId}{fn:Func}{vs:List AV}{ks V:List Nat}{q:Nat}{bs:List Blk}:callD5 P run s f fn vs ks V q (some bs)=if nodupB ks&&(decide (ks.length≤16)&&(V.all (fun κ=>(gt κ s.hp).isSome)&&ks.all (fun κ=>decide (κ<q))))then callD6 s ks V q bs.length (run f (argsA P s ks V fn.params.toList vs) bs)else none:=rfl
theorem callD4_eq{f:FuncId}{fn:Func}{vs:List AV}{ks V:List Nat}{q:Nat}:callD4 P run s f fn vs ks V q=callD5 P run s f fn vs ks V q (pickB (posOf · ks) s.hp ks):=rfl
theorem callD3_eq{f:FuncId}{fn:Func}{vs:List AV}{ks:List Nat}:callD3 P run s f fn vs ks=callD4 P run s f fn vs ks (rmK ks (keysVs (vs.filter isOwn))) (maxK s.hp 16):=rfl
theorem callD2_some{dst:Option Nat}{f:FuncId}{vs:List AV}{fn:Func}:callD2 P run s dst f vs (some fn)=if fnOk fn&&s.okDst dst then callD3 P run s f fn vs (reachK s.hp 64 (keysVs (vs.filter notOwn)) [])else none:=rfl
theorem callD1_some{dst:Option Nat}{f:FuncId}{vs:List AV}:callD1 P run s dst (some (f,vs))=callD2 P run s dst f vs P.funcs[f]? :=rfl
theorem callD_eq{d:Option Nat}{c:Call}{t:TypeId}{p:String}{e:Array Edge}{gd:Option (Nat×Bool)}:callD P run s ⟨d,.call c,t,p,e,gd⟩=if isCallO (.call c)then callD1 P run s d (goC P s c)else none:=rfl
theorem sameK_nil{ks:List Nat}{f:Nat→Option Nat}:sameK s ks f [] []=true:=rfl
theorem sameK_cons{ks:List Nat}{f:Nat→Option Nat}{k:Nat}{l:List Nat}{B:Blk}{bs:List Blk}:sameK s ks f (k::l) (B::bs)=(sameB (gt k s.hp) (renB f B)&&sameK s ks f l bs):=rfl
theorem sameB_some{B B0:Blk}:sameB (some B0) B=eqB B B0:=rfl
theorem eqDs_self: ∀l:List D,eqDs l l=true∧True:=by
 intro l
 refine⟨?_,trivial⟩
 have key: ∀d:D,eqD d d=true:=by
  intro d
  induction d using D.rec (motive_2:=fun l=>eqDs l l=true)with
  |v x=>simp only[eqD,eqVal_self]
  |ints k xs c=>simp[eqD]
  |sl n xs c ih=>simp[eqD,eqAny]
  |agg cs ih=>simpa only[eqD]using ih
  |nil=>rfl
  |cons d l ih1 ih2=>simp only[eqDs,ih1,ih2,Bool.and_self]
 induction l with
 |nil=>rfl
 |cons d l ih=>simp only[eqDs,key,ih,Bool.and_self]
theorem eqV_self(v:AV):eqV v v=true:=by
 have kd: ∀d:D,eqD d d=true:=fun d=>by have:=(eqDs_self [d]).1;simpa[eqDs]using this
 induction v using AV.rec (motive_2:=fun l=>eqVs l l=true)with
 |d x=>simp only[eqV,kd]
 |ptr κ o=>simp[eqV]
 |own κ=>simp[eqV]
 |pel κ o=>simp[eqV]
 |eaddr x=>simp only[eqV,kd]
 |agg cs ih=>simpa only[eqV]using ih
 |tup cs ih=>simpa only[eqV]using ih
 |clos f cs ih=>simp only[eqV,ih,decide_true,Bool.and_self]
 |wrap k v ih=>simp[eqV,ih,eqAny]
 |bot=>rfl
 |nil=>rfl
 |cons v l ih1 ih2=>simp only[eqVs,ih1,ih2,Bool.and_self]
theorem eqVs_nil:eqVs [] []=true:=rfl
theorem eqVs_cons{x y:AV}{xs ys:List AV}:eqVs (x::xs) (y::ys)=(eqV x y&&eqVs xs ys):=rfl
theorem eqB_box{e e':TypeId}{cs ds:List AV}:eqB (.box e cs) (.box e' ds)=(decide (e=e')&&eqVs cs ds):=rfl
noncomputable def valGd (P:Program) (run:RunF) (s:St) (o:Oper) (w:Bool):Option AV→Option AV
 |some (.d (.v (.bool b)))=>if b=w then callD P run s {o with guard:=none}else none
 |_=>none
theorem valGd_b{o:Oper}{w b:Bool}:valGd P run s o w (some (.d (.v (.bool b))))=if b=w then callD P run s {o with guard:=none}else none:=rfl
noncomputable def valN (P:Program) (run:RunF) (ops:Array Oper) (s:St) (o:Oper):Option (Nat×Bool)→Option AV
 |none=>callD P run s o
 |some (j,w)=>valGd P run s o w (gtO (obind ops[j]? Oper.dst) s.tm)
theorem valN_none{ops:Array Oper}{o:Oper}:valN P run ops s o none=callD P run s o:=rfl
theorem valN_some{l:List Oper}{o:Oper}{j:Nat}{w:Bool}:valN P run l.toArray s o (some (j,w))=valGd P run s o w (gtO (dstAt l j) s.tm):=by
 rw[←dstAt_get];rfl
noncomputable def valR1 (P:Program) (run:RunF) (ops:Array Oper) (s:St) (o:Oper):Option AV→Option AV
 |some v=>some v
 |none=>valN P run ops s o o.guard
theorem valR1_some{ops:Array Oper}{o:Oper}{v:AV}:valR1 P run ops s o (some v)=some v:=rfl
theorem valR1_none{ops:Array Oper}{o:Oper}:valR1 P run ops s o none=valN P run ops s o o.guard:=rfl
theorem valX_eq{ops:Array Oper}{o:Oper}:valX P run ops s o=valR1 P run ops s o (stepV P ops s o):=by
 unfold valX
 cases h1:stepV P ops s o with
 |some v=>rfl
 |none=>
  simp only[valR1]
  cases h2:o.guard with
  |none=>rfl
  |some q=>
   obtain⟨j,w⟩:=q
   simp only[valN]
   unfold valGd
   rfl
end
attribute [push_cast] appZ appZB growZ zeroI List.take_length rangeN4 rangeN5 rangeN6 rangeN7 rangeN8 rangeN9 rangeN10 rangeN11 rangeN12 rangeN13 rangeN14 rangeN15 rangeN16 tabRun_nil tabRun_cons keysV keysVs keysB reachK nodupB maxK notOwn isOwn isRowK freezeL preFix evK takenK List.filter_cons stepVG_b stepVG_n stepV_none stepV_some callD7_some callD6_some callD5_some callD4_eq callD3_eq callD2_some callD1_some callD_eq datLast List.getLast?_cons_cons List.getLast?_singleton List.dropLast_cons_cons List.dropLast_singleton sameK_nil sameK_cons sameB_some eqV_self eqVs_nil eqVs_cons eqB_box nilI cmpB structV eqFs funOf_mk goC_value goC_invoke goV_clos goV_func goI_some callX_eq List.append_nil valGd_b valN_none valN_some valR1_some valR1_none valX_eq List.filter_nil List.isEmpty_nil List.isEmpty_cons opsO_some opsX_nil opsX_cons opG_none opG_some' dstAt guardX_b guardX_n isCallO opX_any kindX_f kindX_t stepR_some stepR_none freezeR_some stepX_eq callK'_eq callK_eq rmK callS_eq callP_some callR_some call2_some call1_some call0_some call0_none callB_some callB_none callF_some callE_some seqX_n seqX_r seqX_x seqX_g codeX_seq condX_t condX_f codeX_cond blockX_n blockX_r blockX_x blockX_g codeX_block scopeN_n scopeN_r scopeN_x scopeG_s findLabel scopeX_g scopeX_n scopeX_r scopeX_x codeX_scope loopX_n loopX_r loopX_x codeX_loop doneR_some runX_eq codeX_region codeX_skip codeX_label codeX_exit codeX_ret codeX_goto backX_some bodyX_r bodyX_n funB_some funF_some funO_some funO_none funcX_eq doneX_eq doneK_eq doneB_some valsR_some valsX_zero valsX_succ
def sqV:Value→Value→Bool
 | .int k a,.int k' b=>decide (k=k')&&decide (a=b)
 | .bool a,.bool b=>a==b
 | .slice none 0 0,.slice none 0 0=>true
 | .pointer none,.pointer none=>true
 | .nilIface,.nilIface=>true
 | .nilFunc,.nilFunc=>true
 | .func (.func f) ⟨[]⟩ ⟨[]⟩,.func (.func g) ⟨[]⟩ ⟨[]⟩=>decide (f=g)
 |_,_=>false
theorem sqV_eq{a b:Value}(h:sqV a b=true):a=b:=by
 unfold sqV at h
 split at h<;>simp_all
def sqI:List Int→List Int→Bool
 | [],[]=>true
 |a::l,b::l'=>decide (a=b)&&sqI l l'
 |_,_=>false
theorem sqI_eq: ∀ {a b:List Int},sqI a b=true→a=b
 | [],[],_=>rfl
 |a::l,b::l',h=>by
  simp only[sqI,Bool.and_eq_true,decide_eq_true_eq]at h
  rw[h.1,sqI_eq h.2]
 | [],_::_,h=>by simp[sqI]at h
 |_::_,[],h=>by simp[sqI]at h
mutual
def sqD:D→D→Bool
 | .v a,y=>match y with| .v b=>sqV a b|_=>false
 | .ints k a c,y=>match y with| .ints k' b c'=>decide (k=k')&&(sqI a b&&decide (c=c'))|_=>false
 | .sl n a c,y=>match y with| .sl n' b c'=>decide (n=n')&&(sqDs a b&&decide (c=c'))|_=>false
 | .agg a,y=>match y with| .agg b=>sqDs a b|_=>false
def sqDs:List D→List D→Bool
 | [],y=>match y with| []=>true|_=>false
 |a::l,y=>match y with|b::l'=>sqD a b&&sqDs l l'|_=>false
end
mutual
theorem sqD_eq: ∀(a b:D),sqD a b=true→a=b
 | .v a,b,h=>by
  cases b<;>simp only[sqD]at h<;>try cases h
  rw[sqV_eq h]
 | .ints k a c,b,h=>by
  cases b<;>simp only[sqD]at h<;>try cases h
  simp only[Bool.and_eq_true,decide_eq_true_eq]at h
  rw[h.1,sqI_eq h.2.1,h.2.2]
 | .sl n a c,b,h=>by
  cases b<;>simp only[sqD]at h<;>try cases h
  simp only[Bool.and_eq_true,decide_eq_true_eq]at h
  rw[h.1,sqDs_eq a _ h.2.1,h.2.2]
 | .agg a,b,h=>by
  cases b<;>simp only[sqD]at h<;>try cases h
  rw[sqDs_eq a _ h]
theorem sqDs_eq: ∀(a b:List D),sqDs a b=true→a=b
 | [],b,h=>by
  cases b<;>simp only[sqDs]at h<;>try cases h
  rfl
 |a::l,b,h=>by
  cases b<;>simp only[sqDs]at h<;>try cases h
  simp only[Bool.and_eq_true]at h
  rw[sqD_eq a _ h.1,sqDs_eq l _ h.2]
end
def sqW:Wr→Wr→Bool
 | .ifc t,.ifc t'=>decide (t=t')
 | .mth n,.mth n'=>decide (n=n')
 | .sl n,.sl n'=>decide (n=n')
 | .at_ n,.at_ n'=>decide (n=n')
 |_,_=>false
theorem sqW_eq{a b:Wr}(h:sqW a b=true):a=b:=by
 unfold sqW at h
 split at h<;>simp_all
mutual
def sqA:AV→AV→Bool
 | .d a,y=>match y with| .d b=>sqD a b|_=>false
 | .ptr a b,y=>match y with| .ptr a' b'=>decide (a=a')&&decide (b=b')|_=>false
 | .own a,y=>match y with| .own b=>decide (a=b)|_=>false
 | .agg a,y=>match y with| .agg b=>sqAs a b|_=>false
 | .wrap k a,y=>match y with| .wrap k' b=>sqW k k'&&sqA a b|_=>false
 |_,_=>false
def sqAs:List AV→List AV→Bool
 | [],y=>match y with| []=>true|_=>false
 |a::l,y=>match y with|b::l'=>sqA a b&&sqAs l l'|_=>false
end
mutual
theorem sqA_eq: ∀(a b:AV),sqA a b=true→a=b
 | .d a,b,h=>by
  cases b<;>simp only[sqA]at h<;>try cases h
  rw[sqD_eq _ _ h]
 | .ptr x y,b,h=>by
  cases b<;>simp only[sqA]at h<;>try cases h
  simp only[Bool.and_eq_true,decide_eq_true_eq]at h
  rw[h.1,h.2]
 | .own a,b,h=>by
  cases b<;>simp only[sqA]at h<;>try cases h
  simp only[decide_eq_true_eq]at h
  rw[h]
 | .agg a,b,h=>by
  cases b<;>simp only[sqA]at h<;>try cases h
  rw[sqAs_eq a _ h]
 | .wrap k a,b,h=>by
  cases b<;>simp only[sqA]at h<;>try cases h
  simp only[Bool.and_eq_true]at h
  rw[sqW_eq h.1,sqA_eq a _ h.2]
 | .pel _ _,b,h=>by simp[sqA]at h
 | .eaddr _,b,h=>by simp[sqA]at h
 | .tup _,b,h=>by simp[sqA]at h
 | .clos _ _,b,h=>by simp[sqA]at h
 | .bot,b,h=>by simp[sqA]at h
theorem sqAs_eq: ∀(a b:List AV),sqAs a b=true→a=b
 | [],b,h=>by
  cases b<;>simp only[sqAs]at h<;>try cases h
  rfl
 |a::l,b,h=>by
  cases b<;>simp only[sqAs]at h<;>try cases h
  simp only[Bool.and_eq_true]at h
  rw[sqA_eq a _ h.1,sqAs_eq l _ h.2]
end
end Go.Proofs.Ytngghkoghbpceaa
