/-
  The abstract view of the machine: runs.
  Conditions: none; nothing here speaks of one program.
-/
import Derived.Test.YtngghkoghbpceaaKB2
namespace Go.Proofs.Ytngghkoghbpceaa
open Go.RowKit
set_option linter.unusedVariables false
mutual
def keysV:AV→List Nat
 | .d _=> []
 | .ptr κ _=> [κ]
 | .own κ=> [κ]
 | .pel κ _=> [κ]
 | .eaddr _=> []
 | .agg cs=>keysVs cs
 | .tup vs=>keysVs vs
 | .clos _ caps=>keysVs caps
 | .wrap _ v=>keysV v
 | .bot=> []
termination_by structural v=>v
def keysVs:List AV→List Nat
 | []=> []
 |v::vs=>keysV v++keysVs vs
termination_by structural vs=>vs
end
def keysB:Blk→List Nat
 | .box _ cs=>keysVs cs
 | .map kvs=>keysVs kvs
 | .vrow _ xs=>keysVs xs
 |_=> []
def reachK(hp:List (Nat×Blk)):Nat→List Nat→List Nat→List Nat
 |_,[],seen=>seen
 |0,_::_,seen=>seen
 |n+1,k::todo,seen=>if seen.contains k then reachK hp n todo seen else match gt k hp with
  |some B=>reachK hp n (keysB B++todo) (seen++ [k])
  |none=>reachK hp n todo seen
def nodupB:List Nat→Bool
 | []=>true
 |k::l=> !l.contains k&&nodupB l
theorem nodupB_get: ∀ {l:List Nat},nodupB l=true→l.Nodup
 | [],_=>List.nodup_nil
 |k::l,h=>by
  simp only[nodupB,Bool.and_eq_true,Bool.not_eq_true']at h
  exact List.nodup_cons.2 ⟨by simpa using h.1,nodupB_get h.2⟩
def maxK:List (Nat×Blk)→Nat→Nat
 | [],n=>n
 |(k,_)::l,n=>maxK l (if n≤k then k+1 else n)
def notOwn:AV→Bool
 | .own _=>false
 |_=>true
def isOwn:AV→Bool
 | .own _=>true
 |_=>false
def isRowK(hp:List (Nat×Blk))(κ:Nat):Bool:=match gt κ hp with
 |some (.box _ _)=>false
 |some (.map _)=>false
 |some (.vrow _ _)=>false
 |some _=>true
 |none=>false
def freezeL(s:St):List Nat→Option St
 | []=>some s
 |κ::l=>match obind (gt κ s.hp) Blk.data with
  |some d=>freezeL (s.freeze κ d) l
  |none=>none
abbrev RunF:=FuncId→List AV→List Blk→Option (AV×List Blk)
def RunOk(P:Program)(run:RunF):Prop:= ∀f vs hs R BS,run f vs hs=some (R,BS)→hs.length≤BS.length∧ACall P f vs hs fun r hs'=>r=R∧hs'=BS
def fnOk(fn:Func):Bool:=fn.body.isSome&& !(fn.name== "runtime.NumGoroutine")
def rmK(ks V:List Nat):List Nat:=V.filter fun κ=> !ks.contains κ
def callS(P:Program)(run:RunF)(s:St)(V:List Nat)(f:FuncId)(fn:Func)(dst:Option Nat)(vs:List AV):Option St:=
 let ks:=reachK s.hp 64 (keysVs (vs.filter notOwn)) []
 let V:=rmK ks V
 let q:=maxK s.hp (16+s.n)
 match pickB (posOf · ks) s.hp ks with
 |some bs=>if nodupB ks&&(decide (ks.length≤16)&&(V.all (fun κ=>(gt κ s.hp).isSome)&&ks.all (fun κ=>decide (κ<q))))then
   match run f (argsA P s ks V fn.params.toList vs) bs with
   |some (R,BS)=>if V.isEmpty||(flatV R&&BS.all flatB)then some ((afterS s ks q BS).put dst (renV (backF ks q BS.length) R))else none
   |none=>none
  else none
 |none=>none
def preFix(s:St):List Oper→St
 | []=>s
 |o::l=>match o.op with
  | .slice _ x _ _ _=>match s.ev x with
   |some (.ptr κ 0)=>match gt κ s.hp with
    |some (.box _ cs)=>match allD cs with
     |some ds=>preFix (s.fix κ (.agg ds)) l
     |none=>preFix s l
    |_=>preFix s l
   |_=>preFix s l
  |_=>preFix s l
def evK(s:St)(l:List Operand):List Nat:=match s.evL l with
 |some vs=>keysVs vs
 |none=> []
def takenK(s:St)(o:Oper):List Nat:=
 (match o.op with
 | .store _ _ v=>evK s [v]
 | .buildSlice _ _ l=>evK s (l.toList.map fun p:Nat×Operand=>p.2)
 | .call {callee:= .builtin .append,args:=args,argTypes:=_}=>evK s (args.toList.drop 1)
 | .index _ x _=>evK s [x]
 | .slice _ x _ _ _=>evK s [x]
 |_=> []).filter (isRowK s.hp)
def stepX(P:Program)(s:St)(o:Oper):Option St:=
 let s:=preFix s [o]
 match stepF P s o with
 |some s'=>some s'
 |none=>match freezeL s (takenK s o)with
  |some s1=>stepF P s1 o
  |none=>none
def call2(P:Program)(run:RunF)(s1:St)(f:FuncId)(fn:Func)(dst:Option Nat):Option (FuncId×List AV)→Option St
 |some (f',vs')=>if f'=f∧s1.okDst dst=true then callS P run s1 [] f fn dst vs' else none
 |none=>none
def call1(P:Program)(run:RunF)(f:FuncId)(fn:Func)(dst:Option Nat)(c:Call):Option St→Option St
 |some s1=>call2 P run s1 f fn dst (goC P s1 c)
 |none=>none
def callB(P:Program)(run:RunF)(s:St)(f:FuncId)(fn:Func)(dst:Option Nat)(c:Call)(vs:List AV):Option St→Option St
 |some s'=>some s'
 |none=>call1 P run f fn dst c (freezeL s ((reachK s.hp 64 (keysVs vs) []).filter (isRowK s.hp)))
def call0(P:Program)(run:RunF)(s:St)(f:FuncId)(fn:Func)(dst:Option Nat)(c:Call)(vs:List AV)(V:List Nat):Option St→Option St
 |some s'=>some s'
 |none=>callB P run s f fn dst c vs (call1 P run f fn dst c (freezeL s (V.filter (isRowK s.hp))))
def callF(P:Program)(run:RunF)(s:St)(f:FuncId)(dst:Option Nat)(c:Call)(vs:List AV):Option Func→Option St
 |some fn=>if fnOk fn&&s.okDst dst then call0 P run s f fn dst c vs (keysVs (vs.filter isOwn)) (callS P run s (keysVs (vs.filter isOwn)) f fn dst vs)else none
 |none=>none
def callE(P:Program)(run:RunF)(s:St)(dst:Option Nat)(c:Call):Option (FuncId×List AV)→Option St
 |some (f,vs)=>callF P run s f dst c vs P.funcs[f]?
 |none=>none
def callX(P:Program)(run:RunF)(s:St)(dst:Option Nat)(c:Call):Option St:=callE P run s dst c (goC P s c)
def isCallO:Op→Bool
 | .call {callee:= .builtin _,.. }=>false
 | .call _=>true
 |_=>false
def kindX(P:Program)(run:RunF)(s:St)(o:Oper):Bool→Option St
 |true=>match o.op with
  | .call c=>callX P run s o.dst c
  |_=>none
 |false=>stepX P s o
def opX(P:Program)(run:RunF)(s:St)(o:Oper):Option St:=kindX P run s o (isCallO o.op)
def opG(P:Program)(run:RunF)(ops:Array Oper)(s:St)(o:Oper):Option St:=
 match o.guard with
 |none=>opX P run s o
 |some (j,want)=>match gtO (obind ops[j]? Oper.dst) s.tm with
  |some (.d (.v (.bool b)))=>if b=want then opX P run s {o with guard:=none}else if s.okDst o.dst=true then some (s.put o.dst (.tup []))else none
  |some (.tup [])=>if s.okDst o.dst=true then some (s.put o.dst (.tup []))else none
  |_=>none
def opsX(P:Program)(run:RunF)(ops:Array Oper):List Oper→St→Option St
 | [],s=>some s
 |o::l,s=>match opG P run ops s o with
  |some s'=>opsX P run ops l s'
  |none=>none
noncomputable def callD7 (s:St) (ks V:List Nat) (q:Nat):Option (AV×List Blk)→Option AV
 |some (R,BS)=>if sameK s ks (backF ks q BS.length) ks BS&&(V.isEmpty||(flatV R&&BS.all flatB))then some (renV (backF ks q BS.length) R)else none
 |none=>none
noncomputable def callD6 (s:St) (ks V:List Nat) (q n:Nat):Option (AV×List Blk)→Option AV
 |some (R,BS)=>callD7 s ks V q (datLast (BS.length - n) R BS)
 |none=>none
noncomputable def callD5 (P:Program) (run:RunF) (s:St) (f:FuncId) (fn:Func) (vs:List AV) (ks V:List Nat) (q:Nat):Option (List Blk)→Option AV
 |some bs=>if nodupB ks&&(decide (ks.length≤16)&&(V.all (fun κ=>(gt κ s.hp).isSome)&&ks.all (fun κ=>decide (κ<q))))then callD6 s ks V q bs.length (run f (argsA P s ks V fn.params.toList vs) bs)else none
 |none=>none
noncomputable def callD4 (P:Program) (run:RunF) (s:St) (f:FuncId) (fn:Func) (vs:List AV) (ks V:List Nat) (q:Nat):Option AV:=callD5 P run s f fn vs ks V q (pickB (posOf · ks) s.hp ks)
noncomputable def callD3 (P:Program) (run:RunF) (s:St) (f:FuncId) (fn:Func) (vs:List AV) (ks:List Nat):Option AV:=callD4 P run s f fn vs ks (rmK ks (keysVs (vs.filter isOwn))) (maxK s.hp 16)
noncomputable def callD2 (P:Program) (run:RunF) (s:St) (dst:Option Nat) (f:FuncId) (vs:List AV):Option Func→Option AV
 |some fn=>if fnOk fn&&s.okDst dst then callD3 P run s f fn vs (reachK s.hp 64 (keysVs (vs.filter notOwn)) [])else none
 |none=>none
noncomputable def callD1 (P:Program) (run:RunF) (s:St) (dst:Option Nat):Option (FuncId×List AV)→Option AV
 |some (f,vs)=>callD2 P run s dst f vs P.funcs[f]?
 |none=>none
def opCall:Op→Option Call
 | .call c=>some c
 |_=>none
noncomputable def callD0 (P:Program) (run:RunF) (s:St) (dst:Option Nat):Option Call→Option AV
 |some c=>callD1 P run s dst (goC P s c)
 |none=>none
noncomputable def callD (P:Program) (run:RunF) (s:St) (o:Oper):Option AV:=if isCallO o.op then callD0 P run s o.dst (opCall o.op)else none
noncomputable def valX (P:Program) (run:RunF) (ops:Array Oper) (s:St) (o:Oper):Option AV:=
 match stepV P ops s o with
 |some v=>some v
 |none=>match o.guard with
  |none=>callD P run s o
  |some (j,want)=>match gtO (obind ops[j]? Oper.dst) s.tm with
   |some (.d (.v (.bool b)))=>if b=want then callD P run s {o with guard:=none}else none
   |_=>none
noncomputable def valsX (P:Program) (run:RunF) (ops:Array Oper):Nat→List Oper→St→Option (List Oper×St)
 |0,l,s=>some (l,s)
 |p+1,o::l,s=>match valX P run ops s o with
  |some v=>valsX P run ops p l (s.put o.dst v)
  |none=>none
 |_+1,[],_=>none
def leastOk(l:List Oper):Nat→Nat→Option Nat
 |0,_=>none
 |n+1,p=>if tailOk p l then some p else leastOk l n (p+1)
theorem freezeL_sound{cx:Ctx}{m:Nat→Value}{a:Act}{w:World}: ∀ {l:List Nat} {s s1:St},freezeL s l=some s1→SRep cx m s a w→SRep cx m s1 a w
 | [],s,s1,h,hr=>by simp only[freezeL,Option.some.injEq]at h;subst h;exact hr
 |κ::l,s,s1,h,hr=>by
  simp only[freezeL]at h
  split at h
  ·rename_i d hd
   obtain⟨B,hB,hBd⟩:=Option.bind_eq_some_iff.1 hd
   exact freezeL_sound h (hr.freeze hB hBd)
  ·cases h
theorem preFix_sound{cx:Ctx}{m:Nat→Value}{a:Act}{w:World}: ∀ {l:List Oper} {s:St},SRep cx m s a w→SRep cx m (preFix s l) a w
 | [],s,hr=>hr
 |o::l,s,hr=>by
  unfold preFix
  repeat' split
  all_goals first
   |exact preFix_sound hr
   |(rename_i hB _ _ hd;exact preFix_sound (hr.fix hB hd))
theorem maxK_le: ∀(l:List (Nat×Blk)) (n:Nat),n≤maxK l n
 | [],n=>Nat.le_refl _
 |(k,_)::l,n=>by
  simp only[maxK]
  refine Nat.le_trans ?_ (maxK_le l _)
  split<;>omega
theorem callS_sound{P:Program}{run:RunF}(hrun:RunOk P run){s s':St}{V:List Nat}{o:Oper}{l:List Oper}{ops:Array Oper}{Q:St→Prop}{f:FuncId}{fn:Func}{vs:List AV}
  (hg:o.guard=none)(hf:IsFn P f fn)(hgo:GoesTo P s o f vs)(hdst:s.okDst o.dst=true)
  (h:callS P run s V f fn o.dst vs=some s')(next:AWpL P ops l Q s'):AWpL P ops (o::l) Q s:=by
 unfold callS at h
 simp only at h
 split at h
 ·rename_i bs hb
  split at h
  ·rename_i hc
   simp only[Bool.and_eq_true,decide_eq_true_eq]at hc
   obtain⟨h1,h2,h3,h4⟩:=hc
   split at h
   ·rename_i R BS hR
    split at h
    ·rename_i hfl
     cases h
     obtain⟨r1,r2⟩:=hrun _ _ _ _ _ hR
     refine awpl_callG hg hf hgo hdst _ _ (maxK s.hp (16+s.n)) r2 (nodupB_get h1) hb h2 (Nat.le_trans (Nat.le_add_right 16 s.n) (maxK_le s.hp (16+s.n))) (fun κ hκ=>⟨?_,List.all_eq_true.1 h3 κ hκ⟩) ?_
     ·have:=(List.mem_filter.1 hκ).2
      simpa using this
     ·rintro r hs' ⟨rfl,rfl⟩ _
      refine⟨fun κ hκ=> .inl (by simpa using List.all_eq_true.1 h4 κ hκ),?_,next⟩
      simp only[Bool.or_eq_true,Bool.and_eq_true]at hfl
      rcases hfl with hfl|⟨h5,h6⟩
      ·exact .inl (List.isEmpty_iff.1 hfl)
      ·exact .inr ⟨h5,fun B hB=>List.all_eq_true.1 h6 B hB⟩
    ·cases h
   ·cases h
  ·cases h
 ·cases h
theorem isFn_of{P:Program}{f:FuncId}{fn:Func}(h:P.funcs[f]? =some fn)(hk:fnOk fn=true):IsFn P f fn:=by
 simp only[fnOk,Bool.and_eq_true,Bool.not_eq_true']at hk
 exact⟨h,hk.1,hk.2⟩
theorem opX_sound{P:Program}{run:RunF}(hrun:RunOk P run){s s':St}{o:Oper}{l:List Oper}{ops:Array Oper}{Q:St→Prop}(hg:o.guard=none)(h:opX P run s o=some s')(next:AWpL P ops l Q s'):AWpL P ops (o::l) Q s:=by
 have one: ∀s1,stepF P s1 o=some s'→AWpL P ops (o::l) Q s1:=fun s1 h=>awpl_step (by unfold stepG;rw[hg];exact h) next
 have plain:stepX P s o=some s'→AWpL P ops (o::l) Q s:=by
  intro h cx m a w K hr hK
  unfold stepX at h
  simp only at h
  split at h
  ·rename_i s2 h2
   cases h
   exact one _ h2 cx m a w K (preFix_sound hr) hK
  ·split at h
   ·rename_i s1 h1
    exact one _ h cx m a w K (freezeL_sound h1 (preFix_sound hr)) hK
   ·cases h
 unfold opX kindX at h
 split at h
 ·split at h
  ·rename_i c ho
   unfold callX callE at h
   split at h
   ·rename_i f vs hgo
    unfold callF at h
    split at h
    ·rename_i fn hfn
     split at h
     ·rename_i hk
      simp only[Bool.and_eq_true]at hk
      unfold call0 at h
      split at h
      ·rename_i s2 hs2
       cases h
       exact callS_sound hrun hg (isFn_of hfn hk.1) (goC_sound ho (isFn_of hfn hk.1) hgo) hk.2 hs2 next
      ·have one: ∀L,call1 P run f fn o.dst c (freezeL s L)=some s'→AWpL P ops (o::l) Q s:=by
        intro L h
        unfold call1 at h
        split at h
        ·rename_i s1 hs1
         unfold call2 at h
         split at h
         ·rename_i f' vs' h1
          split at h
          ·rename_i hc
           obtain⟨rfl,hc⟩:=hc
           have:=callS_sound hrun hg (isFn_of hfn hk.1) (goC_sound ho (isFn_of hfn hk.1) h1) hc h next
           exact fun cx m a w K hr hK=>this cx m a w K (freezeL_sound hs1 hr) hK
          ·cases h
         ·cases h
        ·cases h
       unfold callB at h
       split at h
       ·rename_i s2 hs2
        cases h
        exact one _ hs2
       ·exact one _ h
     ·cases h
    ·cases h
   ·cases h
  ·cases h
 ·exact plain h
theorem opG_sound{P:Program}{run:RunF}(hrun:RunOk P run){s s':St}{o:Oper}{l:List Oper}{ops:Array Oper}{Q:St→Prop}(h:opG P run ops s o=some s')(next:AWpL P ops l Q s'):AWpL P ops (o::l) Q s:=by
 unfold opG at h
 split at h
 ·rename_i hg;exact opX_sound hrun hg h next
 ·rename_i j want hg
  split at h
  ·rename_i b hb
   split at h
   ·rename_i hbw
    subst hbw
    obtain⟨t,ht,hb'⟩:=gtO_some hb
    exact awpl_guard hg (Option.bind_eq_some_iff.2 ⟨t,ht,hb'⟩) (opX_sound hrun rfl h next)
   ·rename_i hbw
    split at h
    ·rename_i hok
     cases h
     refine awpl_step (s':=s.put o.dst (.tup [])) ?_ next
     unfold stepG
     rw[hg]
     simp only[hb,if_neg hbw,hok,if_true]
    ·cases h
  ·rename_i hb
   split at h
   ·rename_i hok
    cases h
    refine awpl_step (s':=s.put o.dst (.tup [])) ?_ next
    unfold stepG
    rw[hg]
    simp only[hb,hok,if_true]
   ·cases h
  ·cases h
theorem opsX_sound{P:Program}{run:RunF}(hrun:RunOk P run){ops:Array Oper}{Q:St→Prop}: ∀ {l:List Oper} {s s':St},opsX P run ops l s=some s'→Q s'→AWpL P ops l Q s
 | [],s,s',h,hq=>by simp only[opsX,Option.some.injEq]at h;subst h;exact awpl_nil hq
 |o::l,s,s',h,hq=>by
  simp only[opsX]at h
  split at h
  ·rename_i s1 h1
   exact opG_sound hrun h1 (opsX_sound hrun h hq)
  ·cases h
theorem allD_map: ∀ {vs:List AV} {ds:List D},allD vs=some ds→vs=ds.map .d
 | [],ds,h=>by simp only[allD,Option.some.injEq]at h;subst h;rfl
 |v::vs,ds,h=>by
  cases v with
  |d x=>
   simp only[allD]at h
   obtain⟨r,h1,rfl⟩:=Option.map_eq_some_iff.1 h
   rw[allD_map h1];rfl
  |_=>simp[allD]at h
theorem goC_congr{P:Program}{s s2:St}{c:Call}(h: ∀x∈c.operands,s2.ev x=s.ev x):goC P s2 c=goC P s c:=by
 obtain⟨cal,args,tys⟩:=c
 have ha: ∀x∈args.toList,s2.ev x=s.ev x:=fun x hx=>h x (by simp[Call.operands];exact .inr (by simpa using hx))
 unfold goC
 cases cal with
 |value g=>
  simp only
  rw[h g (by simp[Call.operands]),evL_congr ha]
 |invoke r n=>
  simp only
  rw[h r (by simp[Call.operands]),evL_congr ha]
 |builtin b=>rfl
theorem argsA_hp{P:Program}{s s2:St}{ks V:List Nat}(hp:s2.hp=s.hp): ∀ts vs,argsA P s2 ks V ts vs=argsA P s ks V ts vs:=by
 intro ts
 induction ts with
 |nil=>intro vs;simp only[argsA]
 |cons t ts ih=>
  intro vs
  cases vs with
  |nil=>simp only[argsA]
  |cons v vs=>
   simp only[argsA,ih]
   congr 1
   unfold argA
   simp only[hp]
theorem callD_sound{P:Program}{run:RunF}(hrun:RunOk P run){s:St}{o:Oper}{ops:Array Oper}{v:AV}(hg:o.guard=none)(h:callD P run s o=some v):QOp P ops o s v:=by
 unfold callD at h
 split at h
 ·unfold callD0 at h
  split at h
  ·rename_i c hc0
   have ho:o.op= .call c:=by
    unfold opCall at hc0
    split at hc0
    ·rename_i c' hc';cases hc0;exact hc'
    ·cases hc0
   unfold callD1 at h
   split at h
   ·rename_i f vs hgo
    unfold callD2 at h
    split at h
    ·rename_i fn hfn
     split at h
     ·rename_i hk
      simp only[Bool.and_eq_true]at hk
      unfold callD3 callD4 callD5 at h
      split at h
      ·rename_i bs hb
       split at h
       ·rename_i hc
        simp only[Bool.and_eq_true,decide_eq_true_eq]at hc
        obtain⟨h1,h2,h3,h4⟩:=hc
        unfold callD6 at h
        split at h
        ·rename_i R BS hR
         unfold callD7 at h
         split at h
         ·rename_i R' BS' hD
          split at h
          ·rename_i hsm
           cases h
           simp only[Bool.and_eq_true]at hsm
           obtain⟨hsm,hfl⟩:=hsm
           obtain⟨r1,r2⟩:=hrun _ _ _ _ _ hR
           have r3:=acall_datLast r2 (by omega) hD
           intro s2 hn hp hl
           have hgo2:goC P s2 c=some (f,vs):=by
            rw[goC_congr (fun x hx=>ev_congr fun t ht=>hl t (mem_looks (by rw[ho];subst ht;exact hx))),hgo]
           rw[←hp]at hb h3 h4 r3
           rw[←argsA_hp hp]at r3
           refine awpl_back (R:=fun s3=>s3=(afterS s2 (reachK s2.hp 64 (keysVs (vs.filter notOwn)) []) (maxK s2.hp 16) BS').put o.dst (renV (backF (reachK s2.hp 64 (keysVs (vs.filter notOwn)) []) (maxK s2.hp 16) BS'.length) R')) ?_ ?_
           ·rintro s3 rfl
            refine⟨s2.put o.dst _,Sub.put (after_same (by rw[hp];exact nodupB_get h1) ?_) _ _,by rw[hp]⟩
            rw[hp]
            have:sameK s2=sameK s:=by
             funext ks f l bs
             induction l generalizing bs with
             |nil=>cases bs<;>rfl
             |cons k l ih=>cases bs<;>simp only[sameK,hp,ih]
            rw[this];exact hsm
           ·refine awpl_callG hg (isFn_of hfn hk.1) (goC_sound ho (isFn_of hfn hk.1) hgo2) (by rw[←hk.2];cases o.dst<;>simp[St.okDst,hn]) _ _ (maxK s2.hp 16) r3 (by rw[hp];exact nodupB_get h1) hb (by rw[hp];exact h2) (maxK_le s2.hp 16) (fun κ hκ=>⟨?_,List.all_eq_true.1 h3 κ hκ⟩) ?_
            ·have:=(List.mem_filter.1 hκ).2
             simpa using this
            ·rintro r hs' ⟨rfl,rfl⟩ _
             refine⟨fun κ hκ=> .inl (by simpa using List.all_eq_true.1 h4 κ hκ),?_,awpl_nil rfl⟩
             simp only[Bool.or_eq_true,Bool.and_eq_true]at hfl
             rcases hfl with hfl|⟨h5,h6⟩
             ·exact .inl (by rw[hp];exact List.isEmpty_iff.1 hfl)
             ·exact .inr ⟨h5,fun B hB=>List.all_eq_true.1 h6 B hB⟩
          ·cases h
         ·cases h
        ·cases h
       ·cases h
      ·cases h
     ·cases h
    ·cases h
   ·cases h
  ·cases h
 ·cases h
theorem qop_guard{P:Program}{ops:Array Oper}{o:Oper}{s:St}{v:AV}{j:Nat}{b:Bool}(hg:o.guard=some (j,b))(hb:gtO (obind ops[j]? Oper.dst) s.tm=some (.d (.v (.bool b))))(h:QOp P ops {o with guard:=none} s v):QOp P ops o s v:=by
 obtain⟨t,ht,hb'⟩:=gtO_some hb
 intro s2 hn hp hl
 have htl:t∈o.looksAt ops:=List.mem_append_right _ (by have hd':(ops[j]?).bind (·.dst)=some t:=ht
                                                       simp[hg,hd'])
 refine awpl_guard hg (Option.bind_eq_some_iff.2 ⟨t,ht,by rw[hl t htl];exact hb'⟩) (h s2 hn hp fun t' ht'=>hl t' ?_)
 simp only[Oper.looksAt,List.mem_append]at ht' ⊢
 rcases ht' with h|h
 ·exact .inl h
 ·simp at h
theorem valX_sound{P:Program}{run:RunF}(hrun:RunOk P run){s:St}{o:Oper}{ops:Array Oper}{v:AV}(h:valX P run ops s o=some v):QOp P ops o s v:=by
 unfold valX at h
 split at h
 ·rename_i v' hv;cases h;exact qop_val hv
 ·split at h
  ·rename_i hg;exact callD_sound hrun hg h
  ·rename_i j want hg
   split at h
   ·rename_i b hb
    split at h
    ·rename_i hbw
     subst hbw
     exact qop_guard hg hb (callD_sound hrun rfl h)
    ·cases h
   ·cases h
structure Eff where
 W:List (Nat×AV)
 H:List (Nat×Blk)
def applyE(s:St)(e:Eff):St:= {s with tm:=insL e.W s.tm,hp:=insL e.H s.hp}
def nm(K:List Nat)(v:AV):Bool:=(keysV v).any K.contains
def nmB(K:List Nat)(B:Blk):Bool:=(keysB B).any K.contains
structure Loc where
 o:Oper
 e:Eff
 reads:List Nat
 keys:List Nat
 kill:List Nat
def LOp(P:Program)(ops:Array Oper)(s:St)(q:Loc):Prop:=
 ∀s2:St,s2.n=s.n→(∀t∈q.reads,gt t s2.tm=gt t s.tm)→(∀κ∈q.keys,gt κ s2.hp=gt κ s.hp)→
  (∀t v,gt t s2.tm=some v→(gt t q.e.W).isSome=true∨nm q.kill v=false)→(∀κ B,gt κ s2.hp=some B→(gt κ q.e.H).isSome=true∨nmB q.kill B=false)→
  AWpL P ops [q.o] (fun s3=>Sub (applyE s2 q.e) s3) s2
def maskE(D:Nat→Bool):Nat→List Loc→St→St
 |_,[],s=>s
 |i,q::l,s=>maskE D (i+1) l (if D i then applyE s q.e else s)
def lookW(t:Nat)(D:Nat→Bool):Nat→List Loc→Option AV→Option AV
 |_,[],d=>d
 |i,q::l,d=>lookW t D (i+1) l (if D i then(match gt t q.e.W with|some v=>some v|none=>d)else d)
def lookH(t:Nat)(D:Nat→Bool):Nat→List Loc→Option Blk→Option Blk
 |_,[],d=>d
 |i,q::l,d=>lookH t D (i+1) l (if D i then(match gt t q.e.H with|some v=>some v|none=>d)else d)
theorem maskE_facts(D:Nat→Bool): ∀(L:List Loc) (i:Nat) (s:St),(maskE D i L s).n=s.n∧(∀t,gt t (maskE D i L s).tm=lookW t D i L (gt t s.tm))∧ ∀t,gt t (maskE D i L s).hp=lookH t D i L (gt t s.hp)
 | [],i,s=>⟨rfl,fun _=>rfl,fun _=>rfl⟩
 |q::l,i,s=>by
  obtain⟨h1,h2,h3⟩:=maskE_facts D l (i+1) (if D i then applyE s q.e else s)
  refine⟨?_,fun t=> ?_,fun t=> ?_⟩
  ·simp only[maskE,h1];split<;>rfl
  ·simp only[maskE,lookW,h2]
   congr 1
   cases D i with
   |true=>simp only[if_true,applyE,gt_insL];cases gt t q.e.W<;>rfl
   |false=>simp
  ·simp only[maskE,lookH,h3]
   congr 1
   cases D i with
   |true=>simp only[if_true,applyE,gt_insL];cases gt t q.e.H<;>rfl
   |false=>simp
theorem lookW_congr{t:Nat}{D D':Nat→Bool}: ∀ {L:List Loc} {i:Nat} {d:Option AV},(∀(j:Nat) q,L[j]? =some q→(gt t q.e.W).isSome=true→D (i+j)=D' (i+j))→lookW t D i L d=lookW t D' i L d
 | [],i,d,_=>rfl
 |q::l,i,d,h=>by
  simp only[lookW]
  have h0:=h 0 q rfl
  have e:(if D i then(match gt t q.e.W with|some v=>some v|none=>d)else d)=(if D' i then(match gt t q.e.W with|some v=>some v|none=>d)else d):=by
   cases hg:gt t q.e.W with
   |none=>simp
   |some v=>rw[hg]at h0;have:=h0 rfl;simp only[Nat.add_zero]at this;rw[this]
  rw[e]
  exact lookW_congr fun j q' hj hd=>by
   have:=h (j+1) q' (by simpa using hj) hd
   rw[show i+1+j=i+(j+1)by omega];exact this
theorem lookH_congr{t:Nat}{D D':Nat→Bool}: ∀ {L:List Loc} {i:Nat} {d:Option Blk},(∀(j:Nat) q,L[j]? =some q→(gt t q.e.H).isSome=true→D (i+j)=D' (i+j))→lookH t D i L d=lookH t D' i L d
 | [],i,d,_=>rfl
 |q::l,i,d,h=>by
  simp only[lookH]
  have h0:=h 0 q rfl
  have e:(if D i then(match gt t q.e.H with|some v=>some v|none=>d)else d)=(if D' i then(match gt t q.e.H with|some v=>some v|none=>d)else d):=by
   cases hg:gt t q.e.H with
   |none=>simp
   |some v=>rw[hg]at h0;have:=h0 rfl;simp only[Nat.add_zero]at this;rw[this]
  rw[e]
  exact lookH_congr fun j q' hj hd=>by
   have:=h (j+1) q' (by simpa using hj) hd
   rw[show i+1+j=i+(j+1)by omega];exact this
theorem lookW_from{t:Nat}{D:Nat→Bool}{v:AV}: ∀ {L:List Loc} {i:Nat} {d:Option AV},lookW t D i L d=some v→d=some v∨ ∃(j:Nat) (q:Loc),L[j]? =some q∧D (i+j)=true∧gt t q.e.W=some v
 | [],i,d,h=> .inl h
 |q::l,i,d,h=>by
  simp only[lookW]at h
  rcases lookW_from h with h1|⟨j,q',h1,h2,h3⟩
  ·split at h1
   ·rename_i hD
    split at h1
    ·rename_i v' hv;cases h1;exact .inr ⟨0,q,rfl,by simpa using hD,hv⟩
    ·exact .inl h1
   ·exact .inl h1
  ·exact .inr ⟨j+1,q',by simpa using h1,by rw[show i+(j+1)=i+1+j by omega];exact h2,h3⟩
theorem lookH_from{t:Nat}{D:Nat→Bool}{v:Blk}: ∀ {L:List Loc} {i:Nat} {d:Option Blk},lookH t D i L d=some v→d=some v∨ ∃(j:Nat) (q:Loc),L[j]? =some q∧D (i+j)=true∧gt t q.e.H=some v
 | [],i,d,h=> .inl h
 |q::l,i,d,h=>by
  simp only[lookH]at h
  rcases lookH_from h with h1|⟨j,q',h1,h2,h3⟩
  ·split at h1
   ·rename_i hD
    split at h1
    ·rename_i v' hv;cases h1;exact .inr ⟨0,q,rfl,by simpa using hD,hv⟩
    ·exact .inl h1
   ·exact .inl h1
  ·exact .inr ⟨j+1,q',by simpa using h1,by rw[show i+(j+1)=i+1+j by omega];exact h2,h3⟩
theorem lookW_at{t:Nat}{D:Nat→Bool}{v:AV}{q:Loc}: ∀ {L:List Loc} {b j:Nat} {d:Option AV},L[j]? =some q→gt t q.e.W=some v→D (b+j)=true→(∀(k:Nat) q',L[k]? =some q'→(gt t q'.e.W).isSome=true→j<k→D (b+k)=false)→lookW t D b L d=some v
 | [],b,j,d,h,_,_,_=>by simp at h
 |q0::l,b,j,d,h,hv,hD,hlast=>by
  simp only[lookW]
  cases j with
  |zero=>
   simp at h;subst h
   rw[show b+0=b from rfl]at hD
   rw[if_pos hD,hv]
   have: ∀(l':List Loc) (b':Nat),(∀(k:Nat) q',l'[k]? =some q'→(gt t q'.e.W).isSome=true→D (b'+k)=false)→lookW t D b' l' (some v)=some v:=by
    intro l'
    induction l' with
    |nil=>intro b' _;rfl
    |cons q1 l' ih=>
     intro b' h'
     simp only[lookW]
     have h0:=h' 0 q1 rfl
     have e:(if D b' then(match gt t q1.e.W with|some v=>some v|none=>some v)else some v)=some v:=by
      cases hg:gt t q1.e.W with
      |none=>simp
      |some u=>rw[hg]at h0;have:=h0 rfl;simp only[Nat.add_zero]at this;rw[this];simp
     rw[e]
     exact ih (b'+1) fun k q' hk hs=>by have:=h' (k+1) q' (by simpa using hk) hs;rw[show b'+1+k=b'+(k+1)by omega];exact this
   exact this l (b+1) fun k q' hk hs=>by have:=hlast (k+1) q' (by simpa using hk) hs (by omega);rw[show b+1+k=b+(k+1)by omega];exact this
  |succ j=>
   exact lookW_at (L:=l) (j:=j) (by simpa using h) hv (by rw[show b+1+j=b+(j+1)by omega];exact hD) fun k q' hk hs hjk=>by
    have:=hlast (k+1) q' (by simpa using hk) hs (by omega)
    rw[show b+1+k=b+(k+1)by omega];exact this
theorem lookH_at{t:Nat}{D:Nat→Bool}{v:Blk}{q:Loc}: ∀ {L:List Loc} {b j:Nat} {d:Option Blk},L[j]? =some q→gt t q.e.H=some v→D (b+j)=true→(∀(k:Nat) q',L[k]? =some q'→(gt t q'.e.H).isSome=true→j<k→D (b+k)=false)→lookH t D b L d=some v
 | [],b,j,d,h,_,_,_=>by simp at h
 |q0::l,b,j,d,h,hv,hD,hlast=>by
  simp only[lookH]
  cases j with
  |zero=>
   simp at h;subst h
   rw[show b+0=b from rfl]at hD
   rw[if_pos hD,hv]
   have: ∀(l':List Loc) (b':Nat),(∀(k:Nat) q',l'[k]? =some q'→(gt t q'.e.H).isSome=true→D (b'+k)=false)→lookH t D b' l' (some v)=some v:=by
    intro l'
    induction l' with
    |nil=>intro b' _;rfl
    |cons q1 l' ih=>
     intro b' h'
     simp only[lookH]
     have h0:=h' 0 q1 rfl
     have e:(if D b' then(match gt t q1.e.H with|some v=>some v|none=>some v)else some v)=some v:=by
      cases hg:gt t q1.e.H with
      |none=>simp
      |some u=>rw[hg]at h0;have:=h0 rfl;simp only[Nat.add_zero]at this;rw[this];simp
     rw[e]
     exact ih (b'+1) fun k q' hk hs=>by have:=h' (k+1) q' (by simpa using hk) hs;rw[show b'+1+k=b'+(k+1)by omega];exact this
   exact this l (b+1) fun k q' hk hs=>by have:=hlast (k+1) q' (by simpa using hk) hs (by omega);rw[show b+1+k=b+(k+1)by omega];exact this
  |succ j=>
   exact lookH_at (L:=l) (j:=j) (by simpa using h) hv (by rw[show b+1+j=b+(j+1)by omega];exact hD) fun k q' hk hs hjk=>by
    have:=hlast (k+1) q' (by simpa using hk) hs (by omega)
    rw[show b+1+k=b+(k+1)by omega];exact this
def befB(l:List Oper)(j i:Nat):Bool:=decide (j<i)&&(match l[i]? with|some o=>(closeD l i (edgesOf o)).contains j|none=>false)
def disjB(a b:List Nat):Bool:=a.all fun x=> !b.contains x
def pairOk(q q':Loc):Bool:=disjB (q'.e.W.map (·.1)) (q.reads++q.e.W.map (·.1))&&disjB (q'.e.H.map (·.1)) (q.keys++q.e.H.map (·.1))
def quietW(q:Loc)(W:List (Nat×AV)):Bool:=W.all fun p=>(gt p.1 q.e.W).isSome|| !nm q.kill p.2
def quietH(q:Loc)(H:List (Nat×Blk)):Bool:=H.all fun p=>(gt p.1 q.e.H).isSome|| !nmB q.kill p.2
def oneOk(l:List Oper)(s:St)(L:List Loc)(i:Nat)(q:Loc):Bool:=
 quietW q s.tm&&(quietH q s.hp&&(L.zipIdx.all fun p=>p.2==i||(befB l p.2 i&&quietW q p.1.e.W&&quietH q p.1.e.H||befB l i p.2||pairOk q p.1&&quietW q p.1.e.W&&quietH q p.1.e.H)))
def indepOk(l:List Oper)(s:St)(L:List Loc):Bool:=L.zipIdx.all fun p=>oneOk l s L p.2 p.1
theorem gt_memL{α:Type}{t:Nat}{v:α}: ∀ {l:List (Nat×α)},gt t l=some v→(t,v)∈l
 | [],h=>by simp[gt]at h
 |(k,u)::l,h=>by
  simp only[gt]at h
  split at h
  ·rename_i e;cases h;subst e;simp
  ·exact List.mem_cons_of_mem _ (gt_memL h)
theorem quietW_get{q:Loc}{W:List (Nat×AV)}(h:quietW q W=true){t:Nat}{v:AV}(hv:gt t W=some v):(gt t q.e.W).isSome=true∨nm q.kill v=false:=by
 have:=List.all_eq_true.1 h (t,v) (gt_memL hv)
 simpa using this
theorem quietH_get{q:Loc}{H:List (Nat×Blk)}(h:quietH q H=true){t:Nat}{v:Blk}(hv:gt t H=some v):(gt t q.e.H).isSome=true∨nmB q.kill v=false:=by
 have:=List.all_eq_true.1 h (t,v) (gt_memL hv)
 simpa using this
theorem gt_key{α:Type}{t:Nat}{l:List (Nat×α)}(h:(gt t l).isSome=true):t∈l.map (·.1):=by
 obtain⟨v,hv⟩:=Option.isSome_iff_exists.1 h
 exact List.mem_map.2 ⟨(t,v),gt_memL hv,rfl⟩
theorem disjB_get{a b:List Nat}(h:disjB a b=true){x:Nat}(hx:x∈a):x∉b:=by
 have:=List.all_eq_true.1 h x hx
 simpa using this
theorem zip_get{α:Type}{l:List α}{i:Nat}{q:α}(h:l[i]? =some q):(q,i)∈l.zipIdx:=by
 have:l.zipIdx[i]? =some (q,i):=by simp[List.getElem?_zipIdx,h]
 exact List.mem_of_getElem? this
theorem indep_get{l:List Oper}{s:St}{L:List Loc}(h:indepOk l s L=true){i j:Nat}{q q':Loc}(hi:L[i]? =some q)(hj:L[j]? =some q')(hne:j≠i):
  (befB l j i=true∧quietW q q'.e.W=true∧quietH q q'.e.H=true)∨befB l i j=true∨(pairOk q q'=true∧quietW q q'.e.W=true∧quietH q q'.e.H=true):=by
 have h1:=List.all_eq_true.1 h (q,i) (zip_get hi)
 simp only[oneOk,Bool.and_eq_true]at h1
 have h2:=List.all_eq_true.1 h1.2.2 (q',j) (zip_get hj)
 simp only[Bool.or_eq_true,Bool.and_eq_true,beq_iff_eq]at h2
 rcases h2 with h2|(h2|h2)|h2
 ·exact absurd h2 hne
 ·exact .inl ⟨h2.1.1,h2.1.2,h2.2⟩
 ·exact .inr (.inl h2)
 ·exact .inr (.inr ⟨h2.1.1,h2.1.2,h2.2⟩)
theorem indep_own{l:List Oper}{s:St}{L:List Loc}(h:indepOk l s L=true){i:Nat}{q:Loc}(hi:L[i]? =some q):quietW q s.tm=true∧quietH q s.hp=true:=by
 have h1:=List.all_eq_true.1 h (q,i) (zip_get hi)
 simp only[oneOk,Bool.and_eq_true]at h1
 exact⟨h1.1,h1.2.1⟩
theorem bef_done{l:List Oper}{D:Nat→Bool}(hdc: ∀(j:Nat) (o:Oper),l[j]? =some o→D j=true→predsIn o D){i j:Nat}{o:Oper}(ho:l[i]? =some o)(hp:predsIn o D)(hb:befB l j i=true):D j=true∧j<i:=by
 simp only[befB,ho,Bool.and_eq_true,decide_eq_true_eq]at hb
 refine⟨closeD_all hdc i (edgesOf o) (fun k hk=> ?_) j (by simpa using hb.2),hb.1⟩
 obtain⟨e,he,hbe,rfl⟩:=edgesOf_mem hk
 exact hp e he hbe
theorem awp_drawLA{P:Program}{l:List Oper}{Q:Exit→St→Prop}{s:St}(L:List Loc)(hb:edgesBack 0 l=true)(ht:tailOk L.length l=true)(hlen:L.length≤l.length)(hops:L.map (·.o)=l.take L.length)(hind:indepOk l s L=true)
  (hloc: ∀(i:Nat) q,L[i]? =some q→LOp P l.toArray (maskE (fun k=>decide (k<i)) 0 L s) q)
  (hend:AWpL P l.toArray (l.drop L.length) (Q .normal) (maskE (fun _=>true) 0 L s)):AWpA P l.toArray Q s:=by
 have hL: ∀(j:Nat) o,j<L.length→l[j]? =some o→ ∃q,L[j]? =some q∧q.o=o:=by
  intro j o hj ho
  have h1:(L.map (·.o))[j]? =some o:=by rw[hops,List.getElem?_take,if_pos hj];exact ho
  rw[List.getElem?_map]at h1
  obtain⟨q,h2,h3⟩:=Option.map_eq_some_iff.1 h1
  exact⟨q,h2,h3⟩
 have hL': ∀(j:Nat) q,L[j]? =some q→j<L.length∧l[j]? =some q.o:=by
  intro j q hj
  have hjp:j<L.length:=(List.getElem?_eq_some_iff.1 hj).1
  refine⟨hjp,?_⟩
  have h1:(L.map (·.o))[j]? =some q.o:=by rw[List.getElem?_map,hj];rfl
  rw[hops,List.getElem?_take,if_pos hjp]at h1
  exact h1
 refine awp_drawA (by simpa using hb) L.length (by simpa using hlen) (by simpa using ht) (fun D=>maskE D 0 L s) ?_ ?_ ?_
 ·obtain⟨f1,f2,f3⟩:=maskE_facts (fun _=>false) L 0 s
  have e1: ∀t (d:Option AV),lookW t (fun _=>false) 0 L d=d:=by
   have: ∀(L:List Loc) i t (d:Option AV),lookW t (fun _=>false) i L d=d:=by
    intro L;induction L with
    |nil=>intros;rfl
    |cons q L ih=>intro i t d;simp only[lookW];exact ih _ _ _
   exact fun t d=>this L 0 t d
  have e2: ∀t (d:Option Blk),lookH t (fun _=>false) 0 L d=d:=by
   have: ∀(L:List Loc) i t (d:Option Blk),lookH t (fun _=>false) i L d=d:=by
    intro L;induction L with
    |nil=>intros;rfl
    |cons q L ih=>intro i t d;simp only[lookH];exact ih _ _ _
   exact fun t d=>this L 0 t d
  exact⟨f1,fun t v hv=> .inr (by rw[f2,e1]at hv;exact hv),fun κ B hB=>by rw[f3,e2]at hB;exact hB⟩
 ·intro i o D hip ho hDi hpr hdc
  have ho':l[i]? =some o:=by simpa using ho
  have hdc': ∀(j:Nat) (o:Oper),l[j]? =some o→D j=true→predsIn o D:=fun j o hj=>hdc j o (by simpa using hj)
  obtain⟨q,hq,rfl⟩:=hL i o hip ho'
  have stand: ∀(j:Nat) q',L[j]? =some q'→j≠i→(D j=true∧j<i∧befB l j i=true)∨(D j=false∧i<j∧befB l i j=true)∨pairOk q q'=true:=by
   intro j q' hj hne
   rcases indep_get hind hq hj hne with h|h|h
   ·obtain⟨h1,h2⟩:=bef_done hdc' ho' hpr h.1
    exact .inl ⟨h1,h2,h.1⟩
   ·refine .inr (.inl ⟨?_,?_,h⟩)
    ·cases hDj:D j with
     |false=>rfl
     |true=>
      have:=(bef_done hdc' (hL' j q' hj).2 (hdc' j _ (hL' j q' hj).2 hDj) h).1
      rw[hDi]at this;cases this
    ·simp only[befB,Bool.and_eq_true,decide_eq_true_eq]at h;exact h.1
   ·exact .inr (.inr h.1)
  have quiet: ∀(j:Nat) q',L[j]? =some q'→j≠i→D j=true→quietW q q'.e.W=true∧quietH q q'.e.H=true:=by
   intro j q' hj hne hDj
   rcases indep_get hind hq hj hne with h|h|h
   ·exact h.2
   ·rcases stand j q' hj hne with h'|h'|h'
    ·simp only[befB,Bool.and_eq_true,decide_eq_true_eq]at h;omega
    ·rw[h'.1]at hDj;cases hDj
    ·have:=(bef_done hdc' (hL' j q' hj).2 (hdc' j _ (hL' j q' hj).2 hDj) h).1
     rw[hDi]at this;cases this
   ·exact h.2
  obtain⟨f1,f2,f3⟩:=maskE_facts D L 0 s
  obtain⟨g1,g2,g3⟩:=maskE_facts (fun k=>decide (k<i)) L 0 s
  obtain⟨k1,k2,k3⟩:=maskE_facts (setD D i) L 0 s
  have own:=indep_own hind hq
  refine awpl_mono ?_ (hloc i q hq (maskE D 0 L s) (by rw[f1,g1]) (fun t htr=> ?_) (fun κ hκ=> ?_) (fun t v hv=> ?_) (fun κ B hB=> ?_))
  ·intro s3 hs3
   refine⟨by rw[←hs3.1];simp only[applyE];rw[k1,f1],fun t v hv=> ?_,fun κ B hB=> ?_⟩
   ·refine hs3.2.1 t v ?_
    simp only[applyE,gt_insL,f2]
    rw[k2]at hv
    cases hg:gt t q.e.W with
    |some u=>
     have:=lookW_at (t:=t) (D:=setD D i) (v:=u) (L:=L) (b:=0) (j:=i) (d:=gt t s.tm) hq hg (by simp[setD]) (fun k q' hk hs hik=>by
      rw[Nat.zero_add,setD,if_neg (by omega)]
      rcases stand k q' hk (by omega)with h'|h'|h'
      ·omega
      ·exact h'.1
      ·simp only[pairOk,Bool.and_eq_true]at h'
       exact absurd (List.mem_append_right _ (gt_key (by rw[hg];rfl))) (disjB_get h'.1 (gt_key hs)))
     rw[this]at hv;simpa using hv
    |none=>
     simp only
     rw[←hv]
     refine lookW_congr fun j q' hj hs=> ?_
     rw[Nat.zero_add,setD]
     split
     ·rename_i e;subst e;rw[hq]at hj;cases hj;rw[hg]at hs;cases hs
     ·rfl
   ·refine hs3.2.2 κ B ?_
    simp only[applyE,gt_insL,f3]
    rw[k3]at hB
    cases hg:gt κ q.e.H with
    |some u=>
     have:=lookH_at (t:=κ) (D:=setD D i) (v:=u) (L:=L) (b:=0) (j:=i) (d:=gt κ s.hp) hq hg (by simp[setD]) (fun k q' hk hs hik=>by
      rw[Nat.zero_add,setD,if_neg (by omega)]
      rcases stand k q' hk (by omega)with h'|h'|h'
      ·omega
      ·exact h'.1
      ·simp only[pairOk,Bool.and_eq_true]at h'
       exact absurd (List.mem_append_right _ (gt_key (by rw[hg];rfl))) (disjB_get h'.2 (gt_key hs)))
     rw[this]at hB;simpa using hB
    |none=>
     simp only
     rw[←hB]
     refine lookH_congr fun j q' hj hs=> ?_
     rw[Nat.zero_add,setD]
     split
     ·rename_i e;subst e;rw[hq]at hj;cases hj;rw[hg]at hs;cases hs
     ·rfl
  ·rw[f2,g2]
   refine lookW_congr fun j q' hj hs=> ?_
   rw[Nat.zero_add]
   by_cases hji:j=i
   ·subst hji;rw[hDi];simp
   ·rcases stand j q' hj hji with h'|h'|h'
    ·rw[h'.1];simp[h'.2.1]
    ·rw[h'.1];simp;omega
    ·simp only[pairOk,Bool.and_eq_true]at h'
     exact absurd (List.mem_append_left _ htr) (disjB_get h'.1 (gt_key hs))
  ·rw[f3,g3]
   refine lookH_congr fun j q' hj hs=> ?_
   rw[Nat.zero_add]
   by_cases hji:j=i
   ·subst hji;rw[hDi];simp
   ·rcases stand j q' hj hji with h'|h'|h'
    ·rw[h'.1];simp[h'.2.1]
    ·rw[h'.1];simp;omega
    ·simp only[pairOk,Bool.and_eq_true]at h'
     exact absurd (List.mem_append_left _ hκ) (disjB_get h'.2 (gt_key hs))
  ·rw[f2]at hv
   rcases lookW_from hv with h'|⟨j,q',hj,hDj,hvj⟩
   ·exact quietW_get own.1 h'
   ·rw[Nat.zero_add]at hDj
    have hne:j≠i:=fun e=>by subst e;rw[hDi]at hDj;cases hDj
    exact quietW_get (quiet j q' hj hne hDj).1 hvj
  ·rw[f3]at hB
   rcases lookH_from hB with h'|⟨j,q',hj,hDj,hvj⟩
   ·exact quietH_get own.2 h'
   ·rw[Nat.zero_add]at hDj
    have hne:j≠i:=fun e=>by subst e;rw[hDi]at hDj;cases hDj
    exact quietH_get (quiet j q' hj hne hDj).2 hvj
 ·intro D hD
  have hl:l.toArray.toList.drop L.length=l.drop L.length:=by simp
  rw[hl]
  refine awpl_sub ?_ hend
  obtain⟨f1,f2,f3⟩:=maskE_facts D L 0 s
  obtain⟨g1,g2,g3⟩:=maskE_facts (fun _=>true) L 0 s
  refine⟨by rw[g1,f1],fun t v hv=> .inr ?_,fun κ B hB=> ?_⟩
  ·rw[f2];rw[g2]at hv;rw[←hv]
   exact lookW_congr fun j q' hj _=>by rw[Nat.zero_add,hD j (hL' j q' hj).1]
  ·rw[f3];rw[g3]at hB;rw[←hB]
   exact lookH_congr fun j q' hj _=>by rw[Nat.zero_add,hD j (hL' j q' hj).1]
end Go.Proofs.Ytngghkoghbpceaa
