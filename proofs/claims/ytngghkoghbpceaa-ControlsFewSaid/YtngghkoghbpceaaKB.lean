/-
  The abstract view of the machine: steps, calls.
  Conditions: none; nothing here speaks of one program.
-/
import Derived.Test.YtngghkoghbpceaaKA
import Derived.Lib.AppendZerosOnto
import Derived.Orders
namespace Go.Proofs.Ytngghkoghbpceaa
open Go.RowKit
set_option linter.unusedVariables false
def St.intsA(s:St)(k:IntKind):AV→Option (List Int)
 | .d (.ints k' xs _)=>if k=k' then some xs else none
 | .d (.v (.slice none 0 0))=>some []
 | .own κ=>match gt κ s.hp with
  |some (.ints _ k' xs _)=>if k=k' then some xs else none
  |_=>none
 |_=>none
def St.rowA(s:St)(n:Nat):AV→Option (List D)
 | .d (.sl n' xs _)=>if n=n' then some xs else none
 | .d (.v (.slice none 0 0))=>some []
 | .own κ=>match gt κ s.hp with
  |some (.row _ n' xs _)=>if n=n' then some xs else none
  |_=>none
 |_=>none
theorem intsA_rep{c:Ctx}{m:Nat→Value}{s:St}{a:Act}{w:World}(h:SRep c m s a w){v:AV}{u:Value}{k:IntKind}{xs:List Int}(hv:RepV w (Forb c m s.hp) m v u)(hx:s.intsA k v=some xs):
  ∃ad cap,u= .slice ad xs.length cap∧xs.length≤cap∧(xs.map (Value.int k)≠ []→ ∃b off,ad=some ⟨b,off,none⟩∧ ∀(i:Nat) x,(xs.map (Value.int k))[i]? =some x→w.cell? ⟨b,off+i,none⟩=some x):=by
 unfold St.intsA at hx
 split at hx
 ·split at hx
  ·rename_i k' ys cc hk
   subst hk
   cases hx
   simp only[RepV,RepD]at hv
   obtain⟨ad,cap,h1,h2,h3,h4,_,h5⟩:=hv
   refine⟨ad,cap,h1,h2,fun hne=> ?_⟩
   obtain⟨b,off,h6,_,h7⟩:=h5 (by simpa using hne)
   refine⟨b,off,h6,fun i x hi=> ?_⟩
   rw[List.getElem?_map]at hi
   obtain⟨z,hz,rfl⟩:=Option.map_eq_some_iff.1 hi
   exact h7 i z hz
  ·cases hx
 ·cases hx
  rw[repV_v]at hv
  exact⟨none,0,by simpa using hv.1,Nat.le_refl _,by simp⟩
 ·split at hx
  ·rename_i hB
   split at hx
   ·rename_i hk
    subst hk
    cases hx
    simp only[RepV]at hv
    obtain⟨ad,cap,h1,h2,_,_,h5⟩:=(h.heap _ _ hB).1.cells
    refine⟨ad,cap,hv.1.trans h1,h2,fun hne=> ?_⟩
    obtain⟨b,o,h6,_,_,h7⟩:=h5 hne
    exact⟨b,o,h6,h7⟩
   ·cases hx
  ·cases hx
 ·cases hx
theorem rowA_rep{c:Ctx}{m:Nat→Value}{s:St}{a:Act}{w:World}(h:SRep c m s a w){v:AV}{u:Value}{n:Nat}{xs:List D}(hv:RepV w (Forb c m s.hp) m v u)(hx:s.rowA n v=some xs):
  ∃ad cap vals,u= .slice ad xs.length cap∧xs.length≤cap∧RepRow w (Forb c m s.hp) (fun v=>v.cells.size=n) xs vals∧(vals≠ []→ ∃b off,ad=some ⟨b,off,none⟩∧ ∀(i:Nat) x,vals[i]? =some x→w.cell? ⟨b,off+i,none⟩=some x):=by
 unfold St.rowA at hx
 split at hx
 ·split at hx
  ·rename_i n' ys cc hk
   subst hk
   cases hx
   simp only[RepV,RepD]at hv
   obtain⟨ad,cap,vals,h1,h2,h3,h4,_,hr,h5⟩:=hv
   refine⟨ad,cap,vals,h1,h2,hr,fun hne=> ?_⟩
   obtain⟨b,off,h6,_,h7⟩:=h5 hne
   exact⟨b,off,h6,h7⟩
  ·cases hx
 ·cases hx
  rw[repV_v]at hv
  exact⟨none,0,[],by simpa using hv.1,Nat.le_refl _,by simp only[RepRow],by simp⟩
 ·split at hx
  ·rename_i hB
   split at hx
   ·rename_i hk
    subst hk
    cases hx
    simp only[RepV]at hv
    obtain⟨vals,hown,_,hr⟩:=h.heap _ _ hB
    obtain⟨ad,cap,h1,h2,_,_,h5⟩:=hown.cells
    refine⟨ad,cap,vals,hv.1.trans h1,h2,hr,fun hne=> ?_⟩
    obtain⟨b,o,h6,_,_,h7⟩:=h5 hne
    exact⟨b,o,h6,h7⟩
   ·cases hx
  ·cases hx
 ·cases hx
theorem repD_cells_one{w:World}{F:Nat→Prop}{d:D}{v:Value}(h:RepD w F d v): ∀u∈v.cells.toList,u.oneCell'=true:=by
 have h':RepV w F (fun _=>undef) (.d d) v:=by simpa only[RepV]using h
 cases d with
 |agg cs=>exact(parts_rep h' rfl).2
 |v x=>exact(parts_rep h' rfl).2
 |ints k xs c=>exact(parts_rep h' rfl).2
 |sl n xs c=>exact(parts_rep h' rfl).2
theorem RepRow_one{w:World}{F:Nat→Prop}{n:Nat}: ∀ {xs:List D} {vals:List Value},RepRow w F (fun v=>v.cells.size=n) xs vals→ ∀u∈vals,u.oneCell'=true
 | [],vals,h=>by simp only[RepRow]at h;subst h;simp
 |d::ds,vals,h=>by
  simp only[RepRow]at h
  obtain⟨v,rest,rfl,_,h2,h3⟩:=h
  intro u hu
  rcases List.mem_append.1 hu with hu|hu
  ·exact repD_cells_one h2 u hu
  ·exact RepRow_one h3 u hu
theorem RepRow_append{w:World}{F:Nat→Prop}{c:Value→Prop}: ∀ {xs ys:List D} {us vs:List Value},RepRow w F c xs us→RepRow w F c ys vs→RepRow w F c (xs++ys) (us++vs)
 | [],ys,us,vs,h,h'=>by simp only[RepRow]at h;subst h;simpa using h'
 |d::ds,ys,us,vs,h,h'=>by
  simp only[RepRow,List.cons_append]at h ⊢
  obtain⟨v,rest,rfl,h1,h2,h3⟩:=h
  exact⟨v,rest++vs,by simp,h1,h2,RepRow_append h3 h'⟩
def capA(c:Option Nat)(n:Nat):Option Nat:=match c with|some cc=>if n≤cc then some cc else none|none=>none
def growB(s:St)(bytes:Nat)(B:Blk)(x:AV):Option Blk:=
 match B with
 | .ints e k xs c=>match s.intsA k x with
  |some ys=>if(xs.length+ys.length)*bytes≤140737488355328∧xs.length+ys.length≤maxLen then some (.ints e k (xs++ys) (capA c (xs.length+ys.length)))else none
  |none=>none
 | .row e n xs c=>match s.rowA n x with
  |some ys=>if(xs.length+ys.length)*bytes≤140737488355328∧xs.length+ys.length≤maxLen then some (.row e n (xs++ys) (capA c (xs.length+ys.length)))else none
  |none=>none
 |_=>none
def Blk.elem:Blk→TypeId
 | .box e _=>e
 | .ints e _ _ _=>e
 | .row e _ _ _=>e
 | .map _=>0
 | .vrow e _=>e
def Blk.isRow(n:Nat):Blk→Bool
 | .ints _ _ _ _=>n==1
 | .row _ n' _ _=>n==n'
 |_=>false
def emptyB(P:Program)(t:TypeId):Option Blk:=
 match appT P t with
 |some (e,n,_)=>match intT P e with
  |some k=>if n=1 then some (.ints e k [] (some 0))else none
  |none=>some (.row e n [] (some 0))
 |none=>none
def isEmptyA:AV→Bool
 | .d (.v (.slice none 0 0))=>true
 | .d (.ints _ [] (some 0))=>true
 | .d (.sl _ [] (some 0))=>true
 |_=>false
theorem capIs_grow{c:Option Nat}{v v':Value}{l k:Nat}(hc:CapIs c v)(h: ∀a0 l0 cap,v= .slice a0 l0 cap→l+k≤cap→ ∃a1,v'= .slice a1 (l+k) cap):CapIs (capA c (l+k)) v':=by
 intro n hn
 unfold capA at hn
 split at hn
 ·rename_i cc
  split at hn
  ·rename_i hle
   cases hn
   obtain⟨a,l',hv⟩:=hc n rfl
   obtain⟨a1,h1⟩:=h a l' n hv hle
   exact⟨a1,_,h1⟩
  ·cases hn
 ·cases hn
theorem SRep.append{P:Program}{c:Ctx}{m:Nat→Value}{s:St}{a:Act}{w:World}(h:SRep c m s a w){t ty e n by' κ:Nat}{B B':Blk}{x:AV}{u:Value}(hT:appT P t=some (e,n,by'))(hB:gt κ s.hp=some B)(hrow:B.isRow n=true)(he:B.elem=e)
  (hg:growB s by' B x=some B')(hx:RepV w (Forb c m s.hp) m x u):
  ∃v' w',(Builtin.append_ #[t,t] ty #[m κ,u]).run P w= .ok v' w'∧SRep c (upm m κ v') (s.setB true κ B') a w'∧v'.oneCell'=true:=by
 have hself:=h.heap κ B hB
 have hpin:c.pin κ=none:=by
  cases hp:c.pin κ with
  |none=>rfl
  |some v=>
   exfalso
   obtain⟨_,b,rfl⟩:=h.pinp κ v hp
   have e0:=h.pin κ _ hp
   cases B with
   |box e' cs=>simp[Blk.isRow]at hrow
   |map kvs=>simp[Blk.isRow]at hrow
   |vrow e' xs=>simp[Blk.isRow]at hrow
   |ints e' k xs cc=>
    obtain⟨ad,cap,h1,_⟩:=hself.1.cells
    rw[h1]at e0;cases e0
   |row e' n' xs cc=>
    obtain⟨vals,hown,_⟩:=hself
    obtain⟨ad,cap,h1,_⟩:=hown.cells
    rw[h1]at e0;cases e0
 cases B with
 |map kvs=>simp[growB]at hg
 |vrow e' xs=>simp[growB]at hg
 |box e' cs=>simp[growB]at hg
 |ints e' k xs cc=>
  simp only[Blk.isRow,beq_iff_eq]at hrow
  subst hrow
  simp only[Blk.elem]at he
  subst he
  simp only[growB]at hg
  split at hg
  ·rename_i ys hys
   split at hg
   ·rename_i hb
    cases hg
    obtain⟨ad,cap,hu,hle,hc⟩:=intsA_rep h hx hys
    obtain⟨v',w',h1,h2,h3,h4,h5⟩:=run_appendA (P:=P) (ty:=ty) hT hself.1 (c:=cap) (k:=ys.length) (news:=ys.map (.int k)) (by simp) hc (by intro z hz;obtain⟨q,_,rfl⟩:=List.mem_map.1 hz;rfl) hb.2 hb.1
    refine⟨v',w',by rw[hu];exact h1,?_,h2.oneCell⟩
    refine(h.setB true κ _ v' (.inl rfl) (.inl hpin) (h3.mono fun b _ hb=>⟨_,hB,hb⟩) (fun b hb=>or_map (fun h=>⟨_,hB,h⟩) (h4 b hb)) ?_).1
    simp only[RepB,upm_same]
    exact⟨by simpa using h2,by simpa using capIs_grow hself.2 h5⟩
   ·cases hg
  ·cases hg
 |row e' n' xs cc=>
  simp only[Blk.isRow,beq_iff_eq]at hrow
  subst hrow
  simp only[Blk.elem]at he
  subst he
  obtain⟨vals,hown,hcap,hr⟩:=hself
  simp only[growB]at hg
  split at hg
  ·rename_i ys hys
   split at hg
   ·rename_i hb
    cases hg
    obtain⟨ad,cap,news,hu,hle,hr2,hc⟩:=rowA_rep h hx hys
    obtain⟨v',w',h1,h2,h3,h4,h5⟩:=run_appendA (P:=P) (ty:=ty) hT hown (c:=cap) (k:=ys.length) (news:=news) (RepRow_get hr2).1 hc (RepRow_one hr2) hb.2 hb.1
    refine⟨v',w',by rw[hu];exact h1,?_,h2.oneCell⟩
    have hfr:=h3.mono (S':=fun b=> ∃B0,gt κ s.hp=some B0∧blkOf (m κ)=some b) fun b _ hb=>⟨_,hB,hb⟩
    have hblk: ∀b,blkOf v'=some b→(∃B0,gt κ s.hp=some B0∧blkOf (m κ)=some b)∨w.heap.size≤b:=fun b hb=>or_map (fun h=>⟨_,hB,h⟩) (h4 b hb)
    have hk:=h.setB_kept true κ (.row e' n (xs++ys) (capA cc (xs.length+ys.length))) v' hfr hblk
    refine(h.setB true κ _ v' (.inl rfl) (.inl hpin) hfr hblk ?_).1
    simp only[RepB,upm_same]
    exact⟨_,by simpa using h2,by simpa using capIs_grow hcap h5,RepRow_append (RepRow.kept hk _ _ hr) (RepRow.kept hk _ _ hr2)⟩
   ·cases hg
  ·cases hg
def growD(s:St)(e n bytes:Nat)(x y:AV):Option Blk:=
 match x with
 | .d (.ints k xs (some c))=>match s.intsA k y with
  |some ys=>if n=1∧0<xs.length∧c<xs.length+ys.length∧(xs.length+ys.length)*bytes≤140737488355328∧xs.length+ys.length≤maxLen then some (.ints e k (xs++ys) none)else none
  |none=>none
 | .d (.sl n' xs (some c))=>match s.rowA n y with
  |some ys=>if n'=n∧0<xs.length∧c<xs.length+ys.length∧(xs.length+ys.length)*bytes≤140737488355328∧xs.length+ys.length≤maxLen then some (.row e n (xs++ys) none)else none
  |none=>none
 |_=>none
theorem SRep.appendD{P:Program}{c:Ctx}{m:Nat→Value}{s:St}{a:Act}{w:World}(h:SRep c m s a w){t ty e n by' κ:Nat}{B':Blk}{x y:AV}{u v:Value}(hT:appT P t=some (e,n,by'))(h16:16≤κ)
  (hg:growD s e n by' x y=some B')(hx:RepV w (Forb c m s.hp) m x u)(hy:RepV w (Forb c m s.hp) m y v):
  ∃v' w',(Builtin.append_ #[t,t] ty #[u,v]).run P w= .ok v' w'∧SRep c (upm m κ v') (s.setB true κ B') a w'∧v'.oneCell'=true:=by
 have hpin:c.pin κ=none:=h.nopin h16
 unfold growD at hg
 split at hg
 ·rename_i k xs cc
  split at hg
  ·rename_i ys hys
   split at hg
   ·rename_i hb
    cases hg
    obtain⟨rfl,hp0,hlt,hb1,hb2⟩:=hb
    simp only[RepV,RepD]at hx
    obtain⟨a0,cap0,h1,h2,h3,h4,hcap,h5⟩:=hx
    have hcap:=hcap cc rfl
    obtain⟨ad,cap,hu,hle,hc⟩:=intsA_rep h hy hys
    obtain⟨v',w',r1,r2,r3,r4⟩:=run_appendD (P:=P) (ty:=ty) hT (a0:=a0) (l:=xs.length) (cap:=cap0) (xs:=xs.map (.int k)) (by simp) (fun hne=>by
     obtain⟨b,off,h6,_,h7⟩:=h5 (by simpa using hne)
     refine⟨b,off,h6,fun i x hi=> ?_⟩
     rw[List.getElem?_map]at hi
     obtain⟨z,hz,rfl⟩:=Option.map_eq_some_iff.1 hi
     exact h7 i z hz) hp0 (a:=ad) (c:=cap) (k:=ys.length) (news:=ys.map (.int k)) (by simp) hc h2 (by omega) hb2 hb1
    refine⟨v',w',by rw[hu,h1];exact r1,?_,r2.oneCell⟩
    refine(h.setB true κ _ v' (.inl rfl) (.inl hpin) (r3.mono fun b _ hb=>hb.elim) (fun b hb=> .inr (r4 b hb)) ?_).1
    simp only[RepB,upm_same]
    exact⟨by simpa using r2,fun q hq=>by cases hq⟩
   ·cases hg
  ·cases hg
 ·rename_i n' xs cc
  split at hg
  ·rename_i ys hys
   split at hg
   ·rename_i hb
    cases hg
    obtain⟨rfl,hp0,hlt,hb1,hb2⟩:=hb
    simp only[RepV,RepD]at hx
    obtain⟨a0,cap0,vals,h1,h2,h3,h4,hcap,hr,h5⟩:=hx
    have hcap:=hcap cc rfl
    obtain⟨ad,cap,news,hu,hle,hr2,hc⟩:=rowA_rep h hy hys
    obtain⟨v',w',r1,r2,r3,r4⟩:=run_appendD (P:=P) (ty:=ty) hT (a0:=a0) (l:=xs.length) (cap:=cap0) (xs:=vals) (RepRow_get hr).1 (fun hne=>by
     obtain⟨b,off,h6,_,h7⟩:=h5 hne
     exact⟨b,off,h6,h7⟩) hp0 (a:=ad) (c:=cap) (k:=ys.length) (news:=news) (RepRow_get hr2).1 hc h2 (by omega) hb2 hb1
    refine⟨v',w',by rw[hu,h1];exact r1,?_,r2.oneCell⟩
    have hfr:=r3.mono (S':=fun b=> ∃B0,gt κ s.hp=some B0∧blkOf (m κ)=some b) fun b _ hb=>hb.elim
    have hblk: ∀b,blkOf v'=some b→(∃B0,gt κ s.hp=some B0∧blkOf (m κ)=some b)∨w.heap.size≤b:=fun b hb=> .inr (r4 b hb)
    have hk:=h.setB_kept true κ (.row e n' (xs++ys) none) v' hfr hblk
    refine(h.setB true κ _ v' (.inl rfl) (.inl hpin) hfr hblk ?_).1
    simp only[RepB,upm_same]
    exact⟨_,by simpa using r2,(fun q hq=>by cases hq),RepRow_append (RepRow.kept hk _ _ hr) (RepRow.kept hk _ _ hr2)⟩
   ·cases hg
  ·cases hg
 ·cases hg
theorem emptyB_parts{P:Program}{t:TypeId}{B:Blk}(h:emptyB P t=some B): ∃e n by',appT P t=some (e,n,by')∧B.isRow n=true∧B.elem=e∧((∃e k,B= .ints e k [] (some 0))∨(∃e n,B= .row e n [] (some 0))):=by
 unfold emptyB at h
 split at h
 ·rename_i e n by' hT
  refine⟨e,n,by',hT,?_⟩
  split at h
  ·rename_i k hk
   split at h
   ·rename_i hn
    cases h;subst hn
    exact⟨rfl,rfl,.inl ⟨e,k,rfl⟩⟩
   ·cases h
  ·cases h
   exact⟨by simp[Blk.isRow],rfl,.inr ⟨e,n,rfl⟩⟩
 ·cases h
theorem isEmptyA_val{w:World}{F:Nat→Prop}{m:Nat→Value}{x:AV}{u:Value}(h:RepV w F m x u)(hx:isEmptyA x=true): ∃ad,u= .slice ad 0 0:=by
 unfold isEmptyA at hx
 split at hx
 ·rw[repV_v]at h;exact⟨none,h.1⟩
 ·simp only[RepV,RepD]at h
  obtain⟨ad,cap,h1,_,_,_,h5,_⟩:=h
  have:=h5 0 rfl;subst this
  exact⟨ad,by simpa using h1⟩
 ·simp only[RepV,RepD]at h
  obtain⟨ad,cap,vals,h1,_,_,_,h5,_⟩:=h
  have:=h5 0 rfl;subst this
  exact⟨ad,by simpa using h1⟩
 ·cases hx
def toDs:List AV→Option (List D)
 | []=>some []
 |v::l=>match v.toD,toDs l with
  |some x,some r=>some (x::r)
  |_,_=>none
def idxOk:Nat→List (Nat×AV)→Bool
 |_,[]=>true
 |i,(j,_)::l=>i==j&&idxOk (i+1) l
def litB(P:Program)(t:TypeId)(n:Nat)(ps:List (Nat×AV)):Option Blk:=
 match appT P t,elemT P t with
 |some (e,sz,_),some (_,_,g)=>if ps.length=n∧idxOk 0 ps∧n*sz≤16777216∧n≤maxLen then
   match toDs (ps.map (·.2))with
   |some ds=>match intT P e with
    |some k=>if sz=1 then omap (intsOf k ds) fun xs=> .ints e k xs (some n)else none
    |none=>if ds.all (fun d=>d.size==sz)then some (.row e sz ds (some n))else none
   |none=>none
  else none
 |_,_=>none
theorem fill_one{size:Nat}{zs:Array Value}{i:Nat}{u:Value}{rest:List (Nat×Value)}(hs:u.cells.size=size)(hb:i*size+size≤zs.size):
  ∃zs':Array Value,zs'.toList=zs.toList.take (i*size)++u.cells.toList++zs.toList.drop (i*size+size)∧Instr.fill (fun i=>some (i*size,size)) zs ((i,u)::rest)=Instr.fill (fun i=>some (i*size,size)) zs' rest:=by
 refine⟨u.cells.zipIdx.foldl (fun cs (c,j)=>cs.setIfInBounds (i*size+j) c) zs,?_,?_⟩
 ·have e:u.cells.zipIdx.foldl (fun cs (c,j)=>cs.setIfInBounds (i*size+j) c) zs=(u.cells.toList.zipIdx 0).foldl (fun(cs:Array Value) (p:Value×Nat)=>cs.setIfInBounds (i*size+p.2) p.1) zs:=by
   rw[←Array.foldl_toList,Array.toList_zipIdx]
  rw[e,fold_set u.cells.toList 0 (i*size) zs (by simp;omega)]
  simp[hs]
 ·rw[Instr.fill]
  have hb':(u.cells.size≠size||decide (i*size+u.cells.size>zs.size))=false:=by
   simp;omega
  simp only[hb']
  rfl
theorem fill_seq{size:Nat}: ∀(us:List Value) (i0:Nat) (zs:Array Value),zs.size=(i0+us.length)*size→(∀u∈us,u.cells.size=size)→
  ∃zs':Array Value,Instr.fill (fun i=>some (i*size,size)) zs ((us.zipIdx i0).map fun p=>(p.2,p.1))=some zs'∧zs'.toList=zs.toList.take (i0*size)++us.flatMap (fun u=>u.cells.toList)
 | [],i0,zs,hz,_=>by
  refine⟨zs,rfl,?_⟩
  simp only[List.flatMap_nil,List.append_nil]
  rw[List.take_of_length_le (by simp only[Array.length_toList,hz,List.length_nil,Nat.add_zero];exact Nat.le_refl _)]
 |u::us,i0,zs,hz,h1=>by
  have hs:=h1 u (by simp)
  have hle:i0*size+size≤zs.size:=by
   rw[hz,List.length_cons]
   have:(i0+1)*size≤(i0+(us.length+1))*size:=Nat.mul_le_mul_right _ (by omega)
   rw[Nat.add_mul]at this;omega
  obtain⟨z1,e1,e2⟩:=fill_one (rest:=(us.zipIdx (i0+1)).map fun p=>(p.2,p.1)) hs hle
  rw[List.zipIdx_cons,List.map_cons,e2]
  have hl:z1.toList.length=zs.size:=by
   rw[e1]
   simp only[List.length_append,List.length_take,List.length_drop,Array.length_toList,hs]
   omega
  have hl':z1.size=zs.size:=by simpa using hl
  obtain⟨z2,e3,e4⟩:=fill_seq us (i0+1) z1 (by rw[hl',hz,List.length_cons];congr 1;omega) (fun v hv=>h1 v (by simp[hv]))
  refine⟨z2,e3,?_⟩
  rw[e4,e1,List.flatMap_cons]
  have e5:((i0+1)*size)=(zs.toList.take (i0*size)++u.cells.toList).length:=by
   simp only[List.length_append,List.length_take,Array.length_toList,hs]
   rw[Nat.add_mul,Nat.one_mul];omega
  rw[e5,List.take_left]
  simp
theorem toDs_row{w:World}{F:Nat→Prop}{m:Nat→Value}{n:Nat}: ∀ {vs:List AV} {us:List Value} {ds:List D},toDs vs=some ds→RepVs w F m vs us→(∀d∈ds,d.size=n)→RepRow w F (fun v=>v.cells.size=n) ds (us.flatMap fun u=>u.cells.toList)∧(∀u∈us,u.cells.size=n)∧ds.length=us.length
 | [],us,ds,h,hr,_=>by
  simp only[toDs,Option.some.injEq]at h;subst h
  simp only[RepVs]at hr;subst hr
  simp[RepRow]
 |v::vs,us,ds,h,hr,hn=>by
  simp only[toDs]at h
  split at h
  ·rename_i x r hx hxr
   cases h
   simp only[RepVs]at hr
   obtain⟨u,rest,rfl,h1,h2⟩:=hr
   have hd:=toD_rep h1 hx
   obtain⟨i1,i2,i3⟩:=toDs_row hxr h2 (fun d hd=>hn d (by simp[hd]))
   have hsz:u.cells.size=n:=by
    rw[←hn x (by simp)]
    cases hxa:x.isAgg with
    |true=>
     obtain⟨us',rfl,hl⟩:=repD_agg hd hxa
     simpa[Value.cells]using hl
    |false=>
     rw[cells_one (repD_notAgg hd hxa)]
     cases x<;>first|rfl|simp[D.isAgg]at hxa
   refine⟨?_,?_,by simp[i3]⟩
   ·simp only[RepRow,List.flatMap_cons]
    exact⟨u,_,rfl,hsz,hd,i1⟩
   ·intro z hz
    rcases List.mem_cons.1 hz with rfl|hz
    ·exact hsz
    ·exact i2 z hz
  ·cases h
theorem intsOf_vals{w:World}{F:Nat→Prop}{k:IntKind}: ∀ {ds:List D} {xs:List Int} {vals:List Value},intsOf k ds=some xs→RepRow w F (fun v=>v.cells.size=1) ds vals→vals=xs.map (.int k)∧xs.length=ds.length
 | [],xs,vals,h,hr=>by
  simp only[intsOf,Option.some.injEq]at h;subst h
  simp only[RepRow]at hr;subst hr;simp
 |d::ds,xs,vals,h,hr=>by
  unfold intsOf at h
  split at h
  ·rename_i heq;cases heq
  ·rename_i k' x l heq
   cases heq
   split at h
   ·rename_i hk
    subst hk
    obtain⟨r,hr1,rfl⟩:=Option.map_eq_some_iff.1 h
    simp only[RepRow,RepD]at hr
    obtain⟨v,rest,rfl,_,⟨rfl,_⟩,h3⟩:=hr
    obtain⟨e1,e2⟩:=intsOf_vals hr1 h3
    subst e1
    exact⟨by simp[Value.cells],by simp[e2]⟩
   ·cases h
  ·cases h
theorem intsOf_size{k:IntKind}: ∀ {ds:List D} {xs:List Int},intsOf k ds=some xs→ ∀d∈ds,d.size=1
 | [],xs,_=>by simp
 |d::ds,xs,h=>by
  unfold intsOf at h
  split at h
  ·rename_i heq;cases heq
  ·rename_i k' x l heq
   cases heq
   split at h
   ·obtain⟨r,hr1,rfl⟩:=Option.map_eq_some_iff.1 h
    intro d hd
    rcases List.mem_cons.1 hd with rfl|hd
    ·rfl
    ·exact intsOf_size hr1 d hd
   ·cases h
  ·cases h
theorem idx_zip{ps:List (Nat×AV)}: ∀ {i:Nat} {us:List (Nat×Value)},idxOk i ps=true→ps.length=us.length→(∀(j:Nat) i v,ps[j]? =some (i,v)→ ∃u,us[j]? =some (i,u))→us=((us.map (·.2)).zipIdx i).map fun p=>(p.2,p.1):=by
 induction ps with
 |nil=>
  intro i us _ hl _
  have:us= []:=List.eq_nil_of_length_eq_zero hl.symm
  subst this;rfl
 |cons p ps ih=>
  intro i us hi hl h
  obtain⟨j,v⟩:=p
  simp only[idxOk,Bool.and_eq_true,beq_iff_eq]at hi
  obtain⟨rfl,hi⟩:=hi
  cases us with
  |nil=>simp at hl
  |cons q us=>
   obtain⟨u,hu⟩:=h 0 i v rfl
   simp at hu;subst hu
   rw[List.map_cons,List.zipIdx_cons,List.map_cons]
   congr 1
   exact ih hi (by simpa using hl) (fun j i' v' hj=>by
    obtain⟨u',hu'⟩:=h (j+1) i' v' (by simpa using hj)
    exact⟨u',by simpa using hu'⟩)
theorem SRep.litB{P:Program}{c:Ctx}{m:Nat→Value}{s:St}{a:Act}{w:World}(h:SRep c m s a w){t n κ:Nat}(h16:16≤κ){l:List (Nat×Operand)}{ps:List (Nat×AV)}{B:Blk}(hp:s.evP l=some ps)(hB:litB P t n ps=some B):
  ∃v w',(Instr.buildSlice t n (l.map fun p=>(p.1,a.eval p.2)).toArray).run P w= .ok v w'∧SRep c (upm m κ v) (s.setB true κ B) a w'∧v.oneCell'=true:=by
 obtain⟨e1,e2⟩:=evP_rep h hp
 unfold Go.Proofs.Ytngghkoghbpceaa.litB at hB
 split at hB
 ·rename_i e sz by' e' n' g hT hE
  obtain⟨i,z,hu,hi,hz,hzs,hs,hby,hn0⟩:=appT_parts hT
  obtain⟨hu',hsz,hg,_⟩:=elemT_parts hE
  rw[hu]at hu';simp at hu';subst hu'
  have hnn:sz=n':=by unfold szT at hsz;rw[hi]at hsz;simp at hsz;omega
  subst hnn
  split at hB
  ·rename_i hcond
   obtain⟨hlen,hidx,hbig,hmax⟩:=hcond
   split at hB
   ·rename_i ds hds
    have hz':=idx_zip hidx e1 (fun j i v hj=>by obtain⟨u,hu,_⟩:=e2 j i v hj;exact⟨u,hu⟩)
    have hrep:RepVs w (Forb c m s.hp) m (ps.map (·.2)) (l.map fun p=>a.eval p.2):=by
     rw[RepVs_iff]
     refine⟨by simpa using e1,fun j v hj=> ?_⟩
     rw[List.getElem?_map]at hj
     obtain⟨⟨i',v'⟩,h1,rfl⟩:=Option.map_eq_some_iff.1 hj
     obtain⟨u,h2,h3⟩:=e2 j i' v' h1
     rw[List.getElem?_map]at h2
     obtain⟨q,h4,h5⟩:=Option.map_eq_some_iff.1 h2
     refine⟨u,?_,h3⟩
     rw[List.getElem?_map,h4]
     simp only[Option.map_some,Option.some.injEq]
     simp only[Prod.mk.injEq]at h5
     exact h5.2
    have hvals:((l.map fun p=>(p.1,a.eval p.2)).map (·.2))=l.map fun p=>a.eval p.2:=by simp
    rw[hvals]at hz'
    have hll:(l.map fun p=>a.eval p.2).length=n:=by rw[←hlen];simpa using e1.symm
    have run: ∀(hsize: ∀d∈ds,d.size=sz),∃cells:Array Value,cells.toList=(l.map fun p=>a.eval p.2).flatMap (fun u=>u.cells.toList)∧(Instr.buildSlice t n (l.map fun p=>(p.1,a.eval p.2)).toArray).run P w= .ok (.slice (some ⟨w.heap.size,0,none⟩) n n) (w.alloc (.cells cells e)):=by
     intro hsize
     obtain⟨r1,r2,r3⟩:=toDs_row hds hrep hsize
     obtain⟨zs',f1,f2⟩:=fill_seq (size:=sz) (l.map fun p=>a.eval p.2) 0 ((Array.range (n*sz)).map (fun j=>z.cells[j % z.cells.size]!)) (by simp[←hll]) r2
     rw[←hz']at f1
     refine⟨zs',by simpa using f2,?_⟩
     have hnz:n*sz=0→n=0:=fun h0=>by
      rcases Nat.mul_eq_zero.1 h0 with h0|h0
      ·exact h0
      ·omega
     unfold Instr.buildSlice
     simp only[Sem.run_bind,run_underlying hu,Result.andThen_ok,run_sizeOf' hsz]
     have hnb: ¬(n*sz>2 ^ 24):=by omega
     rw[if_neg hnb]
     by_cases h0:n*sz=0
     ·have hn':=hnz h0
      subst hn'
      have hl0:l= []:=by simpa using hll
      subst hl0
      have hz0:zs'= #[]:=by apply Array.ext';simpa using f2
      subst hz0
      have hr0:Array.range 0= #[]:=rfl
      simp[Instr.fill,Go.newRow,newObj,Sem.run,hr0]
     ·rw[if_neg h0]
      simp only[Sem.run_bind]
      have hzv:(zeroValue e).run P w= .ok z w:=by simp[zeroValue,typeInfo,hi,hz]
      simp only[hzv,Result.andThen_ok,Sem.run_pure]
      rw[f1]
      simp[Go.newRow,newObj,Sem.run]
    split at hB
    ·rename_i k hk
     split at hB
     ·rename_i hs1
      subst hs1
      obtain⟨xs,hxs,rfl⟩:=Option.map_eq_some_iff.1 hB
      obtain⟨cells,c1,c2⟩:=run (intsOf_size hxs)
      obtain⟨r1,r2,r3⟩:=toDs_row hds hrep (intsOf_size hxs)
      obtain⟨v1,v2⟩:=intsOf_vals hxs r1
      refine⟨_,_,c2,?_,rfl⟩
      have hxl:xs.length=n:=by rw[v2,r3,hll]
      refine h.newRow κ h16 _ _ (Fr.alloc _ _ _) (fun b hb=>by simp only[blkOf]at hb;split at hb<;>simp at hb;omega) (.inl ⟨e,k,xs,some n,rfl,⟨by simp,?_⟩,fun q hq=>by cases hq;exact⟨_,_,rfl⟩⟩)
      rcases Nat.eq_zero_or_pos n with h0|h0
      ·left;rw[hxl,h0];exact⟨rfl,_,rfl⟩
      ·right
       refine⟨w.heap.size,0,n,cells,by rw[hxl],h0,heap_alloc_new w _,by omega,hmax,?_,?_⟩
       ·have:cells.toList.length=n*1:=by rw[c1,v1];simp[hxl]
        rw[Nat.zero_add];exact Nat.le_of_eq (by simpa using this.symm)
       ·rw[List.drop_zero,c1,v1,List.take_of_length_le (by simp)]
     ·cases hB
    ·split at hB
     ·rename_i hall
      cases hB
      have hsize: ∀d∈ds,d.size=sz:=fun d hd=>by simpa using List.all_eq_true.1 hall d hd
      obtain⟨cells,c1,c2⟩:=run hsize
      obtain⟨r1,r2,r3⟩:=toDs_row hds hrep hsize
      refine⟨_,_,c2,?_,rfl⟩
      have hxl:ds.length=n:=by rw[r3,hll]
      have hrl:=(RepRow_get r1).1
      refine h.newRow κ h16 _ _ (Fr.alloc _ _ _) (fun b hb=>by simp only[blkOf]at hb;split at hb<;>simp at hb;omega) (.inr ⟨e,sz,ds,some n,_,rfl,⟨hrl,?_⟩,fun q hq=>by cases hq;exact⟨_,_,rfl⟩,r1⟩)
      rcases Nat.eq_zero_or_pos n with h0|h0
      ·left;rw[hxl,h0];exact⟨rfl,_,rfl⟩
      ·right
       refine⟨w.heap.size,0,n,cells,by rw[hxl],h0,heap_alloc_new w _,by omega,hmax,?_,?_⟩
       ·have:cells.toList.length=n*sz:=by rw[c1,hrl,hxl]
        rw[Nat.zero_add];exact Nat.le_of_eq (by simpa using this.symm)
       ·rw[List.drop_zero,c1,List.take_of_length_le (by rw[hrl];exact Nat.le_refl _)]
     ·cases hB
   ·cases hB
  ·cases hB
 ·cases hB
def AV.oneA:AV→Bool
 | .ptr _ _=>true
 | .own _=>true
 | .pel _ _=>true
 | .wrap _ _=>true
 | .d (.v _)=>true
 |_=>false
theorem oneA_rep{w:World}{F:Nat→Prop}{m:Nat→Value}{v:AV}{u:Value}(h:RepV w F m v u)(h1:v.oneA=true):u.oneCell'=true:=by
 cases v with
 |d x=>
  cases x with
  |v x=>exact repV_one h rfl (by intro vs e;cases e) (by intro e;cases e)
  |_=>simp[AV.oneA]at h1
 |ptr κ o=>exact repV_one h rfl (by intro vs e;cases e) (by intro e;cases e)
 |own κ=>exact repV_one h rfl (by intro vs e;cases e) (by intro e;cases e)
 |pel κ o=>exact repV_one h rfl (by intro vs e;cases e) (by intro e;cases e)
 |wrap k v=>exact repV_one h rfl (by intro vs e;cases e) (by intro e;cases e)
 |_=>simp[AV.oneA]at h1
theorem SRep.newV{c:Ctx}{m:Nat→Value}{s:St}{a:Act}{w w':World}(h:SRep c m s a w)(κ:Nat)(hpin:c.pin κ=none)(e:TypeId){u:Value}{vs:List AV}{vals:List Value}(hfr:Fr (fun b=> ∃B0,gt κ s.hp=some B0∧blkOf (m κ)=some b) w w')
  (hu: ∀b,blkOf u=some b→(∃B0,gt κ s.hp=some B0∧blkOf (m κ)=some b)∨w.heap.size≤b)(hown:VRow w' e u vals)(hr:RepVs w (Forb c m s.hp) m vs vals)(h1: ∀v∈vals,v.oneCell'=true):
  SRep c (upm m κ u) (s.setB true κ (.vrow e (killVs κ vs))) a w':=by
 have hk:=h.setB_kept true κ (.vrow e (killVs κ vs)) u hfr hu
 refine(h.setB true κ _ u (.inl rfl) (.inl hpin) hfr hu ?_).1
 simp only[RepB,upm_same]
 exact⟨vals,hown,RepVs.kill (fun j hj=>upm_ne _ _ hj) _ _ (RepVs.kept hk hfr.size _ _ hr),h1⟩
theorem killVs_len(κ:Nat): ∀vs:List AV,(killVs κ vs).length=vs.length
 | []=>rfl
 |v::vs=>by simp only[killVs,List.length_cons,killVs_len κ vs]
def vlenB:Blk→Nat
 | .vrow _ xs=>xs.length
 |_=>0
def isV:Blk→Bool
 | .vrow _ _=>true
 |_=>false
def valB(κ:Nat):Blk→AV
 | .vrow _ xs=> .wrap (.sl xs.length) (.own κ)
 |_=> .own κ
def litV(P:Program)(κ:Nat)(t:TypeId)(n:Nat)(ps:List (Nat×AV)):Option Blk:=
 match appT P t,elemT P t with
 |some (e,sz,_),some (_,_,_)=>if sz=1∧ps.length=n∧idxOk 0 ps=true∧n≤16777216∧n≤maxLen∧0<n∧ps.all (fun p=>p.2.oneA)=true then some (.vrow e (killVs κ (ps.map (·.2))))else none
 |_,_=>none
theorem SRep.litV{P:Program}{c:Ctx}{m:Nat→Value}{s:St}{a:Act}{w:World}(h:SRep c m s a w){t n κ:Nat}(h16:16≤κ){l:List (Nat×Operand)}{ps:List (Nat×AV)}{B:Blk}(hp:s.evP l=some ps)(hB:litV P κ t n ps=some B):
  ∃v w' q,(Instr.buildSlice t n (l.map fun p=>(p.1,a.eval p.2)).toArray).run P w= .ok v w'∧SRep c (upm m κ q) (s.setB true κ B) a w'∧v=Wr.val (.sl (vlenB B)) q∧q.oneCell'=true∧isV B=true:=by
 obtain⟨e1,e2⟩:=evP_rep h hp
 unfold Go.Proofs.Ytngghkoghbpceaa.litV at hB
 split at hB
 ·rename_i e sz by' e' n' g hT hE
  obtain⟨i,z,hu,hi,hz,hzs,hs,hby,hn0⟩:=appT_parts hT
  obtain⟨hu',hsz,hg,_⟩:=elemT_parts hE
  rw[hu]at hu';simp at hu';subst hu'
  have hnn:sz=n':=by unfold szT at hsz;rw[hi]at hsz;simp at hsz;omega
  subst hnn
  split at hB
  ·rename_i hcond
   obtain⟨rfl,hlen,hidx,hbig,hmax,hpos,hone⟩:=hcond
   cases hB
   have hz':=idx_zip hidx e1 (fun j i v hj=>by obtain⟨u,hu,_⟩:=e2 j i v hj;exact⟨u,hu⟩)
   have hrep:RepVs w (Forb c m s.hp) m (ps.map (·.2)) (l.map fun p=>a.eval p.2):=by
    rw[RepVs_iff]
    refine⟨by simpa using e1,fun j v hj=> ?_⟩
    rw[List.getElem?_map]at hj
    obtain⟨⟨i',v'⟩,h1,rfl⟩:=Option.map_eq_some_iff.1 hj
    obtain⟨u,h2,h3⟩:=e2 j i' v' h1
    rw[List.getElem?_map]at h2
    obtain⟨q,h4,h5⟩:=Option.map_eq_some_iff.1 h2
    refine⟨u,?_,h3⟩
    rw[List.getElem?_map,h4]
    simp only[Option.map_some,Option.some.injEq]
    simp only[Prod.mk.injEq]at h5
    exact h5.2
   have hvals:((l.map fun p=>(p.1,a.eval p.2)).map (·.2))=l.map fun p=>a.eval p.2:=by simp
   rw[hvals]at hz'
   have hll:(l.map fun p=>a.eval p.2).length=n:=by rw[←hlen];simpa using e1.symm
   have h1: ∀u∈(l.map fun p=>a.eval p.2),u.oneCell'=true:=by
    intro u hu
    obtain⟨j,hj⟩:=List.getElem?_of_mem hu
    obtain⟨hl2,hget⟩:=RepVs_iff.1 hrep
    have hjl:j<(ps.map (·.2)).length:=by rw[hl2];exact(List.getElem?_eq_some_iff.1 hj).1
    obtain⟨u',h3,h4⟩:=hget j _ (List.getElem?_eq_getElem hjl)
    rw[hj]at h3;cases h3
    refine oneA_rep h4 ?_
    obtain⟨p,hp1,hp2⟩:=List.mem_map.1 (List.getElem_mem hjl)
    rw[←hp2]
    exact List.all_eq_true.1 hone p hp1
   have r2: ∀u∈(l.map fun p=>a.eval p.2),u.cells.size=1:=fun u hu=>by rw[cells_one (h1 u hu)];rfl
   have hfl: ∀us:List Value,(∀u∈us,u.oneCell'=true)→us.flatMap (fun u=>u.cells.toList)=us:=by
    intro us
    induction us with
    |nil=>intro _;rfl
    |cons u us ih=>intro hh;rw[List.flatMap_cons,ih (fun v hv=>hh v (by simp[hv])),cells_one (hh u (by simp))];rfl
   obtain⟨zs',f1,f2⟩:=fill_seq (size:=1) (l.map fun p=>a.eval p.2) 0 ((Array.range (n*1)).map (fun j=>z.cells[j % z.cells.size]!)) (by simp[←hll]) r2
   rw[←hz']at f1
   rw[hfl _ h1]at f2
   have f2:zs'.toList=l.map fun p=>a.eval p.2:=by simpa using f2
   have hzl:zs'.size=n:=by have:=congrArg List.length f2;rw[hll]at this;simpa using this
   have hrun:(Instr.buildSlice t n (l.map fun p=>(p.1,a.eval p.2)).toArray).run P w= .ok (.slice (some ⟨w.heap.size,0,none⟩) n n) (w.alloc (.cells zs' e)):=by
    unfold Instr.buildSlice
    simp only[Sem.run_bind,run_underlying hu,Result.andThen_ok,run_sizeOf' hsz]
    have hnb: ¬(n*1>2 ^ 24):=by omega
    rw[if_neg hnb,if_neg (by omega)]
    simp only[Sem.run_bind]
    have hzv:(zeroValue e).run P w= .ok z w:=by simp[zeroValue,typeInfo,hi,hz]
    simp only[hzv,Result.andThen_ok,Sem.run_pure]
    rw[f1]
    simp[Go.newRow,newObj,Sem.run]
   refine⟨_,_,.pointer (some ⟨w.heap.size,n,some 0⟩),hrun,h.newV κ (h.nopin h16) e (Fr.alloc _ _ _) (fun b hb=> .inr (by simp only[blkOf,Option.some.injEq]at hb;omega)) (vals:=l.map fun p=>a.eval p.2) ?_ hrep h1,?_,rfl,rfl⟩
   ·refine⟨w.heap.size,0,n,rfl,hpos,by simp,.inr ⟨w.heap.size,0,n,zs',rfl,hpos,heap_alloc_new w _,by omega,hmax,by omega,?_⟩⟩
    rw[List.drop_zero,f2,List.take_of_length_le (by simp)]
   ·simp only[Wr.val,Option.getD_some,vlenB,killVs_len,List.length_map,hlen]
  ·cases hB
 ·cases hB
def litX(P:Program)(κ:Nat)(t:TypeId)(n:Nat)(ps:List (Nat×AV)):Option Blk:=match litB P t n ps with
 |some B=>some B
 |none=>litV P κ t n ps
theorem litB_notV{P:Program}{t n:Nat}{ps:List (Nat×AV)}{B:Blk}(h:litB P t n ps=some B): ∀κ,valB κ B= .own κ:=by
 intro κ
 unfold litB at h
 split at h
 ·split at h
  ·split at h
   ·split at h
    ·split at h
     ·obtain⟨x,_,he⟩:=Option.map_eq_some_iff.1 h;rw[←he];rfl
     ·cases h
    ·split at h
     ·cases h;rfl
     ·cases h
   ·cases h
  ·cases h
 ·cases h
theorem SRep.litX{P:Program}{c:Ctx}{m:Nat→Value}{s:St}{a:Act}{w:World}(h:SRep c m s a w){t n κ:Nat}(h16:16≤κ){l:List (Nat×Operand)}{ps:List (Nat×AV)}{B:Blk}(hp:s.evP l=some ps)(hB:litX P κ t n ps=some B):
  ∃v w' q,(Instr.buildSlice t n (l.map fun p=>(p.1,a.eval p.2)).toArray).run P w= .ok v w'∧SRep c (upm m κ q) (s.setB true κ B) a w'∧ ∀w F,RepV w F (upm m κ q) (valB κ B) v:=by
 unfold Go.Proofs.Ytngghkoghbpceaa.litX at hB
 split at hB
 ·rename_i B0 hl;cases hB
  obtain⟨v,w',h1,h2,h3⟩:=h.litB h16 hp hl
  exact⟨v,w',v,h1,h2,fun w F=>by rw[litB_notV hl];simp only[RepV,upm_same,true_and];exact h3⟩
 ·obtain⟨v,w',q,h1,h2,h3,h4,h5⟩:=h.litV h16 hp hB
  refine⟨v,w',q,h1,h2,fun w F=> ?_⟩
  cases B<;>simp only[isV,Bool.false_eq_true]at h5
  simp only[valB,RepV,upm_same]
  exact⟨q,by rw[h3];rfl,rfl,h4⟩
def kO:Option Nat→Nat
 |some d=>kL d
 |none=>0
def appVB(s:St)(e n bytes κ:Nat)(x y:AV):Option Blk:=
 match y with
 | .wrap (.sl l) (.own j)=>match gt j s.hp with
  |some (.vrow _ ys)=>match x with
   | .wrap (.sl l') (.own κ')=>match gt κ' s.hp with
    |some (.vrow e' xs)=>if κ'=κ∧0<l∧l=ys.length∧l'=xs.length∧n=1∧e'=e∧(xs.length+ys.length)*bytes≤140737488355328∧xs.length+ys.length≤maxLen then some (.vrow e (killVs κ (xs++ys)))else none
    |_=>none
   |x=>if isEmptyA x=true∧0<l∧l=ys.length∧n=1∧ys.length*bytes≤140737488355328∧ys.length≤maxLen then some (.vrow e (killVs κ ys))else none
  |_=>none
 |_=>none
theorem RepVs_app{w:World}{F:Nat→Prop}{m:Nat→Value}: ∀ {xs ys:List AV} {us vs:List Value},RepVs w F m xs us→RepVs w F m ys vs→RepVs w F m (xs++ys) (us++vs)
 | [],ys,us,vs,h1,h2=>by simp only[RepVs]at h1;subst h1;exact h2
 |x::xs,ys,us,vs,h1,h2=>by
  simp only[RepVs,List.cons_append]at h1 ⊢
  obtain⟨u,rest,rfl,h3,h4⟩:=h1
  exact⟨u,rest++vs,rfl,h3,RepVs_app h4 h2⟩
theorem vrow_of{w:World}{e:TypeId}{v:Value}{n:Nat}{vals:List Value}(h:OwnRow w e 1 v n vals)(hne:vals≠ []): ∃b o cap,v= .slice (some ⟨b,o,none⟩) n cap∧VRow w e (.pointer (some ⟨b,cap,some o⟩)) vals:=by
 have hl:=h.1
 rw[Nat.mul_one]at hl
 rcases h.2 with⟨h0,_⟩|⟨g,o,cap,cur,rfl,h0,_⟩
 ·exact absurd (List.eq_nil_of_length_eq_zero (hl.trans h0)) hne
 ·subst hl
  exact⟨g,o,cap,rfl,g,o,cap,rfl,h0,h⟩
theorem SRep.appV0{P:Program}{c:Ctx}{m:Nat→Value}{s:St}{a:Act}{w:World}(h:SRep c m s a w){t ty e by' κ:Nat}{xs ys:List AV}{v0 u:Value}{vals valsy:List Value}{ad:Option Addr}{cap:Nat}(hT:appT P t=some (e,1,by'))(hpin:c.pin κ=none)
  (hS: ∀b,blkOf v0=some b→ ∃B0,gt κ s.hp=some B0∧blkOf (m κ)=some b)(hown:OwnRow w e 1 v0 vals.length vals)(hr:RepVs w (Forb c m s.hp) m xs vals)(h1: ∀v∈vals,v.oneCell'=true)
  (hu:u= .slice ad valsy.length cap)(hcell:valsy≠ []→ ∃b off,ad=some ⟨b,off,none⟩∧ ∀(i:Nat) x,valsy[i]? =some x→w.cell? ⟨b,off+i,none⟩=some x)(hrY:RepVs w (Forb c m s.hp) m ys valsy)(h1Y: ∀v∈valsy,v.oneCell'=true)
  (hne:vals++valsy≠ [])(hb1:(vals.length+valsy.length)*by'≤140737488355328)(hb2:vals.length+valsy.length≤maxLen):
  ∃v' w' q,(Builtin.append_ #[t,t] ty #[v0,u]).run P w= .ok v' w'∧SRep c (upm m κ q) (s.setB true κ (.vrow e (killVs κ (xs++ys)))) a w'∧ ∀w F,RepV w F (upm m κ q) (valB κ (.vrow e (killVs κ (xs++ys)))) v':=by
 subst hu
 obtain⟨v',w',r1,r2,r3,r4,r5⟩:=run_appendA (P:=P) (ty:=ty) hT hown (a:=ad) (k:=valsy.length) (c:=cap) (news:=valsy) (by simp) hcell h1Y hb2 hb1
 obtain⟨b,o,cap',rfl,hV⟩:=vrow_of r2 hne
 have hc0:0<cap':=by obtain⟨_,_,_,e1,h0,_⟩:=hV;cases e1;exact h0
 have hbl: ∀b',blkOf (.pointer (some ⟨b,cap',some o⟩))=some b'→blkOf (.slice (some ⟨b,o,none⟩) (vals.length+valsy.length) cap')=some b':=fun b' hb'=>by rw[blkOf_sl hc0];exact hb'
 refine⟨_,w',.pointer (some ⟨b,cap',some o⟩),r1,?_,fun w F=> ?_⟩
 ·exact h.newV κ hpin e (r3.mono fun b _ hb=>hS b hb) (fun b' hb'=>(r4 b' (hbl b' hb')).imp (fun hb=>hS b' hb) id) hV (RepVs_app hr hrY) (fun v hv=>(List.mem_append.1 hv).elim (h1 v) (h1Y v))
 ·simp only[valB,RepV,upm_same]
  refine⟨_,?_,rfl,rfl⟩
  simp only[Wr.val,Option.getD_some,killVs_len,List.length_append,(RepVs_iff.1 hr).1,(RepVs_iff.1 hrY).1]
theorem SRep.appV{P:Program}{c:Ctx}{m:Nat→Value}{s:St}{a:Act}{w:World}(h:SRep c m s a w){t ty e n by' κ:Nat}{B':Blk}{x y:AV}{u0 u:Value}(hT:appT P t=some (e,n,by'))(h16:16≤κ)
  (hg:appVB s e n by' κ x y=some B')(hx:RepV w (Forb c m s.hp) m x u0)(hy:RepV w (Forb c m s.hp) m y u):
  ∃v' w' q,(Builtin.append_ #[t,t] ty #[u0,u]).run P w= .ok v' w'∧SRep c (upm m κ q) (s.setB true κ B') a w'∧ ∀w F,RepV w F (upm m κ q) (valB κ B') v':=by
 unfold appVB at hg
 split at hg
 ·rename_i l j
  split at hg
  ·rename_i e2 ys hj
   obtain⟨valsy,⟨bY,oY,capY,hmY,hcY,hownY⟩,hrY,h1Y⟩:=h.heap j _ hj
   simp only[RepV]at hy
   obtain⟨uy,hy1,hy2,_⟩:=hy
   rw[hy2,hmY]at hy1
   simp only[Wr.val,Option.getD_some]at hy1
   have hly:=(RepVs_iff.1 hrY).1
   obtain⟨ad,cap,g1,_,_,_,g5⟩:=hownY.cells
   simp only[Value.slice.injEq,true_and]at g1
   obtain⟨rfl,rfl⟩:=g1
   have hcell:valsy≠ []→ ∃b off,(some ⟨bY,oY,none⟩:Option Addr)=some ⟨b,off,none⟩∧ ∀(i:Nat) x,valsy[i]? =some x→w.cell? ⟨b,off+i,none⟩=some x:=fun hne=>by
    obtain⟨b,o,q1,_,_,q2⟩:=g5 hne
    exact⟨b,o,q1,q2⟩
   split at hg
   ·rename_i l' κ'
    split at hg
    ·rename_i e' xs hκ
     split at hg
     ·rename_i hc
      obtain⟨rfl,hpos,rfl,rfl,rfl,rfl,hb1,hb2⟩:=hc
      cases hg
      obtain⟨valsx,⟨bX,oX,capX,hmX,hcX,hownX⟩,hrX,h1X⟩:=h.heap κ' _ hκ
      simp only[RepV]at hx
      obtain⟨ux,hx1,hx2,_⟩:=hx
      rw[hx2,hmX]at hx1
      simp only[Wr.val,Option.getD_some]at hx1
      have hlx:=(RepVs_iff.1 hrX).1
      rw[hlx,hly]at hb1 hb2
      rw[hlx]at hx1;rw[hly]at hy1 hpos
      subst hx1
      exact h.appV0 (P:=P) (t:=t) (ty:=ty) hT (h.nopin h16) (fun b hb=>⟨_,hκ,by rw[hmX];rw[blkOf_sl hcX]at hb;exact hb⟩) hownX hrX h1X hy1 hcell hrY h1Y (by intro hh;have:=congrArg List.length hh;simp at this;rw[this.2]at hpos;simp at hpos) hb1 hb2
     ·cases hg
    ·cases hg
   ·split at hg
    ·rename_i hc
     obtain⟨hemp,hpos,rfl,rfl,hb1,hb2⟩:=hc
     cases hg
     obtain⟨ad,rfl⟩:=isEmptyA_val hx hemp
     rw[hly]at hy1 hb1 hb2 hpos
     have:=h.appV0 (P:=P) (t:=t) (ty:=ty) (e:=e) (by':=by') (κ:=κ) (xs:= []) (ys:=ys) (v0:= .slice ad 0 0) (vals:= []) hT (h.nopin h16) (fun b hb=>by cases ad<;>simp[blkOf]at hb) ⟨by simp,.inl ⟨rfl,ad,rfl⟩⟩ (by simp only[RepVs]) (fun v hv=>by cases hv) hy1 hcell hrY h1Y (by intro hh;rw[List.nil_append]at hh;rw[hh]at hpos;simp at hpos) (by simpa using hb1) (by simpa using hb2)
     simpa using this
    ·cases hg
  ·cases hg
 ·cases hg
def keyX(dst:Option Nat):AV→Nat
 | .wrap (.sl _) (.own κ')=>κ'
 |_=>kO dst
def appVX(P:Program)(s:St)(dst:Option Nat)(t:TypeId)(vx vy:Option AV):Option (Nat×Blk):=
 match vx,vy with
 |some x,some (.wrap (.sl l) (.own j))=>match appT P t with
  |some (e,n,by')=>
   if 16≤keyX dst x then omap (appVB s e n by' (keyX dst x) x (.wrap (.sl l) (.own j))) fun B=>(keyX dst x,B)else none
  |none=>none
 |_,_=>none
theorem SRep.appVX{P:Program}{c:Ctx}{m:Nat→Value}{s:St}{a:Act}{w:World}(h:SRep c m s a w){dst:Option Nat}{t ty κ:Nat}{B:Blk}{x y:AV}{u0 u:Value}(hg:appVX P s dst t (some x) (some y)=some (κ,B))(hx:RepV w (Forb c m s.hp) m x u0)(hy:RepV w (Forb c m s.hp) m y u):
  ∃v' w' q,(Builtin.append_ #[t,t] ty #[u0,u]).run P w= .ok v' w'∧SRep c (upm m κ q) (s.setB true κ B) a w'∧ ∀w F,RepV w F (upm m κ q) (valB κ B) v':=by
 unfold Go.Proofs.Ytngghkoghbpceaa.appVX at hg
 split at hg
 ·rename_i x' l j e1 e2
  cases e1;cases e2
  split at hg
  ·rename_i e n by' hT
   split at hg
   ·rename_i h16
    obtain⟨B',hB',hr⟩:=Option.map_eq_some_iff.1 hg
    simp only[Prod.mk.injEq]at hr
    obtain⟨rfl,rfl⟩:=hr
    exact h.appV (ty:=ty) hT h16 hB' hx hy
   ·cases hg
  ·cases hg
 ·cases hg
theorem zeroCells_one(z0:Value)(k:Nat):Builtin.zeroCells #[z0] k=(List.replicate k z0).toArray:=by
 apply Array.ext'
 apply List.ext_getElem
 ·simp[Builtin.zeroCells]
 ·intro i h1 h2
  simp[Builtin.zeroCells]
  rw[Nat.mod_one];rfl
theorem run_appendZ{P:Program}{w:World}{t tn ty e by':Nat}{kn kq:IntKind}(hT:appT P t=some (e,1,by'))(htn:P.underlying tn=some (.int kn)){i0:TypeInfo}{z:Value}{z0:Value}(hi0:P.info? e=some i0)(hz0:i0.zero=some z)(hzc:z.cells= #[z0])(h1:z0.oneCell'=true)
  {v:Value}{l:Nat}{xs:List Value}(hown:OwnRow w e 1 v l xs)(k:Nat)(hm:l+k≤maxLen)(hb:(l+k)*by'≤140737488355328):
  ∃v' w',(Builtin.append_ #[t,tn] ty #[v,.int kq k]).run P w= .ok v' w'∧OwnRow w' e 1 v' (l+k) (xs++List.replicate k z0)∧Fr (fun b=>blkOf v=some b) w w'∧(∀b,blkOf v'=some b→blkOf v=some b∨w.heap.size≤b)∧
   (∀a0 l0 cap,v= .slice a0 l0 cap→l+k≤cap→ ∃a1,v'= .slice a1 (l+k) cap):=by
 obtain⟨i,z',hu,hi,hz,hzs,hs,hby,hn⟩:=appT_parts hT
 rw[hi0]at hi;cases hi
 rw[hz0]at hz;cases hz
 have hkm:k≤9223372036854775807:=by unfold maxLen at hm;omega
 have hw:IntKind.i64.wrap (k:Int)=k:=by rw[IntKind.wrap_i64];omega
 have hneg: ¬((k:Int)<0):=by omega
 have hkb:k*by'≤140737488355328:=Nat.le_trans (Nat.mul_le_mul_right _ (by omega)) hb
 have h48i: ¬(281474976710656<(k:Int)*(i0.bytes:Int)):=by
  rw[←Int.natCast_mul,hby];omega
 by_cases hk:k=0
 ·subst hk
  obtain⟨a0,cap,rfl,hcap,_⟩:=hown.cells
  refine⟨.slice a0 l cap,w,?_,by simpa using hown,Fr.refl _ _,fun b hb=> .inl hb,fun a1 l0 cap' h _=> ?_⟩
  ·have hw0:IntKind.i64.wrap 0=0:=by decide
   cases a0<;>simp[Builtin.append_,run_underlying hu,run_underlying htn,sizeOf,typeInfo,hi0,asInt,asIntOf,hw0,hcap,storeCells]
  ·simp at h
   obtain⟨rfl,_,rfl⟩:=h
   exact⟨a0,by simp⟩
 ·have hns: ¬(k*i0.size=0):=Nat.mul_ne_zero hk (by omega)
  have hzk:Builtin.zeroCells z.cells k=(List.replicate k z0).toArray:=by rw[hzc];exact zeroCells_one z0 k
  have hrl:(List.replicate k z0).length=k:=by simp
  have hr1: ∀u∈List.replicate k z0,u.oneCell'=true:=fun u hu=>by rw[List.eq_of_mem_replicate hu];exact h1
  have key: ∀(base:Option Addr) (cap:Nat) (olds:List Value),olds.length=l*1→(olds≠ []→ ∃g,base=some g∧ ∀j u,olds[j]? =some u→w.cell? (g.add j)=some u)→cap<l+k→
    ∃v' w',(Builtin.append_ #[t,tn] ty #[.slice base l cap,.int kq k]).run P w= .ok v' w'∧OwnRow w' e 1 v' (l+k) (olds++List.replicate k z0)∧Fr (fun _=>False) w w'∧(∀b,blkOf v'=some b→w.heap.size≤b):=by
   intro base cap olds hol holds hlt
   have hold:(Builtin.firstCells i0.size l (.slice base l cap)).run P w.drew= .ok olds.toArray w.drew:=by
    rw[hs]
    cases hol0:olds with
    |nil=>
     have:l=0:=by rw[hol0]at hol;simp at hol;omega
     subst this
     cases base with
     |none=>exact run_firstCells_none w.drew 1 0 0 cap
     |some a=>exact run_firstCells_some w.drew 1 0 a 0 cap [] (by simp) (by simp)
    |cons x xs=>
     obtain⟨g,rfl,hc⟩:=holds (by rw[hol0];simp)
     rw[hol0]at hol hc
     exact run_firstCells_some w.drew 1 l g l cap (x::xs) hol (by simpa using hc)
   have hr:=Lib.run_append_grow_zeros (P:=P) w t tn ty e i0 z kq kn hu htn hi0 hz0 base l cap olds hold k (by omega) (by omega) hlt (by unfold maxLen at hm;omega) (by rw[hby];omega) (by rw[hby];exact growslice_fits (by omega) hb)
   have hge:=grownCap_ge w (l+k) cap e
   have hcm:=grownCap_le_maxLen w (l+k) cap e hm
   rw[hzk]at hr
   refine⟨_,_,hr,⟨by rw[List.length_append,hol,hrl,Nat.add_mul];omega,.inr ⟨w.heap.size,0,_,_,rfl,by omega,heap_alloc_new w.drew _,hge,hcm,?_,?_⟩⟩,⟨rfl,rfl,rfl,by simp,fun j hj _=>Below.heap_alloc w.drew _ j hj⟩,fun b' hb'=> ?_⟩
   ·rw[Nat.zero_add]
    refine Nat.le_of_eq (Eq.symm ?_)
    simp only[Array.size_append,List.size_toArray,size_zeroCells,hzs,hol,hrl,Nat.mul_one]
    try omega
   ·simp only[Array.toList_append,List.drop_zero]
    rw[show(l+k)*1=(olds++List.replicate k z0).length by simp only[List.length_append,hol,hrl,Nat.mul_one]]
    exact List.take_left
   ·simp only[blkOf]at hb'
    split at hb'
    ·cases hb'
    ·simp at hb';omega
  rcases hown.2 with⟨rfl,a0,rfl⟩|⟨g,o,cap,cur,rfl,h0,hg,hnc,hcm,hcs,ht⟩
  ·have hxs:xs= []:=List.eq_nil_of_length_eq_zero (by have:=hown.1;omega)
   subst hxs
   obtain⟨v',w',r1,r2,r3,r4⟩:=key a0 0 [] (by simp) (by simp) (by omega)
   refine⟨v',w',r1,r2,r3.mono (fun _ _ h=>h.elim),fun b hb=> .inr (r4 b hb),fun a1 l0 cap h hh=> ?_⟩
   simp at h
   obtain⟨_,_,rfl⟩:=h
   omega
  ·have hc0:cap≠0:=by omega
   by_cases hroom:l+k≤cap
   ·have hfit:o+l*i0.size+(List.replicate k z0).length≤cur.size:=by rw[hrl,hs];omega
    have hst:=run_storeCells_at P g (o+l*i0.size) e (List.replicate k z0) 0 cur w hg (by simpa using hfit) hr1
    simp only[Nat.add_zero]at hst
    have hr:(Builtin.append_ #[t,tn] ty #[.slice (some ⟨g,o,none⟩) l cap,.int kq k]).run P w= .ok (.slice (some ⟨g,o,none⟩) (l+k) cap) (w.setRow g (cur.toList.take (o+l*i0.size)++List.replicate k z0++cur.toList.drop (o+l*i0.size+(List.replicate k z0).length)).toArray):=by
     simp only[List.length_replicate]at hst ⊢
     simp[Builtin.append_,run_underlying hu,run_underlying htn,sizeOf,typeInfo,zeroValue,hi0,hz0,asInt,asIntOf,hw,hneg,hns,h48i,hroom,hzk,addr_add,hst]
    refine⟨_,_,hr,⟨by rw[List.length_append,hown.1,hrl];omega,.inr ⟨g,o,cap,_,rfl,h0,setRow_heap w g cur _ e _ hg,hroom,hcm,?_,?_⟩⟩,?_,fun b' hb'=> .inl hb',?_⟩
    ·simp only[List.size_toArray,List.length_append,List.length_take,List.length_drop,Array.length_toList]
     rw[hs]at hfit ⊢
     omega
    ·rw[hs,Nat.mul_one,Nat.mul_one,hrl]
     rw[←ht,Nat.mul_one]
     exact drop_take_mid _ _ _ _ _ hrl (by rw[hs]at hfit;simp;omega)
    ·exact⟨rfl,rfl,rfl,by simp,fun j _ hj=>setRow_other w g j _ (fun e=>hj (by rw[e];simp[blkOf,hc0]))⟩
    ·intro a1 l0 cap' h _
     simp at h
     obtain⟨_,_,rfl⟩:=h
     exact⟨_,rfl⟩
   ·have holds: ∀j u,xs[j]? =some u→w.cell? ((⟨g,o,none⟩:Addr).add j)=some u:=fun j u hj=>by rw[addr_add];exact ownRow_cell hown rfl hj
    obtain⟨v',w',r1,r2,r3,r4⟩:=key (some ⟨g,o,none⟩) cap xs hown.1 (fun _=>⟨_,rfl,holds⟩) (by omega)
    refine⟨v',w',r1,r2,r3.mono (fun _ _ h=>h.elim),fun b hb=> .inr (r4 b hb),fun a1 l0 cap' h hh=> ?_⟩
    simp at h
    obtain⟨_,_,rfl⟩:=h
    omega
def zeroI(P:Program)(e:TypeId)(k:IntKind):Bool:=match zeroT P e with
 |some [.int k' z]=>decide (k=k'∧z=0)
 |_=>false
def growZ(P:Program)(bytes:Nat)(B:Blk)(i:Int):Option Blk:=
 match B with
 | .ints e k xs c=>if zeroI P e k=true∧0≤i∧(xs.length+i.toNat)*bytes≤140737488355328∧xs.length+i.toNat≤maxLen then some (.ints e k (xs++List.replicate i.toNat 0) (capA c (xs.length+i.toNat)))else none
 |_=>none
theorem SRep.appendZ{P:Program}{c:Ctx}{m:Nat→Value}{s:St}{a:Act}{w:World}(h:SRep c m s a w){t tn ty e by' κ:Nat}{kn kq:IntKind}{B B':Blk}{i:Int}(hT:appT P t=some (e,1,by'))(htn:intT P tn=some kn)(hB:gt κ s.hp=some B)(he:B.elem=e)
  (hg:growZ P by' B i=some B'):
  ∃v' w',(Builtin.append_ #[t,tn] ty #[m κ,.int kq i]).run P w= .ok v' w'∧SRep c (upm m κ v') (s.setB true κ B') a w'∧v'.oneCell'=true:=by
 have hself:=h.heap κ B hB
 have hpin:c.pin κ=none:=by
  cases hp:c.pin κ with
  |none=>rfl
  |some v=>
   exfalso
   obtain⟨_,b,rfl⟩:=h.pinp κ v hp
   have e0:=h.pin κ _ hp
   cases B with
   |box e' cs=>simp[growZ]at hg
   |ints e' k xs cc=>
    obtain⟨ad,cap,h1,_⟩:=hself.1.cells
    rw[h1]at e0;cases e0
   |row e' n' xs cc=>simp[growZ]at hg
   |map kvs=>simp[growZ]at hg
   |vrow e' xs=>simp[growZ]at hg
 cases B with
 |box e' cs=>simp[growZ]at hg
 |row e' n' xs cc=>simp[growZ]at hg
 |map kvs=>simp[growZ]at hg
 |vrow e' xs=>simp[growZ]at hg
 |ints e' k xs cc=>
  simp only[Blk.elem]at he
  subst he
  simp only[growZ]at hg
  split at hg
  ·rename_i hb
   cases hg
   obtain⟨hz,h0,hb1,hb2⟩:=hb
   obtain⟨i0,z,hu,hi,hzz,hzs,_⟩:=appT_parts hT
   have hzc:z.cells= #[.int k 0]:=by
    unfold zeroI at hz
    split at hz
    ·rename_i k' zz hzt
     simp only[decide_eq_true_eq]at hz
     obtain⟨rfl,rfl⟩:=hz
     unfold zeroT at hzt
     simp only[hi,Option.bind_some,hzz]at hzt
     split at hzt
     ·simp only[Option.some.injEq]at hzt
      apply Array.ext';simpa using hzt
     ·cases hzt
    ·cases hz
   have hin:((i.toNat:Nat):Int)=i:=Int.toNat_of_nonneg h0
   obtain⟨v',w',h1,h2,h3,h4,h5⟩:=run_appendZ (P:=P) (ty:=ty) (kq:=kq) hT (intT_und htn) hi hzz hzc rfl hself.1 i.toNat hb2 hb1
   rw[hin]at h1
   refine⟨v',w',h1,?_,h2.oneCell⟩
   refine(h.setB true κ _ v' (.inl rfl) (.inl hpin) (h3.mono fun b _ hb=>⟨_,hB,hb⟩) (fun b hb=>or_map (fun h=>⟨_,hB,h⟩) (h4 b hb)) ?_).1
   simp only[RepB,upm_same]
   exact⟨by simpa using h2,by simpa using capIs_grow hself.2 h5⟩
  ·cases hg
def storeB0(P:Program)(s:St)(t:TypeId)(ad v:AV):Option (Nat×Blk):=
 match ad with
 | .ptr κ off=>match gt κ s.hp with
  |some (.box e cs)=>match v.parts,szT P t with
   |some ps,some n=>if ps.length=n∧off+n≤cs.length then some (κ,.box e (cs.take off++ps++cs.drop (off+n)))else none
   |_,_=>none
  |_=>none
 | .pel κ off=>match gt κ s.hp with
  |some (.ints e k xs c)=>match v with
   | .d (.v (.int k' x))=>if k=k'∧off<xs.length∧szT P t=some 1 then some (κ,.ints e k (xs.set off x) c)else none
   |_=>none
  |some (.row e n xs c)=>match v.toD with
   |some d=>if n≠0∧off % n=0∧off / n<xs.length∧d.size=n∧szT P t=some n then some (κ,.row e n (xs.set (off / n) d) c)else none
   |none=>none
  |_=>none
 |_=>none
theorem run_storeVar_at{P:Program}{w:World}{g off:Nat}{e t:TypeId}{cur:Array Value}{v:Value}(hg:w.heap[g]? =some (.cells cur e (0,0)))(hs:szT P t=some v.cells.size)(hle:off+v.cells.size≤cur.size)(h1: ∀u∈v.cells.toList,u.oneCell'=true):
  (storeVar t ⟨g,off,none⟩ v).run P w= .ok () (w.setRow g (cur.toList.take off++v.cells.toList++cur.toList.drop (off+v.cells.size)).toArray):=by
 unfold storeVar
 simp only[Sem.run_bind,run_sizeOf' hs,Result.andThen_ok]
 have:=run_storeCells_at P g off e v.cells.toList 0 cur w hg (by simpa using hle) h1
 simp only[Nat.add_zero,Array.length_toList]at this
 simp[this]
theorem RepRow_set{w:World}{F:Nat→Prop}{n:Nat}: ∀ {ds:List D} {vals:List Value} {i:Nat} {d:D} {v:Value},RepRow w F (fun v=>v.cells.size=n) ds vals→i<ds.length→RepD w F d v→v.cells.size=n→
  RepRow w F (fun v=>v.cells.size=n) (ds.set i d) (vals.take (i*n)++v.cells.toList++vals.drop (i*n+n))
 | [],vals,i,d,v,h,hi,_,_=>by simp at hi
 |x::ds,vals,i,d,v,h,hi,hd,hv=>by
  simp only[RepRow]at h
  obtain⟨u,rest,rfl,h0,h1,h2⟩:=h
  have hl:u.cells.toList.length=n:=by simpa using h0
  cases i with
  |zero=>
   simp only[List.set_cons_zero,RepRow,Nat.zero_mul,List.take_zero,List.nil_append,Nat.zero_add]
   refine⟨v,rest,?_,hv,hd,h2⟩
   rw[←hl,List.drop_left]
  |succ i=>
   simp only[List.set_cons_succ,RepRow]
   refine⟨u,_,?_,h0,h1,RepRow_set h2 (by simpa using hi) hd hv⟩
   have e1:(i+1)*n=u.cells.toList.length+i*n:=by rw[hl,Nat.add_mul];omega
   rw[e1,List.take_length_add_append,Nat.add_assoc,List.drop_length_add_append]
   simp
theorem upm_self(m:Nat→Value)(κ:Nat):upm m κ (m κ)=m:=by
 funext j;unfold upm;split
 ·rename_i h;rw[h]
 ·rfl
theorem RepVs_splice{w:World}{F:Nat→Prop}{m:Nat→Value}{cs ps:List AV}{us zs:List Value}(q1:RepVs w F m cs us)(q2:RepVs w F m ps zs)(off k:Nat):RepVs w F m (cs.take off++ps++cs.drop k) (us.take off++zs++us.drop k):=by
 rw[RepVs_iff]at q1 q2 ⊢
 refine⟨by simp[q1.1,q2.1],fun j x hj=> ?_⟩
 have ht:(cs.take off).length=(us.take off).length:=by simp[q1.1]
 rw[List.append_assoc]at hj ⊢
 rw[List.getElem?_append]at hj ⊢
 rw[ht]at hj
 split at hj
 ·rename_i hlt
  rw[if_pos hlt]
  rw[List.getElem?_take]at hj ⊢
  split at hj
  ·rename_i h5;rw[if_pos h5];exact q1.2 j x hj
  ·cases hj
 ·rename_i hge
  rw[if_neg hge]
  rw[List.getElem?_append]at hj ⊢
  rw[q2.1]at hj
  split at hj
  ·rename_i hlt;rw[if_pos hlt];exact q2.2 _ x hj
  ·rename_i hge2
   rw[if_neg hge2]
   rw[List.getElem?_drop]at hj ⊢
   exact q1.2 _ x hj
theorem take_splice{α:Type}(A Z:List α)(off n N:Nat)(hZ:Z.length=n)(h:off+n≤N)(hN:N≤A.length):(A.take off++Z++A.drop (off+n)).take N=(A.take N).take off++Z++(A.take N).drop (off+n):=by
 have l1:(A.take off).length=off:=by simp;omega
 have l2:(A.take off++Z).length=off+n:=by simp[l1,hZ]
 rw[List.take_append,List.take_of_length_le (l:=A.take off++Z) (by omega),List.take_take,Nat.min_eq_left (by omega),List.drop_take,l2]
theorem drop_splice{α:Type}(A Z:List α)(o off k:Nat)(h:o+off≤A.length):(A.take (o+off)++Z++A.drop (o+k)).drop o=(A.drop o).take off++Z++(A.drop o).drop k:=by
 have h1:(A.take (o+off)).length=o+off:=by simp;omega
 rw[List.append_assoc,List.drop_append_of_le_length (by omega),List.drop_take,List.drop_drop,←List.append_assoc]
 congr 3;omega
theorem SRep.store0{P:Program}{c:Ctx}{m:Nat→Value}{s:St}{a:Act}{w:World}(h:SRep c m s a w){t κ:Nat}{ad v:AV}{u z:Value}{B:Blk}(ha:RepV w (Forb c m s.hp) m ad u)(hv:RepV w (Forb c m s.hp) m v z)(hB:storeB0 P s t ad v=some (κ,B)):
  ∃w',(Instr.storeAt t u z).run P w= .ok () w'∧SRep c (upm m κ (m κ)) (s.setB false κ B) a w':=by
 have runAt: ∀(b off:Nat) (cur:Array Value) (e:TypeId),w.heap[b]? =some (.cells cur e (0,0))→szT P t=some z.cells.size→off+z.cells.size≤cur.size→(∀u∈z.cells.toList,u.oneCell'=true)→
   (Instr.storeAt t (.pointer (some ⟨b,off,none⟩)) z).run P w= .ok () (w.setRow b (cur.toList.take off++z.cells.toList++cur.toList.drop (off+z.cells.size)).toArray):=by
  intro b off cur e hg hs hle h1
  unfold Instr.storeAt
  simp only[Instr.sureAddr,Sem.run_bind,Sem.run_pure,Result.andThen_ok,run_storeVar_at hg hs hle h1]
 have frAt: ∀(b:Nat) (cs:Array Value) (B0:Blk),gt κ s.hp=some B0→blkOf (m κ)=some b→Fr (fun b=> ∃B0,gt κ s.hp=some B0∧blkOf (m κ)=some b) w (w.setRow b cs):=by
  intro b cs B0 h1 h2
  exact⟨rfl,rfl,rfl,by simp,fun k _ hk=>setRow_other w b k _ (fun e=>hk ⟨B0,h1,by rw[e];exact h2⟩)⟩
 unfold storeB0 at hB
 split at hB
 ·rename_i κ' off
  simp only[RepV]at ha
  obtain⟨b,hm,hu⟩:=ha
  split at hB
  ·rename_i e cs hcs
   split at hB
   ·rename_i ps n hps hn
    split at hB
    ·rename_i hle
     simp only[Option.some.injEq,Prod.mk.injEq]at hB
     obtain⟨rfl,rfl⟩:=hB
     obtain⟨b',cells,h1,h2,h3,h4⟩:=h.heap κ' _ hcs
     rw[hm]at h1;simp at h1;subst h1
     obtain⟨p1,p2⟩:=parts_rep hv hps
     have hpl:=(RepVs_iff.1 p1).1
     have hcl:=(RepVs_iff.1 h3).1
     have hzs:z.cells.size=n:=by have:z.cells.toList.length=n:=by omega
                                 simpa using this
     have hcs':cells.size=cs.length:=by rw[hcl];simp
     have hblk:blkOf (m κ')=some b:=by rw[hm];rfl
     have hfr:=frAt b (cells.toList.take off++z.cells.toList++cells.toList.drop (off+z.cells.size)).toArray _ hcs hblk
     have hkb: ∀b',blkOf (m κ')=some b'→(∃B0,gt κ' s.hp=some B0∧blkOf (m κ')=some b')∨w.heap.size≤b':=fun b' hb'=> .inl ⟨_,hcs,hb'⟩
     refine⟨_,by rw[hu];exact runAt b off cells e h2 (by rw[hzs];exact hn) (by omega) p2,?_⟩
     have hk:=h.setB_kept false κ' (.box e (cs.take off++ps++cs.drop (off+n))) (m κ') hfr hkb
     have hupm:=upm_self m κ'
     refine(h.setB false κ' _ (m κ') (.inr rfl) (.inr rfl) hfr hkb ?_).1
     rw[hupm]at hk ⊢
     refine⟨b,_,hm,setRow_heap w b cells _ e _ h2,?_,?_⟩
     ·subst hzs
      have q1:=RepVs.kept hk hfr.size _ _ h3
      have q2:=RepVs.kept hk hfr.size _ _ p1
      simpa using RepVs_splice q1 q2 off (off+z.cells.size)
     ·intro q hq
      have hq':q∈cells.toList.take off++z.cells.toList++cells.toList.drop (off+z.cells.size):=by simpa using hq
      rcases List.mem_append.1 hq' with hq'|hq'
      ·rcases List.mem_append.1 hq' with hq'|hq'
       ·exact h4 q (by simpa using List.mem_of_mem_take hq')
       ·exact p2 q hq'
      ·exact h4 q (by simpa using List.mem_of_mem_drop hq')
    ·cases hB
   ·cases hB
  ·cases hB
 ·rename_i κ' off
  simp only[RepV]at ha
  obtain⟨b,o,l,cap,hm,hu⟩:=ha
  split at hB
  ·rename_i e k xs cc hcs
   split at hB
   ·rename_i k' x
    split at hB
    ·rename_i hcond
     obtain⟨rfl,hlt,hsz⟩:=hcond
     simp only[Option.some.injEq,Prod.mk.injEq]at hB
     obtain⟨rfl,rfl⟩:=hB
     rw[repV_v]at hv
     obtain⟨rfl,_⟩:=hv
     obtain⟨hown,hcap⟩:=h.heap κ' _ hcs
     have hl1:=hown.1
     rcases hown.2 with⟨h0,_⟩|⟨g,o',cap',cur,hv',h0,hg,hn,hmx,hsz',htk⟩
     ·rw[h0]at hlt;simp at hlt
     ·rw[hm]at hv';simp at hv'
      obtain⟨⟨rfl,rfl⟩,rfl,rfl⟩:=hv'
      have hc0:cap≠0:=by omega
      have hblk:blkOf (m κ')=some b:=by rw[hm];simp[blkOf,hc0]
      have hfr:=frAt b (cur.toList.take (o+off)++(Value.int k x).cells.toList++cur.toList.drop (o+off+(Value.int k x).cells.size)).toArray _ hcs hblk
      have hkb: ∀b',blkOf (m κ')=some b'→(∃B0,gt κ' s.hp=some B0∧blkOf (m κ')=some b')∨w.heap.size≤b':=fun b' hb'=> .inl ⟨_,hcs,hb'⟩
      have hle1:o+off+(Value.int k x).cells.size≤cur.size:=by simp[Value.cells];omega
      refine⟨_,by rw[hu];exact runAt b (o+off) cur e hg hsz hle1 (by simp[Value.cells,Value.oneCell']),?_⟩
      have hupm:=upm_self m κ'
      refine(h.setB false κ' _ (m κ') (.inr rfl) (.inr rfl) hfr hkb ?_).1
      rw[hupm]
      refine⟨⟨by simp,.inr ⟨b,o,cap,_,by rw[hm];simp,h0,setRow_heap w b cur _ e _ hg,by simpa using hn,hmx,?_,?_⟩⟩,hcap⟩
      ·simp[Value.cells];omega
      ·simp only[Value.cells,List.length_set,Nat.mul_one]at htk ⊢
       have e0:(xs.set off x).map (Value.int k)=(xs.map (Value.int k)).set off (.int k x):=by rw[List.map_set]
       rw[e0,←htk]
       have hoff:o+off<cur.toList.length:=by simp;omega
       have e1:cur.toList.take (o+off)++ #[Value.int k x].toList++cur.toList.drop (o+off+ #[Value.int k x].size)=cur.toList.set (o+off) (.int k x):=by
        rw[List.set_eq_take_append_cons_drop,if_pos hoff];simp
       simp only[e1]
       rw[List.drop_set,if_neg (by omega),List.take_set]
       congr 1;omega
    ·cases hB
   ·cases hB
  ·rename_i e n xs cc hcs
   split at hB
   ·rename_i d hd
    split at hB
    ·rename_i hcond
     obtain⟨hn0,hoff,hlt,hds,hsz⟩:=hcond
     simp only[Option.some.injEq,Prod.mk.injEq]at hB
     obtain⟨rfl,rfl⟩:=hB
     have hD:=toD_rep hv hd
     obtain⟨vals,hown,hcap,hr⟩:=h.heap κ' _ hcs
     have hzs:z.cells.size=n:=by
      rw[←hds]
      cases hxa:d.isAgg with
      |true=>
       obtain⟨us',rfl,hl⟩:=repD_agg hD hxa
       simpa[Value.cells]using hl
      |false=>
       rw[cells_one (repD_notAgg hD hxa)]
       cases d<;>first|rfl|simp[D.isAgg]at hxa
     have e1:off / n*n=off:=by
      have:=Nat.div_add_mod' off n
      omega
     rcases hown.2 with⟨h0,_⟩|⟨g,o',cap',cur,hv',h0,hg,hn,hmx,hsz',htk⟩
     ·rw[h0]at hlt;simp at hlt
     ·rw[hm]at hv';simp at hv'
      obtain⟨⟨rfl,rfl⟩,rfl,rfl⟩:=hv'
      have hc0:cap≠0:=by omega
      have hblk:blkOf (m κ')=some b:=by rw[hm];simp[blkOf,hc0]
      have hfr:=frAt b (cur.toList.take (o+off)++z.cells.toList++cur.toList.drop (o+off+z.cells.size)).toArray _ hcs hblk
      have hkb: ∀b',blkOf (m κ')=some b'→(∃B0,gt κ' s.hp=some B0∧blkOf (m κ')=some b')∨w.heap.size≤b':=fun b' hb'=> .inl ⟨_,hcs,hb'⟩
      have hle0:off+n≤xs.length*n:=by
       have:(off / n+1)*n≤xs.length*n:=Nat.mul_le_mul_right _ hlt
       rw[Nat.add_mul,e1]at this;omega
      have hle2:xs.length*n≤cap*n:=Nat.mul_le_mul_right _ hn
      have hle1:o+off+z.cells.size≤cur.size:=by rw[hzs];omega
      refine⟨_,by rw[hu];exact runAt b (o+off) cur e hg (by rw[hzs];exact hsz) hle1 (repD_cells_one hD),?_⟩
      have hk:=h.setB_kept false κ' (.row e n (xs.set (off / n) d) cc) (m κ') hfr hkb
      have hupm:=upm_self m κ'
      refine(h.setB false κ' _ (m κ') (.inr rfl) (.inr rfl) hfr hkb ?_).1
      rw[hupm]at hk ⊢
      have hset:=RepRow_set (RepRow.kept hk _ _ hr) hlt (RepD.kept hk _ _ hD) hzs
      rw[e1]at hset
      refine⟨_,⟨(RepRow_get hset).1,.inr ⟨b,o,cap,_,by rw[hm];simp,h0,setRow_heap w b cur _ e _ hg,by simpa using hn,hmx,?_,?_⟩⟩,hcap,hset⟩
      ·simp only[List.size_toArray,List.length_append,List.length_take,List.length_drop,Array.length_toList,hzs]
       rw[hzs]at hle1
       omega
      ·simp only[List.length_set,hzs]
       rw[←htk,Nat.add_assoc o off n,drop_splice _ _ _ _ _ (by simp;omega)]
       exact take_splice _ _ _ _ _ (by simpa using hzs) hle0 (by simp;omega)
    ·cases hB
   ·cases hB
  ·cases hB
 ·cases hB
theorem RepOnes_splice{w:World}{F:Nat→Prop}{cs ps:List D}{us zs:List Value}(q1:RepRow w F (fun v=>v.oneCell'=true) cs us)(q2:RepRow w F (fun v=>v.oneCell'=true) ps zs)(off k:Nat):RepRow w F (fun v=>v.oneCell'=true) (cs.take off++ps++cs.drop k) (us.take off++zs++us.drop k):=by
 rw[RepOnes_iff]at q1 q2 ⊢
 refine⟨by simp[q1.1,q2.1],fun j x hj=> ?_⟩
 have ht:(cs.take off).length=(us.take off).length:=by simp[q1.1]
 rw[List.append_assoc]at hj ⊢
 rw[List.getElem?_append]at hj ⊢
 rw[ht]at hj
 split at hj
 ·rename_i hlt
  rw[if_pos hlt]
  rw[List.getElem?_take]at hj ⊢
  split at hj
  ·rename_i h5;rw[if_pos h5];exact q1.2 j x hj
  ·cases hj
 ·rename_i hge
  rw[if_neg hge]
  rw[List.getElem?_append]at hj ⊢
  rw[q2.1]at hj
  split at hj
  ·rename_i hlt;rw[if_pos hlt];exact q2.2 _ x hj
  ·rename_i hge2
   rw[if_neg hge2]
   rw[List.getElem?_drop]at hj ⊢
   exact q1.2 _ x hj
theorem RepRow_part{w:World}{F:Nat→Prop}{n r:Nat}{es dps:List D}{zs:List Value}(hz:RepRow w F (fun v=>v.oneCell'=true) dps zs)(hr:r+dps.length≤n): ∀ {ds:List D} {vals:List Value} {i:Nat},RepRow w F (fun v=>v.cells.size=n) ds vals→ds[i]? =some (.agg es)→
  RepRow w F (fun v=>v.cells.size=n) (ds.set i (.agg (es.take r++dps++es.drop (r+dps.length)))) (vals.take (i*n+r)++zs++vals.drop (i*n+(r+dps.length)))
 | [],vals,i,h,hi=>by simp at hi
 |x::ds,vals,i,h,hi=>by
  simp only[RepRow]at h
  obtain⟨u,rest,rfl,h0,h1,h2⟩:=h
  have hl:u.cells.toList.length=n:=by simpa using h0
  have hzl:zs.length=dps.length:=(RepOnes_iff.1 hz).1.symm
  cases i with
  |zero=>
   simp only[List.getElem?_cons_zero,Option.some.injEq]at hi
   subst hi
   simp only[List.set_cons_zero,RepRow,Nat.zero_mul,Nat.zero_add]
   simp only[RepD]at h1
   obtain⟨us,rfl,h3⟩:=h1
   have hcl:(Value.agg us.toArray).cells.toList=us:=by simp[Value.cells]
   rw[hcl]at hl ⊢
   refine⟨.agg (us.take r++zs++us.drop (r+dps.length)).toArray,rest,?_,?_,?_,h2⟩
   ·have e1:(us++rest).take r=us.take r:=by rw[List.take_append_of_le_length (by omega)]
    have e2:(us++rest).drop (r+dps.length)=us.drop (r+dps.length)++rest:=by rw[List.drop_append_of_le_length (by omega)]
    rw[e1,e2]
    simp[Value.cells]
   ·simp[Value.cells];omega
   ·simp only[RepD]
    exact⟨_,rfl,RepOnes_splice h3 hz r (r+dps.length)⟩
  |succ i=>
   simp only[List.set_cons_succ,RepRow]
   refine⟨u,_,?_,h0,h1,RepRow_part hz hr h2 (by simpa using hi)⟩
   have e1:(i+1)*n+r=u.cells.toList.length+(i*n+r):=by rw[hl,Nat.add_mul];omega
   have e2:(i+1)*n+(r+dps.length)=u.cells.toList.length+(i*n+(r+dps.length)):=by rw[hl,Nat.add_mul];omega
   rw[e1,e2,List.take_length_add_append,List.drop_length_add_append]
   simp
def setPart(r k:Nat)(ps:List AV)(d:D):Option D:=
 match d with
 | .agg es=>match allD ps with
  |some dps=>if dps.length=k∧r+k≤es.length then some (.agg (es.take r++dps++es.drop (r+k)))else none
  |none=>none
 |_=>none
def storeF(P:Program)(s:St)(t:TypeId)(ad v:AV):Option (Nat×Blk):=
 match ad with
 | .pel κ off=>match gt κ s.hp with
  |some (.row e n xs c)=>match v.parts,szT P t,xs[off / n]? with
   |some ps,some k,some d=>match setPart (off % n) k ps d with
    |some d'=>if n≠0∧d.size=n then some (κ,.row e n (xs.set (off / n) d') c)else none
    |none=>none
   |_,_,_=>none
  |_=>none
 |_=>none
theorem SRep.storeF{P:Program}{c:Ctx}{m:Nat→Value}{s:St}{a:Act}{w:World}(h:SRep c m s a w){t κ:Nat}{ad v:AV}{u z:Value}{B:Blk}(ha:RepV w (Forb c m s.hp) m ad u)(hv:RepV w (Forb c m s.hp) m v z)(hB:storeF P s t ad v=some (κ,B)):
  ∃w',(Instr.storeAt t u z).run P w= .ok () w'∧SRep c (upm m κ (m κ)) (s.setB false κ B) a w':=by
 have runAt: ∀(b off:Nat) (cur:Array Value) (e:TypeId),w.heap[b]? =some (.cells cur e (0,0))→szT P t=some z.cells.size→off+z.cells.size≤cur.size→(∀u∈z.cells.toList,u.oneCell'=true)→
   (Instr.storeAt t (.pointer (some ⟨b,off,none⟩)) z).run P w= .ok () (w.setRow b (cur.toList.take off++z.cells.toList++cur.toList.drop (off+z.cells.size)).toArray):=by
  intro b off cur e hg hs hle h1
  unfold Instr.storeAt
  simp only[Instr.sureAddr,Sem.run_bind,Sem.run_pure,Result.andThen_ok,run_storeVar_at hg hs hle h1]
 have frAt: ∀(b:Nat) (cs:Array Value) (B0:Blk),gt κ s.hp=some B0→blkOf (m κ)=some b→Fr (fun b=> ∃B0,gt κ s.hp=some B0∧blkOf (m κ)=some b) w (w.setRow b cs):=by
  intro b cs B0 h1 h2
  exact⟨rfl,rfl,rfl,by simp,fun k _ hk=>setRow_other w b k _ (fun e=>hk ⟨B0,h1,by rw[e];exact h2⟩)⟩
 unfold Proofs.Ytngghkoghbpceaa.storeF at hB
 split at hB
 ·rename_i κ' off
  simp only[RepV]at ha
  obtain⟨b,o,l,cap,hm,hu⟩:=ha
  split at hB
  ·rename_i e n xs cc hcs
   split at hB
   ·rename_i ps k d hps hsz hd
    split at hB
    ·rename_i d' hd'
     split at hB
     ·rename_i hcond
      obtain⟨hn0,hds⟩:=hcond
      simp only[Option.some.injEq,Prod.mk.injEq]at hB
      obtain⟨rfl,rfl⟩:=hB
      unfold setPart at hd'
      split at hd'
      ·rename_i es
       split at hd'
       ·rename_i dps hdp
        split at hd'
        ·rename_i hk
         obtain⟨rfl,hk2⟩:=hk
         simp only[Option.some.injEq]at hd'
         subst hd'
         obtain⟨p1,p2⟩:=parts_rep hv hps
         have hones:=allD_rep hdp p1 p2
         have hzl:z.cells.toList.length=dps.length:=(RepOnes_iff.1 hones).1.symm
         have hzs:z.cells.size=dps.length:=by simpa using hzl
         obtain⟨vals,hown,hcap,hr⟩:=h.heap κ' _ hcs
         have hen:es.length=n:=hds
         have hlt:off / n<xs.length:=(List.getElem?_eq_some_iff.1 hd).1
         have e1:off / n*n+off % n=off:=Nat.div_add_mod' off n
         rcases hown.2 with⟨h0,_⟩|⟨g,o',cap',cur,hv',h0,hg,hn,hmx,hsz',htk⟩
         ·rw[h0]at hlt;simp at hlt
         ·rw[hm]at hv';simp at hv'
          obtain⟨⟨rfl,rfl⟩,rfl,rfl⟩:=hv'
          have hc0:cap≠0:=by omega
          have hblk:blkOf (m κ')=some b:=by rw[hm];simp[blkOf,hc0]
          have hfr:=frAt b (cur.toList.take (o+off)++z.cells.toList++cur.toList.drop (o+off+z.cells.size)).toArray _ hcs hblk
          have hkb: ∀b',blkOf (m κ')=some b'→(∃B0,gt κ' s.hp=some B0∧blkOf (m κ')=some b')∨w.heap.size≤b':=fun b' hb'=> .inl ⟨_,hcs,hb'⟩
          have hle0:off+dps.length≤xs.length*n:=by
           have:(off / n+1)*n≤xs.length*n:=Nat.mul_le_mul_right _ hlt
           rw[Nat.add_mul]at this;omega
          have hle2:xs.length*n≤cap*n:=Nat.mul_le_mul_right _ hn
          have hle1:o+off+z.cells.size≤cur.size:=by rw[hzs];omega
          refine⟨_,by rw[hu];exact runAt b (o+off) cur e hg (by rw[hzs];exact hsz) hle1 p2,?_⟩
          have hk:=h.setB_kept false κ' (.row e n (xs.set (off / n) (.agg (es.take (off % n)++dps++es.drop (off % n+dps.length)))) cc) (m κ') hfr hkb
          have hupm:=upm_self m κ'
          refine(h.setB false κ' _ (m κ') (.inr rfl) (.inr rfl) hfr hkb ?_).1
          rw[hupm]at hk ⊢
          have hset:=RepRow_part (r:=off % n) (i:=off / n) (RepRow.kept hk _ _ hones) (by omega) (RepRow.kept hk _ _ hr) hd
          rw[←Nat.add_assoc,e1]at hset
          refine⟨_,⟨(RepRow_get hset).1,.inr ⟨b,o,cap,_,by rw[hm];simp,h0,setRow_heap w b cur _ e _ hg,by simpa using hn,hmx,?_,?_⟩⟩,hcap,hset⟩
          ·simp only[List.size_toArray,List.length_append,List.length_take,List.length_drop,Array.length_toList,hzs]
           rw[hzs]at hle1
           omega
          ·simp only[List.length_set,hzs]
           rw[←htk,Nat.add_assoc o off _,drop_splice _ _ _ _ _ (by simp;omega)]
           exact take_splice _ _ _ _ _ (by simpa using hzs) hle0 (by simp;omega)
        ·cases hd'
       ·cases hd'
      ·cases hd'
     ·cases hB
    ·cases hB
   ·cases hB
  ·cases hB
 ·cases hB
def storeB(P:Program)(s:St)(t:TypeId)(ad v:AV):Option (Nat×Blk):=
 match storeB0 P s t ad v with
 |some r=>some r
 |none=>storeF P s t ad v
theorem SRep.store{P:Program}{c:Ctx}{m:Nat→Value}{s:St}{a:Act}{w:World}(h:SRep c m s a w){t κ:Nat}{ad v:AV}{u z:Value}{B:Blk}(ha:RepV w (Forb c m s.hp) m ad u)(hv:RepV w (Forb c m s.hp) m v z)(hB:storeB P s t ad v=some (κ,B)):
  ∃w',(Instr.storeAt t u z).run P w= .ok () w'∧SRep c (upm m κ (m κ)) (s.setB false κ B) a w':=by
 unfold storeB at hB
 split at hB
 ·rename_i r h1;cases hB;exact h.store0 ha hv h1
 ·exact h.storeF ha hv hB
def zeroD(P:Program)(t:TypeId):Option D:=
 match zeroT P t,aggT P t with
 |some zs,some true=>some (.agg (zs.map D.v))
 |some [z],some false=>some (.v z)
 |_,_=>none
def makeB(P:Program)(t:TypeId)(l c:Int):Option Blk:=
 match appT P t with
 |some (e,n,by')=>if 0≤c∧(by':Int)*c≤281474976710656∧c≤9223372036854775807∧(l=0∨l=c)then
   match zeroT P e with
   |some [.int k z]=>match intT P e with
    |some k'=>if n=1∧k=k'∧z=0 then some (.ints e k (List.replicate l.toNat 0) (some c.toNat))else none
    |none=>none
   |some zs=>match intT P e with
    |some _=>none
    |none=>match zeroD P e with
     |some d=>if d.size=n∧zs.length=n then some (.row e n (List.replicate l.toNat d) (some c.toNat))else none
     |none=>none
   |none=>none
  else none
 |none=>none
theorem CapIs_mk{n:Nat}{a:Option Addr}{l:Nat}:CapIs (some n) (.slice a l n):=fun q hq=>by cases hq;exact⟨_,_,rfl⟩
theorem madeCells_succ(z:Array Value)(h:0<z.size)(k:Nat):(madeCells z ((k+1)*z.size)).toList=(madeCells z (k*z.size)).toList++z.toList:=by
 unfold madeCells
 simp only[Array.toList_map,Array.toList_range]
 rw[Nat.succ_mul,List.range_add,List.map_append]
 congr 1
 apply List.ext_getElem
 ·simp
 ·intro j h1 h2
  have hj:j<z.size:=by simpa using h1
  simp only[List.getElem_map,List.getElem_range,Function.comp,Nat.mul_add_mod_self_right,List.map_map]
  rw[Nat.mod_eq_of_lt hj]
  simp[hj]
theorem madeCells_flat(z:Array Value)(h:0<z.size): ∀k:Nat,(madeCells z (k*z.size)).toList=(List.replicate k z.toList).flatten
 |0=>by simp[madeCells]
 |k+1=>by rw[madeCells_succ z h k,madeCells_flat z h k,List.replicate_succ',List.flatten_append];simp
theorem zeroRow_rep{P:Program}{w:World}{F:Nat→Prop}{e n:Nat}{d:D}{zs:List Value}(hzz:zeroT P e=some zs)(hd:zeroD P e=some d)(hn:zs.length=n): ∀q:Nat,RepRow w F (fun v=>v.cells.size=n) (List.replicate q d) (List.replicate q zs).flatten:=by
 have hone: ∀u∈zs,u.oneCell'=true:=(zeroT_run hzz w).choose_spec.2.2
 have rd: ∃v:Value,v.cells.toList=zs∧v.cells.size=n∧RepD w F d v:=by
  unfold zeroD at hd
  rw[hzz]at hd
  split at hd
  ·rename_i zs' h1 h2
   cases h1;cases hd
   refine⟨.agg zs.toArray,by simp[Value.cells],by simp[Value.cells,hn],?_⟩
   simp only[RepD]
   refine⟨zs,rfl,RepOnes_iff.2 ⟨by simp,fun j dd hj=> ?_⟩⟩
   rw[List.getElem?_map]at hj
   obtain⟨u,hu,rfl⟩:=Option.map_eq_some_iff.1 hj
   have:=hone u (List.mem_of_getElem? hu)
   exact⟨u,hu,this,by simp only[RepD];exact⟨trivial,this⟩⟩
  ·rename_i z' h1 h2
   cases h1;cases hd
   have:=hone z' (by simp)
   refine⟨z',by rw[cells_one this],by rw[cells_one this,←hn];rfl,by simp only[RepD];exact⟨trivial,this⟩⟩
  ·cases hd
 obtain⟨v,h1,h2,h3⟩:=rd
 intro q
 induction q with
 |zero=>simp[RepRow]
 |succ q ih=>
  rw[List.replicate_succ,List.replicate_succ,List.flatten_cons]
  simp only[RepRow]
  exact⟨v,_,by rw[h1],h2,h3,ih⟩
theorem SRep.make{P:Program}{c:Ctx}{m:Nat→Value}{s:St}{a:Act}{w:World}(h:SRep c m s a w){t κ:Nat}(h16:16≤κ){kl kc:IntKind}{l cp:Int}{B:Blk}(hB:makeB P t l cp=some B):
  ∃v w',(Instr.makeSlice t (.int kl l) (.int kc cp)).run P w= .ok v w'∧SRep c (upm m κ v) (s.setB true κ B) a w'∧v.oneCell'=true:=by
 unfold makeB at hB
 split at hB
 ·rename_i e n by' hT
  obtain⟨i,z,hu,hi,hz,hzs,hs,hby,hn0⟩:=appT_parts hT
  split at hB
  ·rename_i hcond
   obtain⟨h0,hb1,hm,hl⟩:=hcond
   have hcn:((cp.toNat:Nat):Int)=cp:=Int.toNat_of_nonneg h0
   have hb2:i.bytes*cp.toNat≤281474976710656:=by
    have:((i.bytes*cp.toNat:Nat):Int)≤281474976710656:=by rw[Int.natCast_mul,hcn,hby];exact hb1
    omega
   have hm2:cp.toNat≤maxLen:=by unfold maxLen;omega
   have hblk: ∀l':Nat,∀b,blkOf (.slice (some ⟨w.heap.size,0,none⟩) l' cp.toNat)=some b→w.heap.size≤b:=fun l' b hb=>by simp only[blkOf]at hb;split at hb<;>simp at hb;omega
   have hzt: ∀zs,zeroT P e=some zs→z.cells.toList=zs:=by
    intro zs hzz
    unfold zeroT at hzz
    simp only[hi,Option.bind_some,hz]at hzz
    split at hzz
    ·cases hzz;rfl
    ·cases hzz
   have run0:l=0→ ∃w',(Instr.makeSlice t (.int kl l) (.int kc cp)).run P w= .ok (.slice (some ⟨w.heap.size,0,none⟩) 0 cp.toNat) w'∧OwnRow w' e n (.slice (some ⟨w.heap.size,0,none⟩) 0 cp.toNat) 0 []∧Fr (fun _=>False) w w':=by
    rintro rfl
    obtain⟨w',r1,r2,r3⟩:=run_make_own (P:=P) w 0 t e i z n hu hi hz hs kl kc cp.toNat hb2 hm2 (Nat.zero_le _)
    rw[hcn]at r1
    exact⟨w',r1,ownRow_of r2,Fr.ofGrown r3 (fun k hk=>by cases hk)⟩
   have run1:l=cp→n=1→ ∃w' z0,z.cells= #[z0]∧(Instr.makeSlice t (.int kl l) (.int kc cp)).run P w= .ok (.slice (some ⟨w.heap.size,0,none⟩) cp.toNat cp.toNat) w'∧OwnRow w' e n (.slice (some ⟨w.heap.size,0,none⟩) cp.toNat cp.toNat) cp.toNat (List.replicate cp.toNat z0)∧Fr (fun _=>False) w w':=by
    rintro rfl rfl
    obtain⟨w',r1,r2,r3⟩:=run_make_full (P:=P) w 0 t e i z 1 hu hi hz hs kl kc l.toNat hb2 hm2 (Nat.zero_le _)
    rw[hcn]at r1
    obtain⟨z0,hz0⟩: ∃z0,z.cells= #[z0]:=by
     have:z.cells.toList.length=1:=by simpa using hzs
     obtain⟨z0,hz0⟩:=List.length_eq_one_iff.1 this
     exact⟨z0,by apply Array.ext';simpa using hz0⟩
    rw[hz0,Nat.mul_one,toList_madeCells_one]at r2
    exact⟨w',z0,hz0,r1,ownRow_of r2,Fr.ofGrown r3 (fun k hk=>by cases hk)⟩
   have runN:l=cp→ ∃w',(Instr.makeSlice t (.int kl l) (.int kc cp)).run P w= .ok (.slice (some ⟨w.heap.size,0,none⟩) cp.toNat cp.toNat) w'∧OwnRow w' e n (.slice (some ⟨w.heap.size,0,none⟩) cp.toNat cp.toNat) cp.toNat (List.replicate cp.toNat z.cells.toList).flatten∧Fr (fun _=>False) w w':=by
    rintro rfl
    obtain⟨w',r1,r2,r3⟩:=run_make_full (P:=P) w 0 t e i z n hu hi hz hs kl kc l.toNat hb2 hm2 (Nat.zero_le _)
    rw[hcn]at r1
    rw[←hzs,madeCells_flat z.cells (by omega),hzs]at r2
    exact⟨w',r1,ownRow_of r2,Fr.ofGrown r3 (fun k hk=>by cases hk)⟩
   split at hB
   ·rename_i k zz hzz
    have hz1:=hzt _ hzz
    split at hB
    ·rename_i k' hk'
     split at hB
     ·rename_i hc2
      obtain⟨rfl,rfl,rfl⟩:=hc2
      cases hB
      rcases hl with rfl|rfl
      ·obtain⟨w',r1,r2,r3⟩:=run0 rfl
       exact⟨_,w',r1,h.newRow κ h16 _ _ r3 (hblk 0) (.inl ⟨e,k,_,_,rfl,by simpa using r2,CapIs_mk⟩),rfl⟩
      ·obtain⟨w',z0,r0,r1,r2,r3⟩:=run1 rfl rfl
       have hz0:z0= .int k 0:=by rw[r0]at hz1;simpa using hz1
       subst hz0
       exact⟨_,w',r1,h.newRow κ h16 _ _ r3 (hblk _) (.inl ⟨e,k,_,_,rfl,by simpa using r2,CapIs_mk⟩),rfl⟩
     ·cases hB
    ·cases hB
   ·rename_i zs _ hzz
    have hz1:=hzt _ hzz
    split at hB
    ·cases hB
    ·split at hB
     ·rename_i d hd
      split at hB
      ·rename_i hc2
       obtain⟨hc2,hc3⟩:=hc2
       cases hB
       rcases hl with rfl|rfl
       ·obtain⟨w',r1,r2,r3⟩:=run0 rfl
        exact⟨_,w',r1,h.newRow κ h16 _ _ r3 (hblk 0) (.inr ⟨e,n,_,_,[],rfl,by simpa using r2,CapIs_mk,by simp[RepRow]⟩),rfl⟩
       ·obtain⟨w',r1,r2,r3⟩:=runN rfl
        refine⟨_,w',r1,h.newRow κ h16 _ _ r3 (hblk _) (.inr ⟨e,n,_,_,_,rfl,by simpa using r2,CapIs_mk,?_⟩),rfl⟩
        rw[hz1]
        exact zeroRow_rep hzz hd hc3 _
      ·cases hB
     ·cases hB
   ·cases hB
  ·cases hB
 ·cases hB
def appZB(P:Program)(s:St)(dst:Option Nat)(t t':TypeId)(x y:Option AV):Option (Nat×Blk):=
 match appT P t,intT P t',x,y with
 |some (e,n,by'),some _,some (.own κ),some (.d (.v (.int _ i)))=>match gt κ s.hp with
  |some B=>if n=1∧B.elem=e then omap (growZ P by' B i) fun B'=>(κ,B')else none
  |none=>none
 |_,_,_,_=>none
def appZ(P:Program)(s:St)(dst:Option Nat)(t t':TypeId)(x y:Option AV):Option St:=omap (appZB P s dst t t' x y) fun r=>(s.setB true r.1 r.2).put dst (.own r.1)
def stepB(P:Program)(s:St)(o:Oper):Option St:=
 match o.op with
  | .alloc e=>match o.dst,zeroT P e with
   |some d,some zs=>some ((s.setB true (kL d) (.box e (zs.map fun z=> .d (.v z)))).put o.dst (.ptr (kL d) 0))
   |_,_=>none
  | .box e x=>match o.dst,obind (s.ev x) AV.parts with
   |some d,some ps=>some ((s.setB true (kL d) (.box e (killVs (kL d) ps))).put o.dst (.ptr (kL d) 0))
   |_,_=>none
  | .buildSlice t n l=>match o.dst,obind (s.evP l.toList) (litX P (kO o.dst) t n)with
   |some d,some B=>some ((s.setB true (kL d) B).put o.dst (valB (kL d) B))
   |_,_=>none
  | .makeSlice t l cp=>match o.dst,s.ev l,s.ev cp with
   |some d,some (.d (.v (.int _ i))),some (.d (.v (.int _ j)))=>omap (makeB P t i j) fun B=>(s.setB true (kL d) B).put o.dst (.own (kL d))
   |_,_,_=>none
  | .store t ad x=>match s.ev ad,s.ev x with
   |some va,some vx=>omap (storeB P s t va vx) fun r=>(s.setB false r.1 r.2).put o.dst .bot
   |_,_=>none
  | .slice t x l hh mx=>match s.ev x with
   |some (.own κ)=>match obind (gt κ s.hp) Blk.data with
    |some d=>omap (valOp P (s.freeze κ d) o.op) fun v=>(s.freeze κ d).put o.dst v
    |none=>none
   |_=>none
  | .call cl=>match cl.callee,cl.args.toList,cl.argTypes.toList with
   | .builtin .append,[x,y],[t,t']=>if t≠t' then appZ P s o.dst t t' (s.ev x) (s.ev y)else match appVX P s o.dst t (s.ev x) (s.ev y)with
    |some r=>some ((s.setB true r.1 r.2).put o.dst (valB r.1 r.2))
    |none=>match appT P t,s.ev x,s.ev y with
    |some (e,n,by'),some (.own κ),some vy=>match gt κ s.hp with
     |some B=>if B.isRow n=true∧B.elem=e then omap (growB s by' B vy) fun B'=>(s.setB true κ B').put o.dst (.own κ)else none
     |none=>none
    |some (e,n,by'),some vx,some vy=>match o.dst,emptyB P t with
     |some d,some B=>if isEmptyA vx=true then
       let s1:=s.setB true (kL d) B
       omap (growB s1 by' B (killV (kL d) vy)) fun B'=>(s1.setB true (kL d) B').put o.dst (.own (kL d))
      else omap (growD s e n by' vx vy) fun B'=>(s.setB true (kL d) B').put o.dst (.own (kL d))
     |_,_=>none
    |_,_,_=>none
   |_,_,_=>none
  |_=>none
def step(P:Program)(s:St)(o:Oper):Option St:=
 if s.okDst o.dst=false then none else
 match valOp P s o.op with
 |some v=>some (s.put o.dst v)
 |none=>stepB P s o
theorem step_sound{P:Program}{c:Ctx}{m:Nat→Value}{s s':St}{a:Act}{w:World}{o:Oper}(hs:step P s o=some s')(h:SRep c m s a w): ∃m' u w',Did P o a w u w'∧SRep c m' s' (a.put o.dst u) w':=by
 have putOwn: ∀ {m':Nat→Value} {s1:St} {w':World} {κ:Nat} {v:Value},SRep c m' s1 a w'→s1.okDst o.dst=true→m' κ=v→v.oneCell'=true→SRep c m' (s1.put o.dst (.own κ)) (a.put o.dst v) w':=by
  intro m' s1 w' κ v h1 h2 h3 h4
  exact h1.put h2 (by simp only[RepV];exact⟨h3.symm,h4⟩)
 have okB: ∀(s:St) (k:Bool) (κ:Nat) (B:Blk),(s.setB k κ B).okDst o.dst=s.okDst o.dst:=by
  intro s k κ B
  cases hd:o.dst with
  |none=>rfl
  |some d=>simp only[St.okDst,St.setB];split<;>rfl
 unfold step at hs
 split at hs
 ·cases hs
 ·rename_i hok
  have hok:s.okDst o.dst=true:=by simpa using hok
  split at hs
  ·rename_i v hv
   cases hs
   obtain⟨u,h1,h2⟩:=valOp_sound h hv
   exact⟨m,u,w,.inl h1,h.put hok h2⟩
  ·unfold stepB at hs
   split at hs
   ·rename_i e ho
    split at hs
    ·rename_i d zs hd hz
     cases hs
     obtain⟨z,h1,h2,h3⟩:=zeroT_run hz w
     have hn:=h.newBox (kL d) (by unfold kL;omega) e (us:=z.cells) (by rw[h2];exact zeros_rep h3) (by rw[h2];exact h3)
     have hkk:killVs (kL d) (zs.map fun z=>AV.d (.v z))=zs.map fun z=>AV.d (.v z):=by
      clear hz h2 h3 hn h1
      induction zs with
      |nil=>rfl
      |cons z zs ih=>simp only[List.map_cons,killVs,killV,ih]
     rw[hkk]at hn
     refine⟨_,.pointer (some ⟨w.heap.size,0,none⟩),_,.inl ?_,hn.put (by rw[okB];exact hok) (by simp only[RepV,upm_same];exact⟨_,rfl,rfl⟩)⟩
     simp only[execOp,ho,Instr.alloc,Sem.run_bind,h1,Result.andThen_ok,newVar,Go.newRow,newObj,Sem.run]
     rfl
    ·cases hs
   ·rename_i e x ho
    split at hs
    ·rename_i d ps hd hps
     cases hs
     obtain⟨vx,hx,hps⟩:=Option.bind_eq_some_iff.1 hps
     obtain⟨h1,h2⟩:=parts_rep (h.ev hx) hps
     have hn:=h.newBox (kL d) (by unfold kL;omega) e h1 h2
     refine⟨_,.pointer (some ⟨w.heap.size,0,none⟩),_,.inl ?_,hn.put (by rw[okB];exact hok) (by simp only[RepV,upm_same];exact⟨_,rfl,rfl⟩)⟩
     simp only[execOp,ho,Instr.box,Sem.run_bind,newVar,Go.newRow,newObj,Sem.run]
     rfl
    ·cases hs
   ·rename_i t n l ho
    split at hs
    ·rename_i d B hd hB
     cases hs
     obtain⟨ps,hp,hB⟩:=Option.bind_eq_some_iff.1 hB
     rw[hd]at hB
     obtain⟨v,w',q,h1,h2,h3⟩:=h.litX (κ:=kL d) (by unfold kL;omega) hp hB
     refine⟨_,v,w',.inl ?_,h2.put (by rw[okB];exact hok) (h3 _ _)⟩
     have e1:(l.map fun p=>(p.1,a.eval p.2))=(l.toList.map fun p=>(p.1,a.eval p.2)).toArray:=by rw[←List.map_toArray,Array.toArray_toList]
     simp only[execOp,ho,Sem.run_bind]
     rw[e1,h1];rfl
    ·cases hs
   ·rename_i t l cp ho
    split at hs
    ·rename_i d kl i kc j hd hl hc
     obtain⟨B,hB,rfl⟩:=Option.map_eq_some_iff.1 hs
     have rl:=(repV_v.1 (h.ev hl)).1
     have rc:=(repV_v.1 (h.ev hc)).1
     obtain⟨v,w',h1,h2,h3⟩:=h.make (κ:=kL d) (by unfold kL;omega) (kl:=kl) (kc:=kc) hB
     refine⟨_,v,w',.inl ?_,putOwn h2 (by rw[okB];exact hok) (upm_same _ _ _) h3⟩
     simp only[execOp,ho,rl,rc,Sem.run_bind,h1];rfl
    ·cases hs
   ·rename_i t ad x ho
    split at hs
    ·rename_i va vx ha hx
     obtain⟨⟨κ,B⟩,hB,rfl⟩:=Option.map_eq_some_iff.1 hs
     obtain⟨w',h1,h2⟩:=h.store (h.ev ha) (h.ev hx) hB
     refine⟨_,undef,w',.inr ⟨rfl,?_⟩,h2.putBot (by rw[okB];exact hok) _⟩
     simp only[execOp,ho,Sem.run_bind,h1];rfl
    ·cases hs
   ·rename_i t x l hh mx ho
    split at hs
    ·rename_i κ hx
     split at hs
     ·rename_i d hd
      obtain⟨v,hv,rfl⟩:=Option.map_eq_some_iff.1 hs
      obtain⟨B,hB,hBd⟩:=Option.bind_eq_some_iff.1 hd
      have hf:=h.freeze hB hBd
      obtain⟨u,h1,h2⟩:=valOp_sound hf hv
      exact⟨m,u,w,.inl h1,hf.put (by rw[←hok];cases o.dst<;>rfl) h2⟩
     ·cases hs
    ·cases hs
   ·rename_i cl ho
    obtain⟨cal,args,tys⟩:=cl
    simp only at hs
    split at hs
    ·rename_i x y t t' hx ht
     have hx:args= #[x,y]:=by rw[←Array.toArray_toList (xs:=args),hx]
     have ht:tys= #[t,t']:=by rw[←Array.toArray_toList (xs:=tys),ht]
     subst hx ht
     split at hs
     ·obtain⟨⟨κ,B'⟩,hz,rfl⟩:=Option.map_eq_some_iff.1 hs
      unfold appZB at hz
      split at hz
      ·rename_i e n by' kn κ' kq i hT htn hvx hvy
       split at hz
       ·rename_i B hB
        split at hz
        ·rename_i hc
         obtain⟨rfl,he⟩:=hc
         obtain⟨B2,hB2,hr⟩:=Option.map_eq_some_iff.1 hz
         simp only[Prod.mk.injEq]at hr
         obtain⟨rfl,rfl⟩:=hr
         have rx:=h.ev hvx
         simp only[RepV]at rx
         have ry:=(repV_v.1 (h.ev hvy)).1
         obtain⟨v',w',h1,h2,h3⟩:=h.appendZ (ty:=o.type) (kq:=kq) hT htn hB he hB2
         refine⟨_,v',w',.inl ?_,putOwn h2 (by rw[okB];exact hok) (upm_same _ _ _) h3⟩
         simp only[execOp,ho,resolve,invoke,builtin,Sem.run_bind,Sem.run_pure,Result.andThen_ok,List.map_toArray,List.map_cons,List.map_nil,rx.1,ry,h1]
        ·cases hz
       ·cases hz
      ·cases hz
     ·rename_i htt
      have htt:t'=t:=by simpa using Eq.symm (by simpa using htt)
      subst htt
      have key: ∀v w' m' s1,(Builtin.append_ #[t',t'] o.type #[a.eval x,a.eval y]).run P w= .ok v w'→SRep c m' s1 (a.put o.dst v) w'→ ∃m' u w',Did P o a w u w'∧SRep c m' s1 (a.put o.dst u) w':=by
       intro v w' m' s1 hr hS
       refine⟨m',v,w',.inl ?_,hS⟩
       simp only[execOp,ho,resolve,invoke,builtin,Sem.run_bind,Sem.run_pure,Result.andThen_ok,List.map_toArray,List.map_cons,List.map_nil,hr]
      split at hs
      ·rename_i r hr
       cases hs
       obtain⟨κ,B⟩:=r
       have hvv: ∃vx vy,s.ev x=some vx∧s.ev y=some vy:=by
        unfold appVX at hr
        split at hr
        ·rename_i e1 e2;exact⟨_,_,e1,e2⟩
        ·cases hr
       obtain⟨vx,vy,hvx,hvy⟩:=hvv
       rw[hvx,hvy]at hr
       obtain⟨v',w',q,h1,h2,h3⟩:=h.appVX (ty:=o.type) hr (h.ev hvx) (h.ev hvy)
       exact key v' w' _ _ h1 (h2.put (by rw[okB];exact hok) (h3 _ _))
      split at hs
      ·rename_i e n by' κ vy hT hvx hvy
       split at hs
       ·rename_i B hB
        split at hs
        ·rename_i hc
         obtain⟨B',hB',rfl⟩:=Option.map_eq_some_iff.1 hs
         have rx:=h.ev hvx
         simp only[RepV]at rx
         obtain⟨v',w',h1,h2,h3⟩:=h.append (ty:=o.type) hT hB hc.1 hc.2 hB' (h.ev hvy)
         exact key v' w' _ _ (by rw[rx.1];exact h1) (putOwn h2 (by rw[okB];exact hok) (upm_same _ _ _) h3)
        ·cases hs
       ·cases hs
      ·rename_i e n by' vx vy hno hT hvx hvy
       split at hs
       ·rename_i d B hd hB
        split at hs
        ·rename_i hemp
         obtain⟨B',hB',rfl⟩:=Option.map_eq_some_iff.1 hs
         obtain⟨ad,had⟩:=isEmptyA_val (h.ev hvx) hemp
         obtain⟨e',n',by'',hT',hb1,hb2,hb3⟩:=emptyB_parts hB
         rw[hT]at hT'
         simp only[Option.some.injEq,Prod.mk.injEq]at hT'
         obtain⟨rfl,rfl,rfl⟩:=hT'
         obtain⟨hm1,hk1⟩:=h.mat (kL d) B ad (by unfold kL;omega) hb3
         have hself:gt (kL d) (s.setB true (kL d) B).hp=some B:=by simp[St.setB,gt_ins_same]
         have hy1:=RepV.kill (m':=upm m (kL d) (.slice ad 0 0)) (fun j hj=>upm_ne _ _ hj) vy _ (RepV.kept hk1 (Nat.le_refl _) vy _ (h.ev hvy))
         obtain⟨v',w',h1,h2,h3⟩:=hm1.append (ty:=o.type) hT hself hb1 hb2 hB' hy1
         rw[upm_same]at h1
         refine key v' w' _ _ (by rw[had];exact h1) (putOwn h2 (by rw[okB,okB];exact hok) (upm_same _ _ _) h3)
        ·obtain⟨B',hB',rfl⟩:=Option.map_eq_some_iff.1 hs
         obtain⟨v',w',h1,h2,h3⟩:=h.appendD (ty:=o.type) (κ:=kL d) hT (by unfold kL;omega) hB' (h.ev hvx) (h.ev hvy)
         exact key v' w' _ _ h1 (putOwn h2 (by rw[okB];exact hok) (upm_same _ _ _) h3)
       ·cases hs
      ·cases hs
    ·cases hs
   ·cases hs
def isBlt:Call→Bool
 | {callee:= .builtin .append,.. }=>true
 |_=>false
def stepF(P:Program)(s:St)(o:Oper):Option St:=
 if s.okDst o.dst=true then
  match o.op with
  | .alloc _=>stepB P s o
  | .box _ _=>stepB P s o
  | .buildSlice _ _ _=>stepB P s o
  | .makeSlice _ _ _=>stepB P s o
  | .store _ _ _=>stepB P s o
  | .slice t x l h m=>match s.ev x with
   |some (.own _)=>stepB P s o
   |_=>omap (valOp P s (.slice t x l h m)) (s.put o.dst)
  | .call c=>if isBlt c then stepB P s o else omap (valOp P s (.call c)) (s.put o.dst)
  |op=>omap (valOp P s op) (s.put o.dst)
 else none
theorem stepF_step{P:Program}{s s':St}{o:Oper}(h:stepF P s o=some s'):step P s o=some s':=by
 unfold stepF at h
 split at h
 ·rename_i hok
  have val: ∀op,o.op=op→omap (valOp P s op) (s.put o.dst)=some s'→step P s o=some s':=by
   intro op ho hv
   obtain⟨v,h1,rfl⟩:=Option.map_eq_some_iff.1 hv
   unfold step
   rw[hok,ho,h1];rfl
  have blk:valOp P s o.op=none→stepB P s o=some s'→step P s o=some s':=by
   intro h1 h2
   unfold step
   rw[hok,h1];exact h2
  split at h
  ·rename_i e ho;exact blk (by rw[ho];rfl) h
  ·rename_i e x ho;exact blk (by rw[ho];rfl) h
  ·rename_i t n l ho;exact blk (by rw[ho];rfl) h
  ·rename_i t l c ho;exact blk (by rw[ho];rfl) h
  ·rename_i t x v ho;exact blk (by rw[ho];rfl) h
  ·rename_i t x l hh m ho
   split at h
   ·rename_i κ hx
    refine blk ?_ h
    rw[ho]
    simp only[valOp,hx]
    split
    ·rename_i vx il ih im h1 h2 h3 h4
     cases h1
     simp only[sliceV]
    ·rfl
   ·exact val _ ho h
  ·rename_i c ho
   split at h
   ·rename_i hb
    refine blk ?_ h
    rw[ho]
    obtain⟨cal,args,tys⟩:=c
    cases cal with
    |builtin b=>cases b<;>first|rfl|simp[isBlt]at hb
    |_=>simp[isBlt]at hb
   ·exact val _ ho h
  ·exact val _ rfl h
 ·cases h
def AWp(P:Program)(c:Code)(Q:Exit→St→Prop)(s:St):Prop:=
 ∀(cx:Ctx) (m:Nat→Value) (a:Act) (w:World),SRep cx m s a w→c.wp P (fun e a' w'=> ∃s' m',Q e s'∧SRep cx m' s' a' w') a w
def AWpL(P:Program)(ops:Array Oper)(l:List Oper)(Q:St→Prop)(s:St):Prop:=
 ∀(cx:Ctx) (m:Nat→Value) (a:Act) (w:World) (K:Exit→Act→World→Prop),SRep cx m s a w→(∀s' m' a' w',Q s'→SRep cx m' s' a' w'→K .normal a' w')→wpList P ops K l a w
def Xthen(next:St→Prop)(Q:Exit→St→Prop):Exit→St→Prop
 | .normal,s=>next s
 |e,s=>Q e s
def Xblock(id:Nat)(Q:Exit→St→Prop):Exit→St→Prop
 | .exit id',s=>if id'=id then Q .normal s else Q (.exit id') s
 |e,s=>Q e s
def Xscope(Q:Exit→St→Prop):Exit→St→Prop
 | .goto _,_=>False
 |e,s=>Q e s
section
variable {P:Program} {Q:Exit→St→Prop} {s:St}
theorem awp_skip(h:Q .normal s):AWp P .skip Q s:=fun cx m a w hr=>wp_skip ⟨s,m,h,hr⟩
theorem awp_label{l:Nat}(h:Q .normal s):AWp P (.label l) Q s:=fun cx m a w hr=>wp_label ⟨s,m,h,hr⟩
theorem awp_exit{id:Nat}(h:Q (.exit id) s):AWp P (.exit id) Q s:=fun cx m a w hr=>wp_exit ⟨s,m,h,hr⟩
theorem awp_ret(h:Q .ret s):AWp P .ret Q s:=fun cx m a w hr=>wp_ret ⟨s,m,h,hr⟩
theorem awp_goto{l:Nat}(h:Q (.goto l) s):AWp P (.goto l) Q s:=fun cx m a w hr=>wp_goto ⟨s,m,h,hr⟩
theorem awp_seq{x y:Code}(h:AWp P x (Xthen (AWp P y Q) Q) s):AWp P (.seq x y) Q s:=by
 intro cx m a w hr
 refine wp_seq (Code.wp_mono ?_ (h cx m a w hr))
 rintro e a' w' ⟨s',m',h1,h2⟩
 cases e with
 |normal=>exact h1 cx m' a' w' h2
 |_=>exact⟨s',m',h1,h2⟩
theorem awp_block{id:Nat}{c:Code}(h:AWp P c (Xblock id Q) s):AWp P (.block id c) Q s:=by
 intro cx m a w hr
 refine wp_block (Code.wp_mono ?_ (h cx m a w hr))
 rintro e a' w' ⟨s',m',h1,h2⟩
 cases e with
 |exit id'=>
  simp only[Exit.inBlock]
  simp only[Xblock]at h1
  split
  ·rename_i hid;rw[if_pos hid]at h1;exact⟨s',m',h1,h2⟩
  ·rename_i hid;rw[if_neg hid]at h1;exact⟨s',m',h1,h2⟩
 |_=>exact⟨s',m',h1,h2⟩
theorem awp_scope{c:Code}(h:AWp P c (Xscope Q) s):AWp P (.scope c) Q s:=by
 intro cx m a w hr
 refine wp_scope_straight (Code.wp_mono ?_ (h cx m a w hr))
 rintro e a' w' ⟨s',m',h1,h2⟩
 cases e with
 |goto l=>exact h1.elim
 |_=>exact⟨s',m',h1,h2⟩
theorem awp_cond{c:Operand}{x y:Code}{b:Bool}(hc:s.ev c=some (.d (.v (.bool b))))(ht:b=true→AWp P x Q s)(hf:b=false→AWp P y Q s):AWp P (.cond c x y) Q s:=by
 intro cx m a w hr
 have:=(repV_v.1 (hr.ev hc)).1
 cases b with
 |true=>exact wp_cond this (ht rfl cx m a w hr)
 |false=>exact wp_cond this (hf rfl cx m a w hr)
theorem awp_cond_true{c:Operand}{x y:Code}(hc:s.ev c=some (.d (.v (.bool true))))(ht:AWp P x Q s):AWp P (.cond c x y) Q s:=awp_cond hc (fun _=>ht) (fun h=>by cases h)
theorem awp_cond_false{c:Operand}{x y:Code}(hc:s.ev c=some (.d (.v (.bool false))))(hf:AWp P y Q s):AWp P (.cond c x y) Q s:=awp_cond hc (fun h=>by cases h) (fun _=>hf)
def LoopAt(P:Program)(c:Code)(Q:Exit→Act→World→Prop)(a:Act)(w:World):Prop:=
 ∀(b:Frame) (k:List Item) (cs:List Frame),∃e a' w',Q e a' w'∧Arrives P (lone (b.at a (.code c:: .inLoop c::k)) cs w) b k cs e a' w'
theorem loopAt_of{c:Code}{Q:Exit→Act→World→Prop}{a:Act}{w:World}(h:LoopAt P c Q a w):(Code.loop c).wp P Q a w:=fun b k cs=>
 let ⟨e,a',w',h1,h2⟩:=h b k cs
 ⟨e,a',w',h1,.of_steps (.one step_loop) h2⟩
theorem loopAt_step{c:Code}{Q:Exit→Act→World→Prop}{a:Act}{w:World}(h:c.wp P (Exit.then (LoopAt P c Q) Q) a w):LoopAt P c Q a w:=by
 intro b k cs
 obtain⟨e,a₁,w₁,hq,harr⟩:=h b (.inLoop c::k) cs
 cases e with
 |normal=>
  obtain⟨e₂,a₂,w₂,hq₂,harr₂⟩:=hq b k cs
  exact⟨e₂,a₂,w₂,hq₂,.of_steps (Steps.trans harr (.one step_inLoop)) harr₂⟩
 |exit id=>exact⟨_,a₁,w₁,hq,.pass (x:= .inLoop c) rfl (fun _ _=> .inl (by simp)) harr⟩
 |goto l=>exact⟨_,a₁,w₁,hq,.pass (x:= .inLoop c) rfl (fun _ _=> .inl (by simp)) harr⟩
 |ret=>exact⟨_,a₁,w₁,hq,.pass (x:= .inLoop c) rfl (fun _ _=> .inl (by simp)) harr⟩
 |panic ch=>exact⟨_,a₁,w₁,hq,.pass (x:= .inLoop c) rfl (fun _ _=> .inl (by simp)) harr⟩
 |outgrown=>exact⟨_,a₁,w₁,hq,.pass (x:= .inLoop c) rfl (fun _ _=> .inl (by simp)) harr⟩
def gtO:Option Nat→List (Nat×AV)→Option AV
 |some t,l=>gt t l
 |none,_=>none
theorem gtO_some{o:Option Nat}{l:List (Nat×AV)}{v:AV}(h:gtO o l=some v): ∃t,o=some t∧gt t l=some v:=by
 cases o with
 |none=>cases h
 |some t=>exact⟨t,rfl,h⟩
theorem SRep.putNone{c:Ctx}{m:Nat→Value}{s:St}{a:Act}{w:World}(h:SRep c m s a w){dst:Option Nat}(hd:s.okDst dst=true):SRep c m (s.put dst (.tup [])) (a.put dst undef) w:=
 h.put hd (by simp only[RepV,RepVs];exact⟨[],rfl,rfl⟩)
theorem gt_none{cx:Ctx}{m:Nat→Value}{s:St}{a:Act}{w:World}(h:SRep cx m s a w){t:Nat}(ht:gt t s.tm=some (.tup [])): ∀b,a.tmps[t]? ≠some (.bool b):=by
 intro b hb
 have h1:=h.slot t _ ht
 simp only[RepV,RepVs]at h1
 obtain⟨us,h2,h3⟩:=h1
 rw[Array.getD_eq_getD_getElem?,hb]at h2
 simp at h2
def stepG(P:Program)(ops:Array Oper)(s:St)(o:Oper):Option St:=
 match o.guard with
 |none=>stepF P s o
 |some (j,want)=>match gtO (obind ops[j]? Oper.dst) s.tm with
  |some (.d (.v (.bool b)))=>if b=want then stepF P s o else if s.okDst o.dst=true then some (s.put o.dst (.tup []))else none
  |some (.tup [])=>if s.okDst o.dst=true then some (s.put o.dst (.tup []))else none
  |_=>none
def runO(P:Program)(ops:Array Oper):List Oper→Option St→Option St
 | [],r=>r
 |o::l,some s=>runO P ops l (stepG P ops s o)
 |_::_,none=>none
def runG(P:Program)(ops:Array Oper)(l:List Oper)(s:St):Option St:=runO P ops l (some s)
theorem runO_none(P:Program)(ops:Array Oper): ∀l,runO P ops l none=none
 | []=>rfl
 |_::_=>rfl
theorem gt_lt{cx:Ctx}{m:Nat→Value}{s:St}{a:Act}{w:World}(h:SRep cx m s a w){t:Nat}{b:Bool}(ht:gt t s.tm=some (.d (.v (.bool b)))):a.tmps[t]? =some (.bool b):=by
 have h1:=(repV_v.1 (h.slot t _ ht)).1
 rw[Array.getD_eq_getD_getElem?]at h1
 cases hh:a.tmps[t]? with
 |none=>rw[hh]at h1;simp[undef]at h1
 |some v=>rw[hh]at h1;simpa using h1
theorem wanted_none{o:Oper}(h:o.guard=none)(y:Nat→Option Bool):Region.wanted o y=true:=by simp[Region.wanted,h]
theorem awpl_nil{ops:Array Oper}{Q:St→Prop}(h:Q s):AWpL P ops [] Q s:=fun cx m a w K hr hk=>hk s m a w h hr
theorem awpl_step{ops:Array Oper}{o:Oper}{l:List Oper}{Q:St→Prop}{s':St}(hs:stepG P ops s o=some s')(h:AWpL P ops l Q s'):AWpL P ops (o::l) Q s:=by
 intro cx m a w K hr hk
 have run:stepF P s o=some s'→o.wp P a w (wpList P ops K l) K:=by
  intro hst
  replace hst:=stepF_step hst
  obtain⟨m',u,w',hd,hr'⟩:=step_sound hst hr
  unfold Oper.wp
  rcases hd with hd|⟨rfl,hd⟩
  ·rw[hd];exact h cx m' _ _ K hr' hk
  ·rw[hd];exact h cx m' _ _ K hr' hk
 unfold wpList
 unfold stepG at hs
 split at hs
 ·rename_i hg
  rw[if_pos (wanted_none hg _)]
  exact .inl (run hs)
 ·rename_i j want hg
  split at hs
  ·rename_i b hb
   obtain⟨t,ht,hb⟩:=gtO_some hb
   replace ht:(ops[j]?).bind (·.dst)=some t:=ht
   have hy:yielded ops a.tmps j=some b:=by
    unfold yielded
    rw[ht]
    simp only[Option.bind_some,gt_lt hr hb]
   have hw:Region.wanted o (yielded ops a.tmps)=decide (b=want):=by
    simp only[Region.wanted,hg,hy]
    by_cases h:b=want<;>simp[h]
   split at hs
   ·rename_i hbw
    rw[if_pos (by rw[hw];simpa using hbw)]
    exact .inl (run hs)
   ·rename_i hbw
    rw[if_neg (by rw[hw];simpa using hbw)]
    split at hs
    ·rename_i hok
     cases hs
     exact h cx m _ _ K (hr.putNone hok) hk
    ·cases hs
  ·rename_i hb
   obtain⟨t,ht,hb⟩:=gtO_some hb
   replace ht:(ops[j]?).bind (·.dst)=some t:=ht
   have hy:yielded ops a.tmps j=none:=by
    unfold yielded
    rw[ht]
    simp only[Option.bind_some]
    have:=gt_none hr hb
    split
    ·rename_i b hbb;exact absurd hbb (this b)
    ·rfl
   have hw:Region.wanted o (yielded ops a.tmps)=false:=by
    simp only[Region.wanted,hg,hy];rfl
   rw[if_neg (by rw[hw];simp)]
   split at hs
   ·rename_i hok
    cases hs
    exact h cx m _ _ K (hr.putNone hok) hk
   ·cases hs
  ·cases hs
theorem awpl_run{ops:Array Oper}{Q:St→Prop}: ∀ {l:List Oper} {s s':St},runG P ops l s=some s'→Q s'→AWpL P ops l Q s
 | [],s,s',h,hq=>by simp only[runG,runO,Option.some.injEq]at h;subst h;exact awpl_nil hq
 |o::l,s,s',h,hq=>by
  simp only[runG,runO]at h
  cases h1:stepG P ops s o with
  |none=>rw[h1,runO_none]at h;cases h
  |some s1=>rw[h1]at h;exact awpl_step h1 (awpl_run h hq)
theorem awp_region{id:Nat}{ops:Array Oper}(h:AWpL P ops ops.toList (Q .normal) s):AWp P (.region id ops false) Q s:=fun cx m a w hr=>
 wp_region_list (h cx m a w _ hr (fun s' m' a' w' hq hr'=>⟨s',m',hq,hr'⟩))
theorem awp_region_run{id:Nat}{l:List Oper}{s':St}(h:runG P l.toArray l s=some s')(hq:Q .normal s'):AWp P (.region id l.toArray false) Q s:=
 awp_region (awpl_run (by simpa using h) hq)
theorem awp_region_lit{id:Nat}{l:List Oper}(h:AWpL P l.toArray l (Q .normal) s):AWp P (.region id l.toArray false) Q s:=awp_region (by simpa using h)
end
def posOf(κ:Nat):List Nat→Option Nat
 | []=>none
 |k::l=>if κ=k then some 0 else omap (posOf κ l) (· +1)
theorem posOf_get{κ:Nat}: ∀ {ks:List Nat} {j:Nat},posOf κ ks=some j→ks[j]? =some κ
 |k::l,j,h=>by
  simp only[posOf]at h
  split at h
  ·rename_i e;cases h;subst e;rfl
  ·obtain⟨i,hi,rfl⟩:=Option.map_eq_some_iff.1 h
   simpa using posOf_get hi
theorem posOf_self: ∀ {ks:List Nat} {j κ:Nat},ks.Nodup→ks[j]? =some κ→posOf κ ks=some j
 |k::l,0,κ,_,h=>by simp at h;subst h;simp[posOf]
 |k::l,j+1,κ,hn,h=>by
  have h':l[j]? =some κ:=by simpa using h
  have hne:κ≠k:=by
   intro e;subst e
   exact(List.nodup_cons.1 hn).1 (List.mem_of_getElem? h')
  simp[posOf,hne,posOf_self (List.nodup_cons.1 hn).2 h',omap]
mutual
def renV(f:Nat→Option Nat):AV→AV
 | .d x=> .d x
 | .ptr κ off=>match f κ with|some j=> .ptr j off|none=> .bot
 | .own κ=>match f κ with|some j=> .own j|none=> .bot
 | .pel κ off=>match f κ with|some j=> .pel j off|none=> .bot
 | .eaddr x=> .eaddr x
 | .agg cs=> .agg (renVs f cs)
 | .tup vs=> .tup (renVs f vs)
 | .clos g caps=> .clos g (renVs f caps)
 | .wrap k v=> .wrap k (renV f v)
 | .bot=> .bot
termination_by structural v=>v
def renVs(f:Nat→Option Nat):List AV→List AV
 | []=> []
 |v::vs=>renV f v::renVs f vs
termination_by structural vs=>vs
end
def renB(f:Nat→Option Nat):Blk→Blk
 | .box e cs=> .box e (renVs f cs)
 | .map kvs=> .map (renVs f kvs)
 | .vrow e xs=> .vrow e (renVs f xs)
 |b=>b
mutual
theorem RepV.ren{w:World}{F:Nat→Prop}{m m':Nat→Value}{f:Nat→Option Nat}(hf: ∀κ j,f κ=some j→m' j=m κ): ∀(v:AV) (u:Value),RepV w F m v u→RepV w F m' (renV f v) u
 | .d x,u,h=>by simpa only[renV,RepV]using h
 | .ptr κ off,u,h=>by
  simp only[renV]
  split
  ·rename_i j hj;simp only[RepV]at h ⊢;rw[hf κ j hj];exact h
  ·simp only[RepV]
 | .own κ,u,h=>by
  simp only[renV]
  split
  ·rename_i j hj;simp only[RepV]at h ⊢;rw[hf κ j hj];exact h
  ·simp only[RepV]
 | .pel κ off,u,h=>by
  simp only[renV]
  split
  ·rename_i j hj;simp only[RepV]at h ⊢;rw[hf κ j hj];exact h
  ·simp only[RepV]
 | .eaddr x,u,h=>by simpa only[renV,RepV]using h
 | .agg cs,u,h=>by
  simp only[renV,RepV]at h ⊢
  obtain⟨us,h1,h2,h3⟩:=h
  exact⟨us,h1,RepVs.ren hf cs us h2,h3⟩
 | .tup vs,u,h=>by
  simp only[renV,RepV]at h ⊢
  obtain⟨us,h1,h2⟩:=h
  exact⟨us,h1,RepVs.ren hf vs us h2⟩
 | .clos g caps,u,h=>by
  simp only[renV,RepV]at h ⊢
  obtain⟨us,h1,h2⟩:=h
  exact⟨us,h1,RepVs.ren hf caps us h2⟩
 | .wrap k v,u,h=>by
  simp only[renV,RepV]at h ⊢
  obtain⟨u0,h1,h2⟩:=h
  exact⟨u0,h1,RepV.ren hf v u0 h2⟩
 | .bot,u,h=>by simp only[renV,RepV]
theorem RepVs.ren{w:World}{F:Nat→Prop}{m m':Nat→Value}{f:Nat→Option Nat}(hf: ∀κ j,f κ=some j→m' j=m κ): ∀(vs:List AV) (us:List Value),RepVs w F m vs us→RepVs w F m' (renVs f vs) us
 | [],us,h=>by simpa only[renVs,RepVs]using h
 |v::vs,us,h=>by
  simp only[renVs,RepVs]at h ⊢
  obtain⟨u,rest,h1,h2,h3⟩:=h
  exact⟨u,rest,h1,RepV.ren hf v u h2,RepVs.ren hf vs rest h3⟩
end
theorem RepB.ren{w:World}{F:Nat→Prop}{m m':Nat→Value}{f:Nat→Option Nat}(hf: ∀κ j,f κ=some j→m' j=m κ){κ j:Nat}(hj:m' j=m κ){B:Blk}(h:RepB w F m κ B):RepB w F m' j (renB f B):=by
 cases B with
 |box e cs=>
  obtain⟨b,c,h1,h2,h3,h4⟩:=h
  exact⟨b,c,by rw[hj];exact h1,h2,RepVs.ren hf _ _ h3,h4⟩
 |ints e k xs c=>simp only[renB,RepB,hj]at h ⊢;exact h
 |row e n xs c=>simp only[renB,RepB,hj]at h ⊢;exact h
 |map kvs=>
  obtain⟨b,es,ck,h1,h2,h3⟩:=h
  exact⟨b,es,ck,by rw[hj];exact h1,h2,RepVs.ren hf _ _ h3⟩
 |vrow e xs=>
  obtain⟨vals,h,h2,h3⟩:=h
  exact⟨vals,by rw[hj];exact h,RepVs.ren hf _ _ h2,h3⟩
def hpFrom(i:Nat):List Blk→List (Nat×Blk)
 | []=> []
 |B::l=>(i,B)::hpFrom (i+1) l
theorem gt_hpFrom: ∀ {bs:List Blk} {i j:Nat} {B:Blk},gt j (hpFrom i bs)=some B↔i≤j∧bs[j - i]? =some B
 | [],i,j,B=>by simp[hpFrom,gt]
 |b::bs,i,j,B=>by
  simp only[hpFrom,gt]
  split
  ·rename_i e;subst e;simp
  ·rename_i hne
   rw[gt_hpFrom (bs:=bs)]
   constructor
   ·rintro⟨h1,h2⟩
    refine⟨by omega,?_⟩
    rw[show j - i=(j - (i+1))+1 by omega]
    simpa using h2
   ·rintro⟨h1,h2⟩
    refine⟨by omega,?_⟩
    rw[show j - i=(j - (i+1))+1 by omega]at h2
    simpa using h2
theorem gt_hp0{bs:List Blk}{j:Nat}{B:Blk}:gt j (hpFrom 0 bs)=some B↔bs[j]? =some B:=by simp[gt_hpFrom]
def St.bare(bs:List Blk):St:=⟨0,[],hpFrom 0 bs⟩
def Act.none0:Act:=⟨#[],[]⟩
def pickB(f:Nat→Option Nat)(hp:List (Nat×Blk)):List Nat→Option (List Blk)
 | []=>some []
 |κ::l=>match gt κ hp,pickB f hp l with
  |some B,some r=>some (renB f B::r)
  |_,_=>none
theorem pickB_get{f:Nat→Option Nat}{hp:List (Nat×Blk)}: ∀ {ks:List Nat} {bs:List Blk},pickB f hp ks=some bs→bs.length=ks.length∧ ∀(j κ:Nat),ks[j]? =some κ→ ∃B,gt κ hp=some B∧bs[j]? =some (renB f B)
 | [],bs,h=>by simp only[pickB,Option.some.injEq]at h;subst h;simp
 |κ::l,bs,h=>by
  simp only[pickB]at h
  split at h
  ·rename_i B r hB hr
   cases h
   obtain⟨h1,h2⟩:=pickB_get hr
   refine⟨by simp[h1],fun j κ' hj=> ?_⟩
   cases j with
   |zero=>simp at hj;subst hj;exact⟨B,hB,rfl⟩
   |succ j=>simpa using h2 j κ' (by simpa using hj)
  ·cases h
def mapOf(m:Nat→Value)(ks:List Nat):Nat→Value:=fun j=>m (ks.getD j 0)
theorem mapOf_get{m:Nat→Value}{ks:List Nat}{j κ:Nat}(h:ks[j]? =some κ):mapOf m ks j=m κ:=by simp[mapOf,List.getD,h]
theorem SRep.hand{c c':Ctx}{m:Nat→Value}{s:St}{a:Act}{w:World}(h:SRep c m s a w)(ks:List Nat){bs:List Blk}(hn:ks.Nodup)(hb:pickB (posOf · ks) s.hp ks=some bs)
  (hX1: ∀b,c'.X b→Forb c m s.hp b)(hX2: ∀κ b,κ∈ks→blkOf (m κ)=some b→ ¬c'.X b)
  (hold: ∀κ b,κ∈ks→blkOf (m κ)=some b→c'.S b∨c'.w0.heap.size≤b)(hfr:Fr c'.S c'.w0 w)(hxlt: ∀b,c'.X b→b<c'.w0.heap.size)
  (hpin: ∀j v,c'.pin j=some v→mapOf m ks j=v)(hpinp: ∀j v,c'.pin j=some v→j<16∧ ∃b,v= .pointer b)(hgl:GC c'):
  SRep c' (mapOf m ks) (St.bare bs) Act.none0 w∧(∀v u,RepV w (Forb c m s.hp) m v u→RepV w (Forb c' (mapOf m ks) (hpFrom 0 bs)) (mapOf m ks) (renV (posOf · ks) v) u):=by
 obtain⟨hl,hget⟩:=pickB_get hb
 have hf: ∀κ j,posOf κ ks=some j→mapOf m ks j=m κ:=fun κ j hj=>mapOf_get (posOf_get hj)
 have hdom: ∀j B,gt j (hpFrom 0 bs)=some B→ ∃κ B0,ks[j]? =some κ∧gt κ s.hp=some B0∧B=renB (posOf · ks) B0:=by
  intro j B hj
  rw[gt_hp0]at hj
  have hlt:j<ks.length:=by rw[←hl];exact(List.getElem?_eq_some_iff.1 hj).1
  have hk:ks[j]? =some ks[j]:=by simp[hlt]
  obtain⟨B0,h1,h2⟩:=hget j _ hk
  rw[hj]at h2;cases h2
  exact⟨_,B0,hk,h1,rfl⟩
 have hF: ∀b,Forb c' (mapOf m ks) (hpFrom 0 bs) b→Forb c m s.hp b:=by
  rintro b (hX|⟨j,B,hj,hbb⟩)
  ·exact hX1 b hX
  ·obtain⟨κ,B0,h1,h2,_⟩:=hdom j B hj
   rw[mapOf_get h1]at hbb
   exact .inr ⟨κ,B0,h2,hbb⟩
 have hk:Kept w (Forb c m s.hp) w (Forb c' (mapOf m ks) (hpFrom 0 bs)):=fun b _ hb=>⟨fun h'=>hb (hF b h'),rfl⟩
 refine⟨⟨Marks.nil _ _,rfl,by simp[St.bare,gt],?_,?_,?_,?_,hfr,hxlt,hpin,hpinp,hgl⟩,fun v u hv=>RepV.ren hf v u (RepV.kept hk (Nat.le_refl _) v u hv)⟩
 ·intro j B hj
  obtain⟨κ,B0,h1,h2,rfl⟩:=hdom j B hj
  exact RepB.ren hf (mapOf_get h1) (RepB.kept hk (Nat.le_refl _) (fun _ _ _=>rfl) (h.heap κ B0 h2))
 ·intro j j' B B' b hj hj' hne h1 h2
  obtain⟨κ,B0,k1,k2,_⟩:=hdom j B hj
  obtain⟨κ',B0',k3,k4,_⟩:=hdom j' B' hj'
  rw[mapOf_get k1]at h1
  rw[mapOf_get k3]at h2
  refine h.sep κ κ' B0 B0' b k2 k4 (fun e=>hne ?_) h1 h2
  subst e
  have e1:=posOf_self hn k1
  have e2:=posOf_self hn k3
  rw[e1]at e2;simpa using e2
 ·intro j B b hj h1
  obtain⟨κ,B0,k1,k2,_⟩:=hdom j B hj
  rw[mapOf_get k1]at h1
  exact hX2 κ b (List.mem_of_getElem? k1) h1
 ·intro j B b hj h1
  obtain⟨κ,B0,k1,k2,_⟩:=hdom j B hj
  rw[mapOf_get k1]at h1
  exact hold κ b (List.mem_of_getElem? k1) h1
def ACall(P:Program)(f:FuncId)(vs:List AV)(hs:List Blk)(Post:AV→List Blk→Prop):Prop:=
 ∀(cx:Ctx) (m:Nat→Value) (us:List Value) (w:World),SRep cx m (St.bare hs) Act.none0 w→RepVs w (Forb cx m (hpFrom 0 hs)) m vs us→(∀κ v,cx.pin κ=some v→κ<hs.length)→
  Calls P f us.toArray w fun e w'=> ∃u m' r hs',e= .returned u∧Post r hs'∧hs.length≤hs'.length∧SRep cx m' (St.bare hs') Act.none0 w'∧RepV w' (Forb cx m' (hpFrom 0 hs')) m' r u
theorem ACall.mono{P:Program}{f:FuncId}{vs:List AV}{hs:List Blk}{Post Post':AV→List Blk→Prop}(h:ACall P f vs hs Post)(hp: ∀r hs',Post r hs'→Post' r hs'):ACall P f vs hs Post':=
 fun cx m us w h1 h2 h3=>(h cx m us w h1 h2 h3).mono fun e w' ⟨u,m',r,hs',h4,h5,h6⟩=>⟨u,m',r,hs',h4,hp r hs' h5,h6⟩
def tmFrom(i:Nat):List AV→List (Nat×AV)
 | []=> []
 |v::l=>(i,v)::tmFrom (i+1) l
theorem gt_tmFrom: ∀ {vs:List AV} {i j:Nat} {v:AV},gt j (tmFrom i vs)=some v→i≤j∧vs[j - i]? =some v
 | [],i,j,v,h=>by simp[tmFrom,gt]at h
 |x::vs,i,j,v,h=>by
  simp only[tmFrom,gt]at h
  split at h
  ·rename_i e;subst e;simp at h;subst h;simp
  ·obtain⟨h1,h2⟩:=gt_tmFrom h
   refine⟨by omega,?_⟩
   rw[show j - i=(j - (i+1))+1 by omega]
   simpa using h2
def resOne(P:Program)(s:St):ResultVar→Option AV
 | .tmp t=>gt t s.tm
 | .cell t ty=>obind (gt t s.tm) (loadV P s ty)
def resAll(P:Program)(s:St):List ResultVar→Option (List AV)
 | []=>some []
 |x::l=>match resOne P s x,resAll P s l with
  |some v,some r=>some (v::r)
  |_,_=>none
def resA(P:Program)(s:St)(l:List ResultVar):Option AV:=
 match resAll P s l with
 |some [v]=>some v
 |some vs=>some (.tup vs)
 |none=>none
theorem resOne_run{P:Program}{c:Ctx}{m:Nat→Value}{s:St}{a:Act}{w:World}(h:SRep c m s a w){x:ResultVar}{v:AV}(hx:resOne P s x=some v):
  ∃u,((match x with| .tmp t=>pure (a.tmps.getD t undef)| .cell t ty=>do loadVar ty (←asAddr (a.tmps.getD t undef))):Sem Value).run P w= .ok u w∧RepV w (Forb c m s.hp) m v u:=by
 cases x with
 |tmp t=>exact⟨_,rfl,h.slot t v hx⟩
 |cell t ty=>
  simp only[resOne]at hx
  obtain⟨va,h1,h2⟩:=Option.bind_eq_some_iff.1 hx
  obtain⟨u,h3,h4⟩:=loadV_sound (o:=⟨none,.load ty (.tmp t),0, "",#[],none⟩) (x:= .tmp t) h rfl h1 h2
  refine⟨u,?_,h4⟩
  unfold Yld at h3
  simp only[execOp,Instr.loadAt,Act.eval,Sem.run_bind]at h3
  simp only[Sem.run_bind]
  cases hv:a.tmps.getD t undef with
  |pointer p=>
   cases p with
   |some ad=>
    rw[hv]at h3
    simp only[Instr.sureAddr,Sem.run_pure,Result.andThen_ok]at h3
    simp only[asAddr,Sem.run_pure,Result.andThen_ok]
    cases hl:(loadVar ty ad).run P w with
    |ok z w'=>rw[hl]at h3;simp at h3;obtain⟨rfl,rfl⟩:=h3;rfl
    |halt e w'=>rw[hl]at h3;simp at h3
   |none=>rw[hv]at h3;simp[Instr.sureAddr]at h3
  |_=>rw[hv]at h3;simp[Instr.sureAddr]at h3
theorem resAll_run{P:Program}{c:Ctx}{m:Nat→Value}{s:St}{a:Act}{w:World}(h:SRep c m s a w): ∀ {l:List ResultVar} {vs:List AV},resAll P s l=some vs→
  ∃us:List Value,(l.mapM (m:=Sem) fun| .tmp t=>pure (a.tmps.getD t undef)| .cell t ty=>do loadVar ty (←asAddr (a.tmps.getD t undef))).run P w= .ok us w∧RepVs w (Forb c m s.hp) m vs us
 | [],vs,hv=>by simp only[resAll,Option.some.injEq]at hv;subst hv;exact⟨[],by simp,by simp only[RepVs]⟩
 |x::l,vs,hv=>by
  simp only[resAll]at hv
  split at hv
  ·rename_i v r h1 h2
   cases hv
   obtain⟨u,h3,h4⟩:=resOne_run h h1
   obtain⟨us,h5,h6⟩:=resAll_run h h2
   refine⟨u::us,?_,by simp only[RepVs];exact⟨u,us,rfl,h4,h6⟩⟩
   simp only[List.mapM_cons,Sem.run_bind,Sem.run_pure]
   cases x with
   |tmp t=>
    simp only[Sem.run_pure]at h3 ⊢
    cases h3
    simp only[Result.andThen_ok,h5]
   |cell t ty=>
    simp only[Sem.run_bind]at h3 ⊢
    simp only[h3,Result.andThen_ok,h5]
  ·cases hv
theorem resA_run{P:Program}{c:Ctx}{m:Nat→Value}{s:St}{a:Act}{w:World}(h:SRep c m s a w){fn:Func}{r:AV}(hr:resA P s fn.results.toList=some r): ∃u,(results fn a.tmps).run P w= .ok u w∧RepV w (Forb c m s.hp) m r u:=by
 unfold resA at hr
 have key: ∀vs,resAll P s fn.results.toList=some vs→ ∃us:List Value,(results fn a.tmps).run P w= .ok (if h:us.toArray.size=1 then us.toArray[0]else .tuple us.toArray) w∧RepVs w (Forb c m s.hp) m vs us:=by
  intro vs hvs
  obtain⟨us,h1,h2⟩:=resAll_run h hvs
  refine⟨us,?_,h2⟩
  unfold results
  rw[Array.mapM_eq_mapM_toList]
  simp only[Sem.run_bind,Sem.run_map,Sem.run_pure]
  exact congrArg (fun(r:Result (List Value))=>(r.andThen fun a w'=>Result.ok a.toArray w').andThen fun a w'=>Result.ok (if h:a.size=1 then a[0]else Value.tuple a) w') h1
 split at hr
 ·rename_i v hvs
  cases hr
  obtain⟨us,h1,h2⟩:=key _ hvs
  have:=(RepVs_iff.1 h2).1
  obtain⟨u,rfl⟩:=List.length_eq_one_iff.1 this.symm
  refine⟨u,by simpa using h1,?_⟩
  simp only[RepVs]at h2
  obtain⟨u',rest,h3,h4,_⟩:=h2
  simp at h3;rw[h3.1];exact h4
 ·rename_i vs hno hvs
  cases hr
  obtain⟨us,h1,h2⟩:=key _ hvs
  have hl:=(RepVs_iff.1 h2).1
  have hne:us.toArray.size≠1:=by
   intro e
   have:vs.length=1:=by rw[hl];simpa using e
   obtain⟨v,rfl⟩:=List.length_eq_one_iff.1 this
   exact hno v rfl
  rw[dif_neg hne]at h1
  exact⟨_,h1,by simp only[RepV];exact⟨us,rfl,h2⟩⟩
 ·cases hr
mutual
def killsV(K:List Nat):AV→AV
 | .d x=> .d x
 | .ptr κ off=>if K.contains κ then .bot else .ptr κ off
 | .own κ=>if K.contains κ then .bot else .own κ
 | .pel κ off=>if K.contains κ then .bot else .pel κ off
 | .eaddr x=> .eaddr x
 | .agg cs=> .agg (killsVs K cs)
 | .tup vs=> .tup (killsVs K vs)
 | .clos f caps=> .clos f (killsVs K caps)
 | .wrap k v=> .wrap k (killsV K v)
 | .bot=> .bot
termination_by structural v=>v
def killsVs(K:List Nat):List AV→List AV
 | []=> []
 |v::vs=>killsV K v::killsVs K vs
termination_by structural vs=>vs
end
def killsB(K:List Nat):Blk→Blk
 | .box e cs=> .box e (killsVs K cs)
 | .map kvs=> .map (killsVs K kvs)
 | .vrow e xs=> .vrow e (killsVs K xs)
 |b=>b
mutual
theorem RepV.kills{w:World}{F:Nat→Prop}{m m':Nat→Value}{K:List Nat}(hm: ∀j,j∉K→m' j=m j): ∀(v:AV) (u:Value),RepV w F m v u→RepV w F m' (killsV K v) u
 | .d x,u,h=>by simpa only[killsV,RepV]using h
 | .ptr κ off,u,h=>by
  simp only[killsV];split
  ·simp only[RepV]
  ·rename_i hne;simpa only[RepV,hm κ (by simpa using hne)]using h
 | .own κ,u,h=>by
  simp only[killsV];split
  ·simp only[RepV]
  ·rename_i hne;simpa only[RepV,hm κ (by simpa using hne)]using h
 | .pel κ off,u,h=>by
  simp only[killsV];split
  ·simp only[RepV]
  ·rename_i hne;simpa only[RepV,hm κ (by simpa using hne)]using h
 | .eaddr x,u,h=>by simpa only[killsV,RepV]using h
 | .agg cs,u,h=>by
  simp only[killsV,RepV]at h ⊢
  obtain⟨us,h1,h2,h3⟩:=h
  exact⟨us,h1,RepVs.kills hm cs us h2,h3⟩
 | .tup vs,u,h=>by
  simp only[killsV,RepV]at h ⊢
  obtain⟨us,h1,h2⟩:=h
  exact⟨us,h1,RepVs.kills hm vs us h2⟩
 | .clos f caps,u,h=>by
  simp only[killsV,RepV]at h ⊢
  obtain⟨us,h1,h2⟩:=h
  exact⟨us,h1,RepVs.kills hm caps us h2⟩
 | .wrap k v,u,h=>by
  simp only[killsV,RepV]at h ⊢
  obtain⟨u0,h1,h2⟩:=h
  exact⟨u0,h1,RepV.kills hm v u0 h2⟩
 | .bot,u,h=>by simp only[killsV,RepV]
theorem RepVs.kills{w:World}{F:Nat→Prop}{m m':Nat→Value}{K:List Nat}(hm: ∀j,j∉K→m' j=m j): ∀(vs:List AV) (us:List Value),RepVs w F m vs us→RepVs w F m' (killsVs K vs) us
 | [],us,h=>by simpa only[killsVs,RepVs]using h
 |v::vs,us,h=>by
  simp only[killsVs,RepVs]at h ⊢
  obtain⟨u,rest,h1,h2,h3⟩:=h
  exact⟨u,rest,h1,RepV.kills hm v u h2,RepVs.kills hm vs rest h3⟩
end
theorem RepB.kills{w:World}{F:Nat→Prop}{m m':Nat→Value}{K:List Nat}(hm: ∀j,j∉K→m' j=m j){j:Nat}(hj:m' j=m j){B:Blk}(h:RepB w F m j B):RepB w F m' j (killsB K B):=by
 cases B with
 |box e cs=>
  obtain⟨b',c,h1,h2,h3,h4⟩:=h
  exact⟨b',c,by rw[hj];exact h1,h2,RepVs.kills hm _ _ h3,h4⟩
 |ints e k xs c=>simp only[killsB,RepB,hj]at h ⊢;exact h
 |row e n xs c=>simp only[killsB,RepB,hj]at h ⊢;exact h
 |map kvs=>
  obtain⟨b',es,ck,h1,h2,h3⟩:=h
  exact⟨b',es,ck,by rw[hj];exact h1,h2,RepVs.kills hm _ _ h3⟩
 |vrow e xs=>
  obtain⟨vals,h,h2,h3⟩:=h
  exact⟨vals,by rw[hj];exact h,RepVs.kills hm _ _ h2,h3⟩
mutual
def flatD:D→Bool
 | .v _=>true
 | .ints _ _ _=>false
 | .sl _ _ _=>false
 | .agg cs=>flatDs cs
termination_by structural d=>d
def flatDs:List D→Bool
 | []=>true
 |d::ds=>flatD d&&flatDs ds
termination_by structural ds=>ds
end
mutual
def flatV:AV→Bool
 | .d x=>flatD x
 | .ptr _ _=>true
 | .own _=>true
 | .pel _ _=>true
 | .eaddr _=>false
 | .agg cs=>flatVs cs
 | .tup vs=>flatVs vs
 | .clos _ caps=>flatVs caps
 | .wrap _ v=>flatV v
 | .bot=>true
termination_by structural v=>v
def flatVs:List AV→Bool
 | []=>true
 |v::vs=>flatV v&&flatVs vs
termination_by structural vs=>vs
end
def flatB:Blk→Bool
 | .box _ cs=>flatVs cs
 | .ints _ _ _ _=>true
 | .row _ _ _ _=>false
 | .map kvs=>flatVs kvs
 | .vrow _ xs=>flatVs xs
mutual
theorem RepD.flat{w:World}{F F':Nat→Prop}: ∀(d:D) (u:Value),flatD d=true→RepD w F d u→RepD w F' d u
 | .v x,u,_,h=>h
 | .ints k xs c,u,hf,_=>by simp[flatD]at hf
 | .sl n xs c,u,hf,_=>by simp[flatD]at hf
 | .agg cs,u,hf,h=>by
  simp only[RepD,flatD]at h hf ⊢
  obtain⟨us,h1,h2⟩:=h
  exact⟨us,h1,RepRow.flat cs us hf h2⟩
theorem RepRow.flat{w:World}{F F':Nat→Prop}{c:Value→Prop}: ∀(ds:List D) (us:List Value),flatDs ds=true→RepRow w F c ds us→RepRow w F' c ds us
 | [],us,_,h=>by simpa only[RepRow]using h
 |d::ds,us,hf,h=>by
  simp only[RepRow,flatDs,Bool.and_eq_true]at h hf ⊢
  obtain⟨v,rest,h1,h2,h3,h4⟩:=h
  exact⟨v,rest,h1,h2,RepD.flat d v hf.1 h3,RepRow.flat ds rest hf.2 h4⟩
end
mutual
theorem RepV.flat{w:World}{F F':Nat→Prop}{m:Nat→Value}: ∀(v:AV) (u:Value),flatV v=true→RepV w F m v u→RepV w F' m v u
 | .d x,u,hf,h=>by simp only[RepV,flatV]at h hf ⊢;exact RepD.flat x u hf h
 | .ptr κ off,u,_,h=>by simpa only[RepV]using h
 | .own κ,u,_,h=>by simpa only[RepV]using h
 | .pel κ off,u,_,h=>by simpa only[RepV]using h
 | .eaddr x,u,hf,h=>by simp[flatV]at hf
 | .agg cs,u,hf,h=>by
  simp only[RepV,flatV]at h hf ⊢
  obtain⟨us,h1,h2,h3⟩:=h
  exact⟨us,h1,RepVs.flat cs us hf h2,h3⟩
 | .tup vs,u,hf,h=>by
  simp only[RepV,flatV]at h hf ⊢
  obtain⟨us,h1,h2⟩:=h
  exact⟨us,h1,RepVs.flat vs us hf h2⟩
 | .clos f caps,u,hf,h=>by
  simp only[RepV,flatV]at h hf ⊢
  obtain⟨us,h1,h2⟩:=h
  exact⟨us,h1,RepVs.flat caps us hf h2⟩
 | .wrap k v,u,hf,h=>by
  simp only[RepV,flatV]at h hf ⊢
  obtain⟨u0,h1,h2⟩:=h
  exact⟨u0,h1,RepV.flat v u0 hf h2⟩
 | .bot,u,_,h=>by simp only[RepV]
theorem RepVs.flat{w:World}{F F':Nat→Prop}{m:Nat→Value}: ∀(vs:List AV) (us:List Value),flatVs vs=true→RepVs w F m vs us→RepVs w F' m vs us
 | [],us,_,h=>by simpa only[RepVs]using h
 |v::vs,us,hf,h=>by
  simp only[RepVs,flatVs,Bool.and_eq_true]at h hf ⊢
  obtain⟨u,rest,h1,h2,h3⟩:=h
  exact⟨u,rest,h1,RepV.flat v u hf.1 h2,RepVs.flat vs rest hf.2 h3⟩
end
theorem RepB.flat{w:World}{F F':Nat→Prop}{m:Nat→Value}{κ:Nat}{B:Blk}(hf:flatB B=true)(h:RepB w F m κ B):RepB w F' m κ B:=by
 cases B with
 |box e cs=>
  obtain⟨b,c,h1,h2,h3,h4⟩:=h
  exact⟨b,c,h1,h2,RepVs.flat _ _ hf h3,h4⟩
 |ints e k xs c=>exact h
 |row e n xs c=>simp[flatB]at hf
 |map kvs=>
  obtain⟨b,es,ck,h1,h2,h3⟩:=h
  exact⟨b,es,ck,h1,h2,RepVs.flat _ _ hf h3⟩
 |vrow e xs=>
  obtain⟨vals,h,h2,h3⟩:=h
  exact⟨vals,h,RepVs.flat _ _ hf h2,h3⟩
theorem leavesM_taken{P:Program}{fn:Func}{tmps:Array Value}{R:Ending→World→Prop}{ds:List Deferred}{w w':World}(h:Taken ds w w')(hR: ∃v,(results fn tmps).run P w'= .ok v w'∧R (.returned v) w'):LeavesInM Fence.wide 0 P fn tmps R ds .returning w:=by
 induction h with
 |nil w=>exact hR
 |cons h hr ih=>exact⟨by simp,.inl ⟨_,_,rfl,run_takeDeferred h,ih hR⟩⟩
theorem calls_of_marks{P:Program}{f:FuncId}{fn:Func}{c:Code}{args:Array Value}{w:World}{R:Ending→World→Prop}(hf:P.funcs[f]? =some fn)(hb:fn.body=some c)
  (h:c.wp P (fun e a w=>(e= .ret∨e= .normal)∧ ∃w',Taken a.defers w w'∧ ∃v,(results fn a.tmps).run P w'= .ok v w'∧R (.returned v) w')
   {tmps:=args++Array.replicate (fn.ntmps - args.size) undef,defers:= []} w):Calls P f args w R:=by
 refine callsIn_wide.1 (callsIn_of_wp_marks (n:=0) hf hb trivial (wpIn_wide.2 (Code.wp_mono ?_ h)))
 rintro e a' w' ⟨he,w2,h1,h2⟩
 have key:=leavesM_taken h1 h2
 rcases he with rfl|rfl<;>exact key
theorem SRep.left{c:Ctx}{m:Nat→Value}{s:St}{a:Act}{w:World}(h:SRep c m s a w): ∃w',Taken a.defers w w'∧SRep c m s {a with defers:= []} w':=SRep.unmark _ rfl h
theorem acall_of{P:Program}{f:FuncId}{fn:Func}{c:Code}{vs:List AV}{hs:List Blk}{Post:AV→List Blk→Prop}(hf:P.funcs[f]? =some fn)(hb:fn.body=some c)(hle:vs.length≤fn.ntmps)
  (h:AWp P c (fun e s'=>(e= .ret∨e= .normal)∧ ∃ks r bs,(∀j,j<hs.length→ks[j]? =some j)∧hs.length≤ks.length∧ks.Nodup∧pickB (posOf · ks) s'.hp ks=some bs∧resA P s' fn.results.toList=some r∧Post (renV (posOf · ks) r) bs)
   ⟨fn.ntmps,tmFrom 0 vs,hpFrom 0 hs⟩):ACall P f vs hs Post:=by
 intro cx m us w h1 h2 h3
 have hul:=(RepVs_iff.1 h2).1
 refine calls_of_marks hf hb (Code.wp_mono ?_ (h cx m _ w ⟨Marks.nil _ _,?_,?_,h1.heap,h1.sep,h1.nox,h1.old,h1.fr,h1.xlt,h1.pin,h1.pinp,h1.gl⟩))
 ·rintro e a' w' ⟨s',m',⟨he,ks,r,bs,k1,k1',k2,k3,k4,k5⟩,hr0⟩
  obtain⟨w2,hleft,hr⟩:=hr0.left
  refine⟨he,w2,hleft,?_⟩
  obtain⟨u,r1,r2⟩:=resA_run hr k4
  obtain⟨p1,p2⟩:=pickB_get k3
  have hdom: ∀κ,κ∈ks→ ∃B,gt κ s'.hp=some B:=by
   intro κ hκ
   obtain⟨j,hj⟩:=List.getElem?_of_mem hκ
   obtain⟨B,h4,_⟩:=p2 j κ hj
   exact⟨B,h4⟩
  obtain⟨q1,q2⟩:=hr.hand (c':=cx) ks k2 k3 (fun b hb=> .inl hb) (fun κ b hκ hb=>by obtain⟨B,hB⟩:=hdom κ hκ;exact hr.nox κ B b hB hb)
   (fun κ b hκ hb=>by obtain⟨B,hB⟩:=hdom κ hκ;exact hr.old κ B b hB hb) hr.fr hr.xlt (fun j v hj=>by rw[mapOf_get (k1 j (h3 j v hj))];exact hr.pin j v hj) hr.pinp hr.gl
  have post: ∃v,(results fn a'.tmps).run P w2= .ok v w2∧ ∃u m' r hs',Ending.returned v= .returned u∧Post r hs'∧hs.length≤hs'.length∧SRep cx m' (St.bare hs') Act.none0 w2∧RepV w2 (Forb cx m' (hpFrom 0 hs')) m' r u:=
   ⟨u,r1,u,_,_,bs,rfl,k5,by rw[p1];exact k1',q1,q2 _ _ r2⟩
  exact post
 ·simp;omega
 ·intro t v ht
  obtain⟨_,hv⟩:=gt_tmFrom ht
  obtain⟨u,h4,h5⟩:=(RepVs_iff.1 h2).2 _ v hv
  simp only[Nat.sub_zero]at h4
  have hlt:t<us.length:=(List.getElem?_eq_some_iff.1 h4).1
  have:(us.toArray++Array.replicate (fn.ntmps - us.toArray.size) undef).getD t undef=u:=by
   rw[Array.getD_eq_getD_getElem?,Array.getElem?_append_left (by simpa using hlt)]
   simp[h4]
  rw[this];exact h5
def insL{α:Type}:List (Nat×α)→List (Nat×α)→List (Nat×α)
 | [],l=>l
 |(k,v)::r,l=>ins k v (insL r l)
def delL{α:Type}:List Nat→List (Nat×α)→List (Nat×α)
 | [],l=>l
 |k::r,l=>del k (delL r l)
theorem gt_delL{α:Type}(j:Nat)(l:List (Nat×α)): ∀ks:List Nat,gt j (delL ks l)=if j∈ks then none else gt j l
 | []=>by simp[delL]
 |k::r=>by
  simp only[delL,gt_del,gt_delL j l r]
  by_cases h:j=k
  ·simp[h]
  ·simp[h]
theorem gt_insL{α:Type}(j:Nat)(l:List (Nat×α)): ∀r:List (Nat×α),gt j (insL r l)=match gt j r with|some v=>some v|none=>gt j l
 | []=>by simp[insL,gt]
 |(k,v)::r=>by
  simp only[insL,gt_ins,gt]
  split
  ·rfl
  ·exact gt_insL j l r
def backK(ks:List Nat)(q:Nat)(j:Nat):Nat:=match ks[j]? with|some κ=>κ|none=>q+(j - ks.length)
def backF(ks:List Nat)(q n:Nat)(j:Nat):Option Nat:=if j<n then some (backK ks q j)else none
def backFrom(g:Nat→Nat)(f:Nat→Option Nat)(i:Nat):List Blk→List (Nat×Blk)
 | []=> []
 |B::l=>(g i,renB f B)::backFrom g f (i+1) l
def rowKeys(hp:List (Nat×Blk))(ks:List Nat):List Nat:=ks.filter fun κ=>match gt κ hp with|some (.box _ _)=>false|some (.vrow _ _)=>false|_=>true
def newKeys(ks:List Nat)(q n:Nat):List Nat:=(List.range (n - ks.length)).map (q+ ·)
def afterS(s:St)(ks:List Nat)(q:Nat)(hs':List Blk):St:=
 let K:=rowKeys s.hp ks++newKeys ks q hs'.length
 {s with tm:=mapv (killsV K) s.tm,hp:=insL (backFrom (backK ks q) (backF ks q hs'.length) 0 hs') (mapv (killsB K) (delL ks s.hp))}
theorem gt_backFrom{g:Nat→Nat}{f:Nat→Option Nat}: ∀ {bs:List Blk} {i κ:Nat} {B:Blk},gt κ (backFrom g f i bs)=some B→ ∃j B0,i≤j∧bs[j - i]? =some B0∧κ=g j∧B=renB f B0
 | [],i,κ,B,h=>by simp[backFrom,gt]at h
 |b::bs,i,κ,B,h=>by
  simp only[backFrom,gt]at h
  split at h
  ·rename_i e;cases h;exact⟨i,b,Nat.le_refl _,by simp,e,rfl⟩
  ·obtain⟨j,B0,h1,h2,h3,h4⟩:=gt_backFrom h
   exact⟨j,B0,by omega,by rw[show j - i=(j - (i+1))+1 by omega];simpa using h2,h3,h4⟩
theorem gt_backFrom_none{g:Nat→Nat}{f:Nat→Option Nat}: ∀ {bs:List Blk} {i κ:Nat},gt κ (backFrom g f i bs)=none→ ∀j,i≤j→j - i<bs.length→κ≠g j
 | [],i,κ,h,j,_,hj=>by simp at hj
 |b::bs,i,κ,h,j,hij,hj=>by
  simp only[backFrom,gt]at h
  split at h
  ·cases h
  ·rename_i hne
   by_cases e:j=i
   ·subst e;exact hne
   ·exact gt_backFrom_none h j (by omega) (by simp at hj;omega)
def callCtx(c:Ctx)(m:Nat→Value)(s:St)(w:World)(ks V:List Nat):Ctx where
 w0:=w
 S:=fun b=> ∃κ,κ∈ks∧blkOf (m κ)=some b
 X:=fun b=>Forb c m s.hp b∧ ¬ ∃κ,(κ∈ks∨κ∈V)∧blkOf (m κ)=some b
 pin:=fun j=>match ks[j]? with
  |some κ=>match gt κ s.hp with|some (.box _ _)=>some (m κ)|some (.vrow _ _)=>some (m κ)|_=>none
  |none=>none
def newMap(m m':Nat→Value)(ks:List Nat)(q n:Nat):Nat→Value:=fun κ=>
 match posOf κ ks with
 |some j=>m' j
 |none=>if q≤κ∧κ - q<n - ks.length then m' (ks.length+(κ - q))else m κ
theorem forb_lt{c:Ctx}{m:Nat→Value}{s:St}{a:Act}{w:World}(h:SRep c m s a w){b:Nat}(hb:Forb c m s.hp b):b<w.heap.size:=by
 rcases hb with hb|⟨κ,B,h1,h2⟩
 ·exact Nat.lt_of_lt_of_le (h.xlt b hb) h.fr.size
 ·exact(h.heap κ B h1).lt h2
theorem SRep.after{c:Ctx}{m m':Nat→Value}{s:St}{a:Act}{w w':World}(h:SRep c m s a w){ks V:List Nat}{q:Nat}{bs hs':List Blk}{r:AV}{u:Value}(hn:ks.Nodup)(hb:pickB (posOf · ks) s.hp ks=some bs)
  (hq:16≤q)(hqk: ∀κ,κ∈ks→κ<q∨q+hs'.length≤κ)(hlen:bs.length≤hs'.length)
  (hr:SRep (callCtx c m s w ks V) m' (St.bare hs') Act.none0 w')(hu:RepV w' (Forb (callCtx c m s w ks V) m' (hpFrom 0 hs')) m' r u)
  (hflat:V= []∨(flatV r=true∧ ∀B,B∈hs'→flatB B=true)):
  SRep c (newMap m m' ks q hs'.length) (afterS s ks q hs') a w'∧RepV w' (Forb c (newMap m m' ks q hs'.length) (afterS s ks q hs').hp) (newMap m m' ks q hs'.length) (renV (backF ks q hs'.length) r) u:=by
 obtain⟨hl,hget⟩:=pickB_get hb
 have hdk: ∀κ,κ∈ks→ ∃B,gt κ s.hp=some B:=by
  intro κ hκ
  obtain⟨j,hj⟩:=List.getElem?_of_mem hκ
  obtain⟨B,h4,_⟩:=hget j κ hj
  exact⟨B,h4⟩
 generalize hmn:newMap m m' ks q hs'.length=mn
 have mn_ks: ∀j κ,ks[j]? =some κ→mn κ=m' j:=by
  intro j κ hj;rw[←hmn];simp only[newMap,posOf_self hn hj]
 have mn_new: ∀i,i<hs'.length - ks.length→mn (q+i)=m' (ks.length+i):=by
  intro i hi
  rw[←hmn]
  unfold newMap
  cases hp:posOf (q+i) ks with
  |some j=>have:=List.mem_of_getElem? (posOf_get hp);rcases hqk _ this with h'|h'<;>omega
  |none=>
   simp only
   rw[if_pos ⟨by omega,by omega⟩];congr 2;omega
 have mn_back: ∀j,j<hs'.length→mn (backK ks q j)=m' j:=by
  intro j hj
  unfold backK
  split
  ·rename_i κ hκ;exact mn_ks j κ hκ
  ·rename_i hκ
   have hge:ks.length≤j:=by simpa using hκ
   rw[mn_new (j - ks.length) (by omega)];congr 1;omega
 have mn_old: ∀κ,κ∉ks→κ∉newKeys ks q hs'.length→mn κ=m κ:=by
  intro κ h1 h2
  rw[←hmn]
  unfold newMap
  cases hp:posOf κ ks with
  |some j=>exact absurd (List.mem_of_getElem? (posOf_get hp)) h1
  |none=>
   simp only
   rw[if_neg]
   rintro⟨h3,h4⟩
   exact h2 (List.mem_map.2 ⟨κ - q,by simp;omega,by omega⟩)
 have back_mem: ∀j,j<hs'.length→backK ks q j∈ks∨backK ks q j∈newKeys ks q hs'.length:=by
  intro j hj
  unfold backK
  split
  ·rename_i κ hκ;exact .inl (List.mem_of_getElem? hκ)
  ·rename_i hκ
   have hge:ks.length≤j:=by simpa using hκ
   exact .inr (List.mem_map.2 ⟨j - ks.length,by simp;omega,rfl⟩)
 have back_inj: ∀i j,i<hs'.length→j<hs'.length→backK ks q i=backK ks q j→i=j:=by
  intro i j hi hj e
  unfold backK at e
  split at e
  ·rename_i κ hκ
   split at e
   ·rename_i κ' hκ'
    subst e
    have e1:=posOf_self hn hκ
    have e2:=posOf_self hn hκ'
    rw[e1]at e2;simpa using e2
   ·rename_i hκ'
    have hge:ks.length≤j:=by simpa using hκ'
    have:=hqk κ (List.mem_of_getElem? hκ)
    omega
  ·rename_i hκ
   have hge:ks.length≤i:=by simpa using hκ
   split at e
   ·rename_i κ' hκ'
    have:=hqk κ' (List.mem_of_getElem? hκ')
    omega
   ·rename_i hκ'
    have hge':ks.length≤j:=by simpa using hκ'
    omega
 have hdom: ∀κ B,gt κ (afterS s ks q hs').hp=some B→(∃j B0,hs'[j]? =some B0∧κ=backK ks q j∧B=renB (backF ks q hs'.length) B0)∨(κ∉ks∧κ∉newKeys ks q hs'.length∧ ∃B0,gt κ s.hp=some B0∧B=killsB (rowKeys s.hp ks++newKeys ks q hs'.length) B0):=by
  intro κ B hκ
  simp only[afterS,gt_insL]at hκ
  split at hκ
  ·rename_i B' hB'
   cases hκ
   obtain⟨j,B0,h1,h2,h3,h4⟩:=gt_backFrom hB'
   exact .inl ⟨j,B0,by simpa using h2,h3,h4⟩
  ·rename_i hno
   right
   obtain⟨B0,h1,h2⟩:=gt_some_mapv hκ
   rw[gt_delL]at h1
   split at h1
   ·cases h1
   ·rename_i hk
    refine⟨hk,fun hin=> ?_,B0,h1,h2⟩
    obtain⟨i,hi,rfl⟩:=List.mem_map.1 hin
    simp at hi
    refine gt_backFrom_none hno (ks.length+i) (by omega) (by omega) ?_
    unfold backK
    have:ks[ks.length+i]? =none:=by simp
    rw[this];simp only;omega
 have hS: ∀b,(callCtx c m s w ks V).S b→Forb c m s.hp b:=by
  rintro b ⟨κ,h1,h2⟩
  obtain⟨B,hB⟩:=hdk κ h1
  exact .inr ⟨κ,B,hB,h2⟩
 have hold: ∀j B0 b,hs'[j]? =some B0→blkOf (m' j)=some b→(∃κ,κ∈ks∧blkOf (m κ)=some b)∨w.heap.size≤b:=fun j B0 b h1 h2=>hr.old j B0 b (gt_hp0.2 h1) h2
 have hKept:Kept w (Forb c m s.hp) w' (Forb c mn (afterS s ks q hs').hp):=by
  intro b hb hF
  refine⟨?_,hr.fr.block b hb (fun hs=>hF (hS b hs))⟩
  rintro(hX|⟨κ,B,hκ,hbb⟩)
  ·exact hF (.inl hX)
  ·rcases hdom κ B hκ with⟨j,B0,h1,rfl,rfl⟩|⟨h1,h2,B0,h3,rfl⟩
   ·rw[mn_back j (List.getElem?_eq_some_iff.1 h1).1]at hbb
    rcases hold j B0 b h1 hbb with⟨κ',h4,h5⟩|h4
    ·exact hF (hS b ⟨κ',h4,h5⟩)
    ·omega
   ·rw[mn_old κ h1 h2]at hbb
    exact hF (.inr ⟨κ,B0,h3,hbb⟩)
 have hFn:V= []→ ∀b,Forb c mn (afterS s ks q hs').hp b→Forb (callCtx c m s w ks V) m' (hpFrom 0 hs') b:=by
  intro hV b hb
  subst hV
  rcases hb with hX|⟨κ,B,hκ,hbb⟩
  ·refine .inl ⟨.inl hX,?_⟩
   rintro⟨κ,h1,h2⟩
   rcases h1 with h1|h1
   ·obtain⟨B,hB⟩:=hdk κ h1
    exact h.nox κ B b hB h2 hX
   ·simp at h1
  ·rcases hdom κ B hκ with⟨j,B0,h1,rfl,rfl⟩|⟨h1,h2,B0,h3,rfl⟩
   ·rw[mn_back j (List.getElem?_eq_some_iff.1 h1).1]at hbb
    exact .inr ⟨j,B0,gt_hp0.2 h1,hbb⟩
   ·rw[mn_old κ h1 h2]at hbb
    refine .inl ⟨.inr ⟨κ,B0,h3,hbb⟩,?_⟩
    rintro⟨κ',h4,h5⟩
    rcases h4 with h4|h4
    ·obtain⟨B',hB'⟩:=hdk κ' h4
     exact h.sep κ κ' B0 B' b h3 hB' (fun e=>h1 (e▸h4)) hbb h5
    ·simp at h4
 have toV: ∀(v:AV) (u:Value),(V= []∨flatV v=true)→RepV w' (Forb (callCtx c m s w ks V) m' (hpFrom 0 hs')) m' v u→RepV w' (Forb c mn (afterS s ks q hs').hp) m' v u:=by
  intro v u hc hv
  rcases hc with hc|hc
  ·exact RepV.kept (fun b _ hb=>⟨fun h'=>hb (hFn hc b h'),rfl⟩) (Nat.le_refl _) v u hv
  ·exact RepV.flat v u hc hv
 have toB: ∀(j:Nat) (B:Blk),(V= []∨flatB B=true)→RepB w' (Forb (callCtx c m s w ks V) m' (hpFrom 0 hs')) m' j B→RepB w' (Forb c mn (afterS s ks q hs').hp) m' j B:=by
  intro j B hc hv
  rcases hc with hc|hc
  ·exact RepB.kept (fun b _ hb=>⟨fun h'=>hb (hFn hc b h'),rfl⟩) (Nat.le_refl _) (fun _ _ _=>rfl) hv
  ·exact RepB.flat hc hv
 have hmK: ∀κ,κ∉rowKeys s.hp ks++newKeys ks q hs'.length→mn κ=m κ:=by
  intro κ hκ
  simp only[List.mem_append,not_or]at hκ
  by_cases hks:κ∈ks
  ·obtain⟨j,hj⟩:=List.getElem?_of_mem hks
   obtain⟨B,hB,_⟩:=hget j κ hj
   rw[mn_ks j κ hj]
   have hbox:(∃e cs,B= .box e cs)∨ ∃e cs,B= .vrow e cs:=by
    cases B with
    |box e cs=>exact .inl ⟨e,cs,rfl⟩
    |ints e k xs cc=>exact absurd (List.mem_filter.2 ⟨hks,by simp[hB]⟩) hκ.1
    |row e n xs cc=>exact absurd (List.mem_filter.2 ⟨hks,by simp[hB]⟩) hκ.1
    |map kvs=>exact absurd (List.mem_filter.2 ⟨hks,by simp[hB]⟩) hκ.1
    |vrow e xs=>exact .inr ⟨e,xs,rfl⟩
   rcases hbox with⟨e,cs,rfl⟩|⟨e,cs,rfl⟩
   ·exact hr.pin j (m κ) (by simp only[callCtx,hj,hB])
   ·exact hr.pin j (m κ) (by simp only[callCtx,hj,hB])
  ·exact mn_old κ hks hκ.2
 have hback: ∀κ j,backF ks q hs'.length κ=some j→mn j=m' κ:=by
  intro κ j hj
  unfold backF at hj
  split at hj
  ·rename_i hlt;cases hj;exact mn_back κ hlt
  ·cases hj
 have hlt': ∀j B0,hs'[j]? =some B0→j<hs'.length:=fun j B0 h1=>(List.getElem?_eq_some_iff.1 h1).1
 refine⟨⟨h.defers.fr hr.fr (fun b ⟨κ',h4,h5⟩=>by
  obtain⟨B',hB'⟩:=hdk κ' h4
  exact(h.heap κ' B' hB').isC h5),h.nt,?_,?_,?_,?_,?_,?_,h.xlt,?_,h.pinp,h.gl⟩,RepV.ren hback r u (toV r u (or_map2 And.left hflat) hu)⟩
 ·intro t v ht
  obtain⟨v0,h1,rfl⟩:=gt_some_mapv ht
  exact RepV.kills hmK v0 _ (RepV.kept hKept hr.fr.size v0 _ (h.slot t v0 h1))
 ·intro κ B hκ
  rcases hdom κ B hκ with⟨j,B0,h1,rfl,rfl⟩|⟨h1,h2,B0,h3,rfl⟩
  ·exact RepB.ren hback (mn_back j (hlt' j B0 h1)) (toB j B0 (or_map2 (fun hf=>hf.2 B0 (List.mem_of_getElem? h1)) hflat) (hr.heap j B0 (gt_hp0.2 h1)))
  ·have:=RepB.kept hKept hr.fr.size (fun b hb hlt=>hr.fr.block b hlt (fun⟨κ',h4,h5⟩=>by
    obtain⟨B',hB'⟩:=hdk κ' h4
    exact h.sep κ κ' B0 B' b h3 hB' (fun e=>h1 (e▸h4)) hb h5)) (h.heap κ B0 h3)
   exact RepB.kills hmK (mn_old κ h1 h2) this
 ·intro κ κ' B B' b h1 h2 hne hb hb'
  have key: ∀(j:Nat) (B0:Blk) (κ':Nat) (B0':Blk),hs'[j]? =some B0→blkOf (m' j)=some b→κ'∉ks→gt κ' s.hp=some B0'→blkOf (m κ')=some b→False:=by
   intro j B0 κ' B0' k1 k2 k3 k4 k5
   rcases hold j B0 b k1 k2 with⟨κ'',k6,k7⟩|k6
   ·obtain⟨B'',hB''⟩:=hdk κ'' k6
    exact h.sep κ' κ'' B0' B'' b k4 hB'' (fun e=>k3 (e▸k6)) k5 k7
   ·have:=(h.heap κ' B0' k4).lt k5;omega
  rcases hdom κ B h1 with⟨j,B0,k1,rfl,rfl⟩|⟨k1,k2,B0,k3,rfl⟩
  ·rw[mn_back j (hlt' j B0 k1)]at hb
   rcases hdom κ' B' h2 with⟨j',B0',k4,rfl,rfl⟩|⟨k4,k5,B0',k6,rfl⟩
   ·rw[mn_back j' (hlt' j' B0' k4)]at hb'
    exact hr.sep j j' B0 B0' b (gt_hp0.2 k1) (gt_hp0.2 k4) (fun e=>hne (by rw[e])) hb hb'
   ·rw[mn_old κ' k4 k5]at hb'
    exact key j B0 κ' B0' k1 hb k4 k6 hb'
  ·rw[mn_old κ k1 k2]at hb
   rcases hdom κ' B' h2 with⟨j',B0',k4,rfl,rfl⟩|⟨k4,k5,B0',k6,rfl⟩
   ·rw[mn_back j' (hlt' j' B0' k4)]at hb'
    exact key j' B0' κ B0 k4 hb' k1 k3 hb
   ·rw[mn_old κ' k4 k5]at hb'
    exact h.sep κ κ' B0 B0' b k3 k6 hne hb hb'
 ·intro κ B b hκ hb hX
  rcases hdom κ B hκ with⟨j,B0,k1,rfl,rfl⟩|⟨k1,k2,B0,k3,rfl⟩
  ·rw[mn_back j (hlt' j B0 k1)]at hb
   rcases hold j B0 b k1 hb with⟨κ'',k6,k7⟩|k6
   ·obtain⟨B'',hB''⟩:=hdk κ'' k6
    exact h.nox κ'' B'' b hB'' k7 hX
   ·have:=Nat.lt_of_lt_of_le (h.xlt b hX) h.fr.size;omega
  ·rw[mn_old κ k1 k2]at hb
   exact h.nox κ B0 b k3 hb hX
 ·intro κ B b hκ hb
  rcases hdom κ B hκ with⟨j,B0,k1,rfl,rfl⟩|⟨k1,k2,B0,k3,rfl⟩
  ·rw[mn_back j (hlt' j B0 k1)]at hb
   rcases hold j B0 b k1 hb with⟨κ'',k6,k7⟩|k6
   ·obtain⟨B'',hB''⟩:=hdk κ'' k6
    exact h.old κ'' B'' b hB'' k7
   ·exact .inr (Nat.le_trans h.fr.size k6)
  ·rw[mn_old κ k1 k2]at hb
   exact h.old κ B0 b k3 hb
 ·refine⟨hr.fr.os.trans h.fr.os,hr.fr.tape.trans h.fr.tape,hr.fr.output.trans h.fr.output,Nat.le_trans h.fr.size hr.fr.size,fun b hb hS'=> ?_⟩
  have e1:w'.heap[b]? =w.heap[b]? :=hr.fr.block b (Nat.lt_of_lt_of_le hb h.fr.size) (by
   rintro⟨κ,k1,k2⟩
   obtain⟨B,hB⟩:=hdk κ k1
   rcases h.old κ B b hB k2 with k3|k3
   ·exact hS' k3
   ·omega)
  rw[e1];exact h.fr.block b hb hS'
 ·intro κ v hv
  have e:=h.pin κ v hv
  obtain⟨hlt16,b,hvp⟩:=h.pinp κ v hv
  rw[←e]
  refine hmK κ fun hin=> ?_
  rcases List.mem_append.1 hin with hin|hin
  ·obtain⟨hks,hrow⟩:=List.mem_filter.1 hin
   obtain⟨B,hB⟩:=hdk κ hks
   have hrep:=h.heap κ B hB
   rw[hB]at hrow
   cases B with
   |box e cs=>simp at hrow
   |ints e' k xs cc=>
    obtain⟨ad,cap,h1,_⟩:=hrep.1.cells
    rw[h1]at e;rw[hvp]at e;cases e
   |row e' n' xs cc=>
    obtain⟨vals,hown,_⟩:=hrep
    obtain⟨ad,cap,h1,_⟩:=hown.cells
    rw[h1]at e;rw[hvp]at e;cases e
   |map kvs=>
    obtain⟨b',es,ck,h1,_⟩:=hrep
    rw[h1]at e;rw[hvp]at e;cases e
   |vrow e' xs=>simp at hrow
  ·obtain⟨i,_,rfl⟩:=List.mem_map.1 hin
   omega
def nilA(P:Program)(t:TypeId):AV:=
 match elemT P t with
 |some (e,n,_)=>match intT P e with
  |some k=> .d (.ints k [] none)
  |none=> .d (.sl n [] none)
 |none=> .d (.v (.slice none 0 0))
def uncap:D→D
 | .ints k xs _=> .ints k xs none
 | .sl n xs _=> .sl n xs none
 |d=>d
def argA(P:Program)(s:St)(ks V:List Nat)(t:TypeId):AV→AV
 | .own κ=>if V.contains κ then match obind (gt κ s.hp) Blk.data with
   |some d=> .d (uncap d)
   |none=> .bot
  else renV (posOf · ks) (.own κ)
 | .d (.v (.slice none 0 0))=>nilA P t
 | .d d=> .d (uncap d)
 |v=>renV (posOf · ks) v
def argsA(P:Program)(s:St)(ks V:List Nat):List TypeId→List AV→List AV
 |t::ts,v::vs=>argA P s ks V t v::argsA P s ks V ts vs
 |_,vs=>renVs (posOf · ks) vs
theorem uncap_rep{w:World}{F:Nat→Prop}{d:D}{u:Value}(h:RepD w F d u):RepD w F (uncap d) u:=by
 cases d with
 |ints k xs c=>
  simp only[uncap,RepD]at h ⊢
  obtain⟨a,cap,h1,h2,h3,h4,_,h5⟩:=h
  exact⟨a,cap,h1,h2,h3,h4,by simp,h5⟩
 |sl n xs c=>
  simp only[uncap,RepD]at h ⊢
  obtain⟨a,cap,vals,h1,h2,h3,h4,_,h5⟩:=h
  exact⟨a,cap,vals,h1,h2,h3,h4,by simp,h5⟩
 |_=>exact h
theorem nilA_rep{P:Program}{t:TypeId}{w:World}{F:Nat→Prop}{m:Nat→Value}:RepV w F m (nilA P t) (.slice none 0 0):=by
 unfold nilA
 split
 ·split
  ·simp only[RepV,RepD];exact⟨none,0,rfl,Nat.le_refl _,Nat.zero_le _,fun _=>rfl,by simp,by simp⟩
  ·simp only[RepV,RepD];exact⟨none,0,[],rfl,Nat.le_refl _,Nat.zero_le _,fun _=>rfl,by simp,by simp[RepRow],by simp⟩
 ·exact repV_v.2 ⟨rfl,rfl⟩
theorem argA_rep{P:Program}{c:Ctx}{m:Nat→Value}{s:St}{a:Act}{w:World}(h:SRep c m s a w){ks V:List Nat}{bs:List Blk}(hVk: ∀κ,κ∈V→κ∉ks)
  (hren: ∀v u,RepV w (Forb c m s.hp) m v u→RepV w (Forb (callCtx c m s w ks V) (mapOf m ks) (hpFrom 0 bs)) (mapOf m ks) (renV (posOf · ks) v) u)
  (hown: ∀κ b,κ∈V→(∃B,gt κ s.hp=some B)→blkOf (m κ)=some b→ ¬Forb (callCtx c m s w ks V) (mapOf m ks) (hpFrom 0 bs) b)
  (hsub: ∀b,Forb (callCtx c m s w ks V) (mapOf m ks) (hpFrom 0 bs) b→Forb c m s.hp b)
  {t:TypeId}{v:AV}{u:Value}(hv:RepV w (Forb c m s.hp) m v u):RepV w (Forb (callCtx c m s w ks V) (mapOf m ks) (hpFrom 0 bs)) (mapOf m ks) (argA P s ks V t v) u:=by
 have hk:Kept w (Forb c m s.hp) w (Forb (callCtx c m s w ks V) (mapOf m ks) (hpFrom 0 bs)):=fun b _ hb=>⟨fun h'=>hb (hsub b h'),rfl⟩
 unfold argA
 split
 ·rename_i κ
  split
  ·rename_i hV
   have hV':κ∈V:=by simpa using hV
   split
   ·rename_i d hd
    obtain⟨B,hB,hd⟩:=Option.bind_eq_some_iff.1 hd
    simp only[RepV]at hv ⊢
    rw[hv.1]
    exact uncap_rep (RepB.data (h.heap κ B hB) hd hk (fun b hb=>hown κ b hV' ⟨B,hB⟩ hb))
   ·simp only[RepV]
  ·exact hren _ _ hv
 ·rw[repV_v]at hv;rw[hv.1];exact nilA_rep
 ·simp only[RepV]at hv ⊢;exact uncap_rep (RepD.kept hk _ _ hv)
 ·exact hren _ _ hv
theorem argsA_rep{P:Program}{c:Ctx}{m:Nat→Value}{s:St}{a:Act}{w:World}(h:SRep c m s a w){ks V:List Nat}{bs:List Blk}(hVk: ∀κ,κ∈V→κ∉ks)
  (hren: ∀v u,RepV w (Forb c m s.hp) m v u→RepV w (Forb (callCtx c m s w ks V) (mapOf m ks) (hpFrom 0 bs)) (mapOf m ks) (renV (posOf · ks) v) u)
  (hown: ∀κ b,κ∈V→(∃B,gt κ s.hp=some B)→blkOf (m κ)=some b→ ¬Forb (callCtx c m s w ks V) (mapOf m ks) (hpFrom 0 bs) b)
  (hsub: ∀b,Forb (callCtx c m s w ks V) (mapOf m ks) (hpFrom 0 bs) b→Forb c m s.hp b):
  ∀ {ts:List TypeId} {vs:List AV} {us:List Value},RepVs w (Forb c m s.hp) m vs us→RepVs w (Forb (callCtx c m s w ks V) (mapOf m ks) (hpFrom 0 bs)) (mapOf m ks) (argsA P s ks V ts vs) us
 | [],vs,us,hv=>by
  simp only[argsA]
  rw[RepVs_iff]at hv ⊢
  have: ∀l:List AV,renVs (posOf · ks) l=l.map (renV (posOf · ks)):=by
   intro l;induction l with
   |nil=>rfl
   |cons x l ih=>simp only[renVs,List.map_cons,ih]
  rw[this]
  refine⟨by simpa using hv.1,fun i v hi=> ?_⟩
  rw[List.getElem?_map]at hi
  obtain⟨v0,h0,rfl⟩:=Option.map_eq_some_iff.1 hi
  obtain⟨u,h1,h2⟩:=hv.2 i v0 h0
  exact⟨u,h1,hren _ _ h2⟩
 |t::ts,[],us,hv=>by simpa only[argsA,renVs,RepVs]using hv
 |t::ts,v::vs,us,hv=>by
  simp only[argsA,RepVs]at hv ⊢
  obtain⟨u,rest,h1,h2,h3⟩:=hv
  exact⟨u,rest,h1,argA_rep h hVk hren hown hsub h2,argsA_rep h hVk hren hown hsub h3⟩
structure IsFn (P:Program) (f:FuncId) (fn:Func):Prop where
 at_:P.funcs[f]? =some fn
 body:fn.body.isSome=true
 name:(fn.name== "runtime.NumGoroutine")=false
theorem run_call{P:Program}{f:FuncId}{fn:Func}(hf:IsFn P f fn){o:Oper}{a:Act}{w:World}{g:Operand}{args:Array Operand}{tys:Array TypeId}{caps:Array Value}(ho:o.op= .call {callee:= .value g,args:=args,argTypes:=tys})(hg:a.eval g= .func (.func f) #[] caps):
  (execOp a.eval o).run P w= .ok (.enter f (args.map a.eval++caps)) w:=by
 have hb:fn.body.isNone=false:=by
  have:=hf.body
  cases hbd:fn.body with
  |none=>rw[hbd]at this;cases this
  |some c=>rfl
 simp only[execOp,ho,resolve,hg,Deferred.ofValue,Sem.run_bind,Sem.run_pure,Result.andThen_ok,invoke,callFunc]
 simp only[program,Sem.run,hf.at_,hf.name,hb,Result.andThen]
 simp
def GoesTo(P:Program)(s:St)(o:Oper)(f:FuncId)(vs:List AV):Prop:= ∀(cx:Ctx) (m:Nat→Value) (a:Act) (w:World),SRep cx m s a w→ ∃us:List Value,(execOp a.eval o).run P w= .ok (.enter f us.toArray) w∧RepVs w (Forb cx m s.hp) m vs us
theorem awpl_callH{P:Program}{ops:Array Oper}{o:Oper}{l:List Oper}{Q:St→Prop}{s:St}(hg:o.guard=none)
  {f:FuncId}{fn:Func}{vs vs':List AV}(hf:IsFn P f fn)(hgo:GoesTo P s o f vs)(hdst:s.okDst o.dst=true)
  (ks V:List Nat)(q:Nat){bs:List Blk}{Post:AV→List Blk→Prop}(hrep: ∀(cx:Ctx) (m:Nat→Value) (a:Act) (w:World) (us:List Value),SRep cx m s a w→(∀κ,κ∈V→κ∉ks)→
   (∀v u,RepV w (Forb cx m s.hp) m v u→RepV w (Forb (callCtx cx m s w ks V) (mapOf m ks) (hpFrom 0 bs)) (mapOf m ks) (renV (posOf · ks) v) u)→
   (∀κ b,κ∈V→(∃B,gt κ s.hp=some B)→blkOf (m κ)=some b→ ¬Forb (callCtx cx m s w ks V) (mapOf m ks) (hpFrom 0 bs) b)→
   (∀b,Forb (callCtx cx m s w ks V) (mapOf m ks) (hpFrom 0 bs) b→Forb cx m s.hp b)→
   RepVs w (Forb cx m s.hp) m vs us→RepVs w (Forb (callCtx cx m s w ks V) (mapOf m ks) (hpFrom 0 bs)) (mapOf m ks) vs' us)
  (hcall:ACall P f vs' bs Post)
  (hn:ks.Nodup)(hb:pickB (posOf · ks) s.hp ks=some bs)(hk16:ks.length≤16)(hq:16≤q)(hVk: ∀κ,κ∈V→κ∉ks∧(gt κ s.hp).isSome=true)
  (next: ∀r hs',Post r hs'→bs.length≤hs'.length→(∀κ,κ∈ks→κ<q∨q+hs'.length≤κ)∧(V= []∨(flatV r=true∧ ∀B,B∈hs'→flatB B=true))∧AWpL P ops l Q ((afterS s ks q hs').put o.dst (renV (backF ks q hs'.length) r))):
  AWpL P ops (o::l) Q s:=by
 intro cx m a w K hr hK
 obtain⟨hl,hget⟩:=pickB_get hb
 have hdk: ∀κ,κ∈ks→ ∃B,gt κ s.hp=some B:=by
  intro κ hκ
  obtain⟨j,hj⟩:=List.getElem?_of_mem hκ
  obtain⟨B,h4,_⟩:=hget j κ hj
  exact⟨B,h4⟩
 have hX2: ∀κ b,κ∈ks→blkOf (m κ)=some b→ ¬(callCtx cx m s w ks V).X b:=fun κ b h1 h2 h3=>h3.2 ⟨κ,.inl h1,h2⟩
 obtain⟨hS,hren⟩:=hr.hand (c':=callCtx cx m s w ks V) ks hn hb (fun b hb=>hb.1) hX2 (fun κ b h1 h2=> .inl ⟨κ,h1,h2⟩) (Fr.refl _ _) (fun b hb=>forb_lt hr hb.1)
  (fun j v hj=>by
   simp only[callCtx]at hj
   split at hj
   ·rename_i κ hκ
    split at hj
    ·cases hj;exact mapOf_get hκ
    ·cases hj;exact mapOf_get hκ
    ·cases hj
   ·cases hj)
  (fun j v hj=>by
   simp only[callCtx]at hj
   split at hj
   ·rename_i κ hκ
    split at hj
    ·rename_i e cs hB
     cases hj
     have hlt:=(List.getElem?_eq_some_iff.1 hκ).1
     obtain⟨b,c,h1,_⟩:=hr.heap κ _ hB
     exact⟨by omega,_,h1⟩
    ·rename_i e cs hB
     cases hj
     have hlt:=(List.getElem?_eq_some_iff.1 hκ).1
     obtain⟨vals,⟨b,o,cap,h1,_⟩,_⟩:=hr.heap κ _ hB
     exact⟨by omega,_,h1⟩
    ·cases hj
   ·cases hj)
  ⟨hr.gtok,fun b cs hb ⟨κ,h1,h2⟩=>by obtain⟨B,hB⟩:=hdk κ h1;exact hr.gnot hb ⟨κ,B,hB,h2⟩⟩
 have hsub: ∀b,Forb (callCtx cx m s w ks V) (mapOf m ks) (hpFrom 0 bs) b→Forb cx m s.hp b:=by
  rintro b (hX|⟨j,B,h1,h2⟩)
  ·exact hX.1
  ·rw[gt_hp0]at h1
   have hlt:j<ks.length:=by rw[←hl];exact(List.getElem?_eq_some_iff.1 h1).1
   have hkj:ks[j]? =some ks[j]:=by simp[hlt]
   rw[mapOf_get hkj]at h2
   obtain⟨B',hB'⟩:=hdk _ (List.mem_of_getElem? hkj)
   exact .inr ⟨_,B',hB',h2⟩
 have hown: ∀κ b,κ∈V→(∃B,gt κ s.hp=some B)→blkOf (m κ)=some b→ ¬Forb (callCtx cx m s w ks V) (mapOf m ks) (hpFrom 0 bs) b:=by
  rintro κ b hV ⟨B,hB⟩ hbb (hX|⟨j,B',h1,h2⟩)
  ·exact hX.2 ⟨κ,.inr hV,hbb⟩
  ·rw[gt_hp0]at h1
   have hlt:j<ks.length:=by rw[←hl];exact(List.getElem?_eq_some_iff.1 h1).1
   have hkj:ks[j]? =some ks[j]:=by simp[hlt]
   rw[mapOf_get hkj]at h2
   obtain⟨B'',hB''⟩:=hdk _ (List.mem_of_getElem? hkj)
   exact hr.sep κ ks[j] B B'' b hB hB'' (fun e=>(hVk κ hV).1 (e▸List.mem_of_getElem? hkj)) hbb h2
 obtain⟨us,hrun,hargs⟩:=hgo cx m a w hr
 have hC:=hcall (callCtx cx m s w ks V) (mapOf m ks) us w hS (hrep cx m a w us hr (fun κ hκ=>(hVk κ hκ).1) hren hown hsub hargs)
  (fun κ v hv=>by
   simp only[callCtx]at hv
   rw[hl]
   cases hκ:ks[κ]? with
   |some κ'=>exact(List.getElem?_eq_some_iff.1 hκ).1
   |none=>rw[hκ]at hv;cases hv)
 unfold wpList
 rw[if_pos (wanted_none hg _)]
 refine .inl ?_
 unfold Oper.wp
 rw[hrun]
 simp only[Oper.upon_enter]
 refine hC.mono ?_
 rintro e w' ⟨u,m',r,hs',rfl,hp,hlen,hS',hu⟩
 obtain⟨n1,n2,n3⟩:=next r hs' hp hlen
 obtain⟨a1,a2⟩:=hr.after hn hb hq n1 hlen hS' hu n2
 exact n3 cx _ _ _ K (a1.put hdst a2) hK
theorem awpl_callG{P:Program}{ops:Array Oper}{o:Oper}{l:List Oper}{Q:St→Prop}{s:St}(hg:o.guard=none)
  {f:FuncId}{fn:Func}{vs:List AV}(hf:IsFn P f fn)(hgo:GoesTo P s o f vs)(hdst:s.okDst o.dst=true)
  (ks V:List Nat)(q:Nat){bs:List Blk}{Post:AV→List Blk→Prop}(hcall:ACall P f (argsA P s ks V fn.params.toList vs) bs Post)
  (hn:ks.Nodup)(hb:pickB (posOf · ks) s.hp ks=some bs)(hk16:ks.length≤16)(hq:16≤q)(hVk: ∀κ,κ∈V→κ∉ks∧(gt κ s.hp).isSome=true)
  (next: ∀r hs',Post r hs'→bs.length≤hs'.length→(∀κ,κ∈ks→κ<q∨q+hs'.length≤κ)∧(V= []∨(flatV r=true∧ ∀B,B∈hs'→flatB B=true))∧AWpL P ops l Q ((afterS s ks q hs').put o.dst (renV (backF ks q hs'.length) r))):
  AWpL P ops (o::l) Q s:=
 awpl_callH hg hf hgo hdst ks V q (fun cx m a w us hr h1 h2 h3 h4 h5=>argsA_rep hr h1 h2 h3 h4 h5) hcall hn hb hk16 hq hVk next
def cellA(P:Program)(s:St)(ks V:List Nat):AV→AV
 | .own κ=>argA P s ks V 0 (.own κ)
 |v=>renV (posOf · ks) v
def cellsA(P:Program)(s:St)(ks V:List Nat):List AV→List AV
 | []=> []
 |v::vs=>cellA P s ks V v::cellsA P s ks V vs
def argC(P:Program)(s:St)(ks V:List Nat)(t:TypeId):AV→AV
 | .agg cs=> .agg (cellsA P s ks V cs)
 |v=>argA P s ks V t v
def argsC(P:Program)(s:St)(ks V:List Nat):List TypeId→List AV→List AV
 |t::ts,v::vs=>argC P s ks V t v::argsC P s ks V ts vs
 |_,vs=>renVs (posOf · ks) vs
theorem cellsA_rep{P:Program}{c:Ctx}{m:Nat→Value}{s:St}{a:Act}{w:World}(h:SRep c m s a w){ks V:List Nat}{bs:List Blk}(hVk: ∀κ,κ∈V→κ∉ks)
  (hren: ∀v u,RepV w (Forb c m s.hp) m v u→RepV w (Forb (callCtx c m s w ks V) (mapOf m ks) (hpFrom 0 bs)) (mapOf m ks) (renV (posOf · ks) v) u)
  (hown: ∀κ b,κ∈V→(∃B,gt κ s.hp=some B)→blkOf (m κ)=some b→ ¬Forb (callCtx c m s w ks V) (mapOf m ks) (hpFrom 0 bs) b)
  (hsub: ∀b,Forb (callCtx c m s w ks V) (mapOf m ks) (hpFrom 0 bs) b→Forb c m s.hp b):
  ∀ {vs:List AV} {us:List Value},RepVs w (Forb c m s.hp) m vs us→RepVs w (Forb (callCtx c m s w ks V) (mapOf m ks) (hpFrom 0 bs)) (mapOf m ks) (cellsA P s ks V vs) us
 | [],us,hv=>by simpa only[cellsA,RepVs]using hv
 |v::vs,us,hv=>by
  simp only[cellsA,RepVs]at hv ⊢
  obtain⟨u,rest,h1,h2,h3⟩:=hv
  refine⟨u,rest,h1,?_,cellsA_rep h hVk hren hown hsub h3⟩
  unfold cellA
  split
  ·exact argA_rep h hVk hren hown hsub h2
  ·exact hren _ _ h2
theorem argsC_rep{P:Program}{c:Ctx}{m:Nat→Value}{s:St}{a:Act}{w:World}(h:SRep c m s a w){ks V:List Nat}{bs:List Blk}(hVk: ∀κ,κ∈V→κ∉ks)
  (hren: ∀v u,RepV w (Forb c m s.hp) m v u→RepV w (Forb (callCtx c m s w ks V) (mapOf m ks) (hpFrom 0 bs)) (mapOf m ks) (renV (posOf · ks) v) u)
  (hown: ∀κ b,κ∈V→(∃B,gt κ s.hp=some B)→blkOf (m κ)=some b→ ¬Forb (callCtx c m s w ks V) (mapOf m ks) (hpFrom 0 bs) b)
  (hsub: ∀b,Forb (callCtx c m s w ks V) (mapOf m ks) (hpFrom 0 bs) b→Forb c m s.hp b):
  ∀ {ts:List TypeId} {vs:List AV} {us:List Value},RepVs w (Forb c m s.hp) m vs us→RepVs w (Forb (callCtx c m s w ks V) (mapOf m ks) (hpFrom 0 bs)) (mapOf m ks) (argsC P s ks V ts vs) us
 | [],vs,us,hv=>by
  have:=argsA_rep (P:=P) (ts:= []) h hVk hren hown hsub hv
  simpa only[argsC,argsA]using this
 |t::ts,[],us,hv=>by simpa only[argsC,renVs,RepVs]using hv
 |t::ts,v::vs,us,hv=>by
  simp only[argsC,RepVs]at hv ⊢
  obtain⟨u,rest,h1,h2,h3⟩:=hv
  refine⟨u,rest,h1,?_,argsC_rep h hVk hren hown hsub h3⟩
  unfold argC
  split
  ·simp only[RepV]at h2 ⊢
   obtain⟨us',e1,e2,e3⟩:=h2
   exact⟨us',e1,cellsA_rep h hVk hren hown hsub e2,e3⟩
  ·exact argA_rep h hVk hren hown hsub h2
theorem goesTo_value{P:Program}{s:St}{o:Oper}{g:Operand}{args:Array Operand}{tys:Array TypeId}(ho:o.op= .call {callee:= .value g,args:=args,argTypes:=tys})
  {f:FuncId}{fn:Func}{caps vs:List AV}(hf:IsFn P f fn)(hgv:s.ev g=some (.clos f caps))(hvs:s.evL args.toList=some vs):GoesTo P s o f (vs++caps):=by
 intro cx m a w hr
 have hgu:=hr.ev hgv
 simp only[RepV]at hgu
 obtain⟨cus,hg1,hcr⟩:=hgu
 refine⟨args.toList.map a.eval++cus,?_,?_⟩
 ·rw[run_call hf ho hg1]
  have e1:(args.map a.eval++cus.toArray)=(args.toList.map a.eval++cus).toArray:=by
   apply Array.ext';simp
  rw[e1]
 ·have h1:=evL_rep hr hvs
  rw[RepVs_iff]at h1 hcr ⊢
  refine⟨by simp[h1.1,hcr.1],fun i v hi=> ?_⟩
  rw[List.getElem?_append]at hi ⊢
  rw[h1.1]at hi
  split at hi
  ·rename_i hlt;rw[if_pos hlt];exact h1.2 i v hi
  ·rename_i hge;rw[if_neg hge];exact hcr.2 _ v hi
theorem goesTo_func{P:Program}{s:St}{o:Oper}{g:Operand}{args:Array Operand}{tys:Array TypeId}(ho:o.op= .call {callee:= .value g,args:=args,argTypes:=tys})
  {f:FuncId}{fn:Func}{vs:List AV}(hf:IsFn P f fn)(hgv:s.ev g=some (.d (.v (.func (.func f) #[] #[]))))(hvs:s.evL args.toList=some vs):GoesTo P s o f vs:=by
 intro cx m a w hr
 have hg1:=(repV_v.1 (hr.ev hgv)).1
 refine⟨args.toList.map a.eval,?_,evL_rep hr hvs⟩
 rw[run_call hf ho hg1]
 have e1:(args.map a.eval++ #[])=(args.toList.map a.eval).toArray:=by
  apply Array.ext';simp
 rw[e1]
theorem goesTo_invoke{P:Program}{s:St}{o:Oper}{r:Operand}{n:String}{args:Array Operand}{tys:Array TypeId}(ho:o.op= .call {callee:= .invoke r n,args:=args,argTypes:=tys})
  {f:FuncId}{fn:Func}{t:TypeId}{v:AV}{vs:List AV}(hf:IsFn P f fn)(hm:methA P t n=some f)(hrv:s.ev r=some (.wrap (.ifc t) v))(hvs:s.evL args.toList=some vs):GoesTo P s o f (v::vs):=by
 intro cx m a w hr
 have hgu:=hr.ev hrv
 simp only[RepV]at hgu
 obtain⟨u0,hg1,hcr⟩:=hgu
 refine⟨u0::args.toList.map a.eval,?_,?_⟩
 ·have hb:fn.body.isNone=false:=by
   have:=hf.body
   cases hbd:fn.body with
   |none=>rw[hbd]at this;cases this
   |some c=>rfl
  have hmr:=methA_run hm (P.types.size+99) u0 w
  have hfun: ∀us:Array Value,(callFunc f us).run P w= .ok (.enter f us) w:=by
   intro us
   simp only[callFunc,Sem.run_bind,program,Sem.run,hf.at_,hf.name,hb,Result.andThen]
   simp
  have hdep:P.types.size+Made.depth=P.types.size+99+1:=rfl
  simp only[execOp,ho,resolve,hg1,Wr.val,Sem.run_bind,Sem.run_pure,Result.andThen_ok,invoke]
  have e0:(#[Value.iface t u0]++args.map a.eval)[0]? =some (Value.iface t u0):=by rw[Array.getElem?_append_left (by simp)];rfl
  rw[e0]
  simp only[callMethod,Sem.run_bind,run_program,Result.andThen_ok,hdep,hmr,hfun]
  have e1:(#[u0]++(#[Value.iface t u0]++args.map a.eval).extract 1 (#[Value.iface t u0]++args.map a.eval).size)=(u0::args.toList.map a.eval).toArray:=by
   apply Array.ext'
   simp only[Array.toList_append,List.cons_append,List.nil_append,Array.toList_extract,Array.size_append,Array.size_map,Array.toList_map,List.extract]
   simp
   rw[List.take_of_length_le (by simp)]
  rw[e1]
 ·have h1:=evL_rep hr hvs
  simp only[RepVs]
  exact⟨u0,_,rfl,hcr,h1⟩
def funOf:Value→Option FuncId
 | .func (.func f) p q=>if p.isEmpty&&q.isEmpty then some f else none
 |_=>none
theorem funOf_mk{f:FuncId}:funOf (.func (.func f) #[] #[])=some f:=rfl
theorem funOf_eq{u:Value}{f:FuncId}(h:funOf u=some f):u= .func (.func f) #[] #[]:=by
 unfold funOf at h
 split at h
 ·rename_i f' p q
  split at h
  ·rename_i hpq
   cases h
   simp only[Bool.and_eq_true,Array.isEmpty_iff]at hpq
   rw[hpq.1,hpq.2]
  ·cases h
 ·cases h
def goV:Option AV→Option (List AV)→Option (FuncId×List AV)
 |some (.clos f caps),some vs=>some (f,vs++caps)
 |some (.d (.v u)),some vs=>omap (funOf u) fun f=>(f,vs)
 |_,_=>none
def goI(P:Program)(n:String):Option AV→Option (List AV)→Option (FuncId×List AV)
 |some (.wrap (.ifc t) v),some vs=>omap (methA P t n) fun f=>(f,v::vs)
 |_,_=>none
def goC(P:Program)(s:St)(c:Call):Option (FuncId×List AV):=
 match c.callee with
 | .value g=>goV (s.ev g) (s.evL c.args.toList)
 | .invoke r n=>goI P n (s.ev r) (s.evL c.args.toList)
 |_=>none
theorem goC_sound{P:Program}{s:St}{o:Oper}{c:Call}(ho:o.op= .call c){f:FuncId}{fn:Func}{vs:List AV}(hf:IsFn P f fn)(h:goC P s c=some (f,vs)):GoesTo P s o f vs:=by
 obtain⟨cal,args,tys⟩:=c
 unfold goC at h
 split at h
 ·rename_i g hc
  simp only at hc
  subst hc
  simp only at h
  unfold goV at h
  split at h
  ·rename_i f' caps vs' h1 h2
   simp only[Option.some.injEq,Prod.mk.injEq]at h
   obtain⟨rfl,rfl⟩:=h
   exact goesTo_value ho hf h1 h2
  ·rename_i u vs' h1 h2
   obtain⟨f',hfu,he⟩:=Option.map_eq_some_iff.1 h
   simp only[Prod.mk.injEq]at he
   obtain⟨rfl,rfl⟩:=he
   rw[funOf_eq hfu]at h1
   exact goesTo_func ho hf h1 h2
  ·cases h
 ·rename_i r n hc
  simp only at hc
  subst hc
  simp only at h
  unfold goI at h
  split at h
  ·rename_i t v vs' h1 h2
   obtain⟨f',hm,he⟩:=Option.map_eq_some_iff.1 h
   simp only[Prod.mk.injEq]at he
   obtain⟨rfl,rfl⟩:=he
   exact goesTo_invoke ho hf hm h1 h2
  ·cases h
 ·cases h
theorem awpl_guard{P:Program}{ops:Array Oper}{o:Oper}{l:List Oper}{Q:St→Prop}{s:St}{j:Nat}{b:Bool}(hg:o.guard=some (j,b))(hb:((ops[j]?).bind (·.dst)).bind (fun t=>gt t s.tm)=some (.d (.v (.bool b))))
  (h:AWpL P ops ({o with guard:=none}::l) Q s):AWpL P ops (o::l) Q s:=by
 intro cx m a w K hr hK
 have:=h cx m a w K hr hK
 unfold wpList at this ⊢
 rw[if_pos (wanted_none rfl _)]at this
 obtain⟨t,ht,hb⟩:=Option.bind_eq_some_iff.1 hb
 have hy:yielded ops a.tmps j=some b:=by
  unfold yielded
  rw[ht]
  simp only[Option.bind_some,gt_lt hr hb]
 rw[if_pos (by simp[Region.wanted,hg,hy])]
 exact this
section
variable {P:Program} {Q:Exit→St→Prop} {s:St} {nx:St→Prop}
theorem xthen_n:Xthen nx Q .normal s=nx s:=rfl
theorem xthen_x{i:Nat}:Xthen nx Q (.exit i) s=Q (.exit i) s:=rfl
theorem xthen_r:Xthen nx Q .ret s=Q .ret s:=rfl
theorem xthen_g{i:Nat}:Xthen nx Q (.goto i) s=Q (.goto i) s:=rfl
theorem xblock_n{i:Nat}:Xblock i Q .normal s=Q .normal s:=rfl
theorem xblock_r{i:Nat}:Xblock i Q .ret s=Q .ret s:=rfl
theorem xblock_g{i j:Nat}:Xblock i Q (.goto j) s=Q (.goto j) s:=rfl
theorem xblock_x{i j:Nat}:Xblock i Q (.exit j) s=if j=i then Q .normal s else Q (.exit j) s:=rfl
theorem xscope_n:Xscope Q .normal s=Q .normal s:=rfl
theorem xscope_r:Xscope Q .ret s=Q .ret s:=rfl
theorem xscope_x{i:Nat}:Xscope Q (.exit i) s=Q (.exit i) s:=rfl
theorem awp_seq_run{id:Nat}{l:List Oper}{y:Code}{s':St}(h:runG P l.toArray l s=some s')(hy:AWp P y Q s'):AWp P (.seq (.region id l.toArray false) y) Q s:=
 awp_seq (awp_region_run h hy)
def St.mat(s:St)(t κ:Nat)(B:Blk):St:=(s.setB true κ B).put (some t) (.own κ)
theorem awp_mat{c:Code}(t κ:Nat)(B:Blk){v:AV}(ht:gt t s.tm=some v)(he:isEmptyA v=true)(h16:16≤κ)(htn:t<s.n)(hB:(∃e k,B= .ints e k [] (some 0))∨(∃e n,B= .row e n [] (some 0)))(h:AWp P c Q (s.mat t κ B)):AWp P c Q s:=by
 intro cx m a w hr
 have hv:=hr.slot t v ht
 obtain⟨ad,had⟩:=isEmptyA_val hv he
 obtain⟨h1,_⟩:=hr.mat κ B ad (.inl h16) hB
 have h2:=h1.put (dst:=some t) (v:= .own κ) (u:= .slice ad 0 0) (by simp only[St.okDst,St.setB];simpa using htn) (by simp only[RepV,upm_same];exact⟨trivial,rfl⟩)
 have e:a.put (some t) (.slice ad 0 0)=a:=by
  have hlt:t<a.tmps.size:=by rw[hr.nt];exact htn
  have:a.tmps.setIfInBounds t (.slice ad 0 0)=a.tmps:=by
   apply Array.ext_getElem?
   intro i
   by_cases e:t=i
   ·subst e
    have had':a.tmps[t]= .slice ad 0 0:=by rw[Array.getD_eq_getD_getElem?,Array.getElem?_eq_getElem hlt]at had;exact had
    rw[Array.getElem?_eq_getElem hlt,had']
    simp[hlt]
   ·rw[Array.getElem?_setIfInBounds_ne e]
  simp only[Act.put,this]
 rw[e]at h2
 exact h cx _ a w h2
def FPost(P:Program)(res:List ResultVar)(n:Nat)(Post:AV→List Blk→Prop)(e:Exit)(s':St):Prop:=
 (e= .ret∨e= .normal)∧ ∃ks r bs,(∀j,j<n→ks[j]? =some j)∧n≤ks.length∧ks.Nodup∧pickB (posOf · ks) s'.hp ks=some bs∧resA P s' res=some r∧Post (renV (posOf · ks) r) bs
theorem fret{res:List ResultVar}{n:Nat}{Post:AV→List Blk→Prop}{r:AV}{bs:List Blk}{e:Exit}(ks:List Nat)(he:e= .ret∨e= .normal)(h1:ks.take n=List.range n)(hn:n≤ks.length)(hd:ks.Nodup)(hp:pickB (posOf · ks) s.hp ks=some bs)(hr:resA P s res=some r)(h:Post (renV (posOf · ks) r) bs):FPost P res n Post e s:=by
 refine⟨he,ks,r,bs,fun j hj=> ?_,hn,hd,hp,hr,h⟩
 have:(ks.take n)[j]? =(List.range n)[j]? :=by rw[h1]
 rw[List.getElem?_take,if_pos hj]at this
 rw[this];simp[hj]
theorem acall_body{f:FuncId}{fn:Func}{c:Code}{vs:List AV}{hs:List Blk}{Post:AV→List Blk→Prop}{n:Nat}{res:List ResultVar}(hf:P.funcs[f]? =some fn)(hb:fn.body=some c)(hn:fn.ntmps=n)(hres:fn.results.toList=res)(hle:vs.length≤n)
  (h:AWp P c (FPost P res hs.length Post) ⟨n,tmFrom 0 vs,hpFrom 0 hs⟩):ACall P f vs hs Post:=by
 subst hn hres
 exact acall_of hf hb hle h
def AFun(P:Program)(f:FuncId)(vs:List D)(r:D):Prop:=ACall P f (vs.map .d) [] fun r' hs'=>r'= .d r∧hs'= []
end
theorem w_i64(x:Int)(h1: -9223372036854775808≤x)(h2:x≤9223372036854775807):IntKind.i64.wrap x=x:=by rw[IntKind.wrap_i64];omega
theorem w_i32(x:Int)(h1: -2147483648≤x)(h2:x≤2147483647):IntKind.i32.wrap x=x:=by rw[IntKind.wrap_i32];omega
theorem w_u8(x:Int)(h1:0≤x)(h2:x≤255):IntKind.u8.wrap x=x:=by rw[IntKind.wrap_u8];omega
theorem w_u16(x:Int)(h1:0≤x)(h2:x≤65535):IntKind.u16.wrap x=x:=by rw[IntKind.wrap_u16];omega
theorem w_u32(x:Int)(h1:0≤x)(h2:x≤4294967295):IntKind.u32.wrap x=x:=by rw[IntKind.wrap_u32];omega
theorem w_u64(x:Int)(h1:0≤x)(h2:x≤18446744073709551615):IntKind.u64.wrap x=x:=by rw[IntKind.wrap_u64];omega
theorem tdivP(x y:Int)(h:0≤x):x.tdiv y=x / y:=Int.tdiv_eq_ediv_of_nonneg h
theorem tmodP(x y:Int)(h:0≤x):x.tmod y=x % y:=Int.tmod_eq_emod_of_nonneg h
def ARow(P:Program)(f:FuncId)(vs:List D)(B:Blk):Prop:=ACall P f (vs.map .d) [] fun r hs'=>r= .own 0∧hs'= [B]
theorem arow_body{P:Program}{f:FuncId}{fn:Func}{c:Code}{vs:List D}{B:Blk}{n:Nat}{res:List ResultVar}(hf:P.funcs[f]? =some fn)(hb:fn.body=some c)(hn:fn.ntmps=n)(hres:fn.results.toList=res)(hle:vs.length≤n)
  (h:AWp P c (FPost P res 0 fun r hs'=>r= .own 0∧hs'= [B]) ⟨n,tmFrom 0 (vs.map .d),[]⟩):ARow P f vs B:=
 acall_body hf hb hn hres (by simpa using hle) h
theorem x_seq{P:Program}{Q:Exit→St→Prop}{s:St}{id:Nat}{l:List Oper}{y:Code}(h: ∀r,runG P l.toArray l s=r→ ∃s',r=some s'∧AWp P y Q s'):AWp P (.seq (.region id l.toArray false) y) Q s:=by
 obtain⟨s',h1,h2⟩:=h _ rfl
 exact awp_seq_run h1 h2
theorem x_op{P:Program}{s:St}{ops:Array Oper}{o:Oper}{l:List Oper}{R:St→Prop}(h: ∀r,stepG P ops s o=r→ ∃s',r=some s'∧AWpL P ops l R s'):AWpL P ops (o::l) R s:=by
 obtain⟨s',h1,h2⟩:=h _ rfl
 exact awpl_step h1 h2
theorem x_ret{P:Program}{s:St}{res:List ResultVar}{n:Nat}{Post:AV→List Blk→Prop}{e:Exit}(ks:List Nat)(he:e= .ret∨e= .normal)(h1:ks.take n=List.range n)(hn:n≤ks.length)(hd:ks.Nodup)
  (h: ∀r,resA P s res=r→ ∃v,r=some v∧ ∀q,pickB (posOf · ks) s.hp ks=q→ ∃bs,q=some bs∧Post (renV (posOf · ks) v) bs):FPost P res n Post e s:=by
 obtain⟨v,h2,h3⟩:=h _ rfl
 obtain⟨bs,h4,h5⟩:=h3 _ rfl
 exact fret ks he h1 hn hd h4 h2 h5
theorem ileT(a b:Int)(h:a≤b):(a≤b)=True:=eq_true h
theorem ileF(a b:Int)(h:b<a):(a≤b)=False:=eq_false (by omega)
theorem iltT(a b:Int)(h:a<b):(a<b)=True:=eq_true h
theorem iltF(a b:Int)(h:b≤a):(a<b)=False:=eq_false (by omega)
theorem ieqT(a b:Int)(h:a=b):(a=b)=True:=eq_true h
theorem neqT(a b:Nat)(h:a=b):(a=b)=True:=eq_true h
theorem ieqF(a b:Int)(h:a<b∨b<a):(a=b)=False:=eq_false (by omega)
theorem nleT(a b:Nat)(h:a≤b):(a≤b)=True:=eq_true h
theorem nleF(a b:Nat)(h:b<a):(a≤b)=False:=eq_false (by omega)
theorem nltT(a b:Nat)(h:a<b):(a<b)=True:=eq_true h
theorem nltF(a b:Nat)(h:b≤a):(a<b)=False:=eq_false (by omega)
theorem neqF(a b:Nat)(h:a<b∨b<a):(a=b)=False:=eq_false (by omega)
theorem maxLen_eq:maxLen=9223372036854775807:=rfl
attribute [push_cast] List.contains_cons Bool.or_false Bool.false_or Bool.true_or Bool.or_true rangeN1 rangeN2 rangeN3 List.getElem?_nil decide_true decide_false Bool.false_eq_true Bool.true_eq_false Option.bind_some Option.map_some Option.bind_none Option.map_none Option.getD_some Option.getD_none Option.isSome_some Option.isSome_none List.getElem?_toArray List.getElem?_cons_zero List.getElem?_cons_succ List.map_cons List.map_nil List.take_zero List.take_succ_cons List.drop_zero List.drop_succ_cons List.length_cons List.length_nil List.cons_append List.nil_append and_self and_true true_and false_and and_false true_or or_true false_or or_false if_true if_false not_true_eq_false not_false_eq_true ne_eq Nat.add_zero Nat.zero_add Bool.not_true Bool.not_false List.isEmpty_nil List.isEmpty_cons List.contains_nil List.filter_nil List.range_zero List.all_cons List.all_nil Bool.and_true Bool.and_self decide_eq_true_eq w_i64 w_i32 w_u8 w_u16 w_u32 w_u64 eq_self tdivP tmodP List.getElem?_eq_getElem Int.toNat_natCast ileT ileF iltT iltF ieqT ieqF nleT nleF nltT nltF neqT neqF
attribute [push_cast] nilV nilX nilD St.asD growD gtO maxLen_eq obind_some obind_none omap_some omap_none fixV fixVs fixB St.fix St.mat runG runO stepG stepF stepB isBlt valOp St.ev St.evL St.evI St.evP constA St.okDst St.put ins gt del mapv tmFrom hpFrom lenV capV binV absBin absShift absStr unV cvtV loadV loadV0 loadF fieldAddrV fieldV indexAddrV indexV sliceV cutB capC buildV minI storeB storeB0 storeF setPart growB emptyB isEmptyA litB litX appVX kO valB makeB zeroD St.setB St.freeze killV killVs killB kL mkAgg allD AV.fields AV.parts AV.toD toDs intsOf idxOk layA D.isAgg D.size Blk.isRow Blk.elem Blk.data St.intsA St.rowA capA datV datVs datB resA resAll resOne renV renVs renB posOf pickB argA argsA uncap nilA afterS rowKeys newKeys insL delL backFrom backF backK killsV killsVs killsB xthen_n xthen_x xthen_r xthen_g xblock_n xblock_r xblock_g xblock_x xscope_n xscope_r xscope_x flatV flatVs flatD flatDs flatB
theorem upon_q{P:Program}{o:Oper}{a:Act}{K:Act→World→Prop}{Q Q':Exit→Act→World→Prop}(hp: ∀c a w,Q (.panic c) a w→Q' (.panic c) a w)(hl:LetsOut Q→LetsOut Q'){r:Result Next}(h:o.upon P a K Q r):o.upon P a K Q' r:=by
 cases r with
 |ok n w'=>
  cases n<;>simp only[Oper.upon]at h ⊢ <;>first
   |exact h
   |exact Calls.mono h (fun e w'' he=>by cases e<;>first|exact he|exact hp _ _ _ he|exact hl he)
 |halt x w'=>cases x<;>simp only[Oper.upon]at h ⊢ <;>first|exact h|exact hp _ _ _ h
theorem awpl_one{P:Program}{ops:Array Oper}{o:Oper}{R:St→Prop}{s:St}(h:AWpL P ops [o] R s){cx:Ctx}{m:Nat→Value}{a:Act}{w:World}(hr:SRep cx m s a w){K:Act→World→Prop}{Q:Exit→Act→World→Prop}
  (hK: ∀s' m' a' w',R s'→SRep cx m' s' a' w'→K a' w'):if Region.wanted o (yielded ops a.tmps)then o.wp P a w K Q∨(o.asks P a w∧LetsOut Q)else K (a.put o.dst undef) w:=by
 have:=h cx m a w (fun e a' w'=>match e with| .normal=>K a' w'|e=>Q e a' w') hr (fun s' m' a' w' h1 h2=>hK s' m' a' w' h1 h2)
 unfold wpList at this
 have e0:(wpList P ops (fun e a' w'=>match e with| .normal=>K a' w'|e=>Q e a' w') []:Act→World→Prop)=K:=rfl
 rw[e0]at this
 have hl:LetsOut (fun e a' w'=>match e with| .normal=>K a' w'|e=>Q e a' w')→LetsOut Q:=fun⟨a,w,h⟩=>⟨a,w,h⟩
 split
 ·rename_i hw
  rw[if_pos hw]at this
  rcases this with this|⟨h1,h2⟩
  ·exact .inl (upon_q (fun c a w h=>h) hl this)
  ·exact .inr ⟨h1,hl h2⟩
 ·rename_i hw
  rw[if_neg hw]at this
  exact this
def setD(D:Nat→Bool)(i:Nat):Nat→Bool:=fun j=>if j=i then true else D j
def edgesBack:Nat→List Oper→Bool
 |_,[]=>true
 |i,o::l=>o.after.toList.all (fun e=> !Region.binds .any e||e.on<i)&&edgesBack (i+1) l
theorem edgesBack_get{l:List Oper}: ∀ {i j:Nat} {o:Oper},edgesBack i l=true→l[j]? =some o→ ∀e∈o.after,Region.binds .any e=true→e.on<i+j:=by
 induction l with
 |nil=>intro i j o _ hj;simp at hj
 |cons o' l ih=>
  intro i j o h hj
  rw[edgesBack,Bool.and_eq_true]at h
  cases j with
  |zero=>
   simp at hj;subst hj
   intro e he hbe
   have:=List.all_eq_true.1 h.1 e (by simpa using he)
   rw[hbe]at this
   simpa using this
  |succ j=>
   intro e he hbe
   have:=ih h.2 (by simpa using hj) e he hbe
   omega
def predsIn(o:Oper)(D:Nat→Bool):Prop:= ∀e∈o.after,Region.binds .any e=true→D e.on=true
def edgesOf(o:Oper):List Nat:=(o.after.toList.filter (Region.binds .any)).map (·.on)
theorem edgesOf_mem{o:Oper}{k:Nat}(h:k∈edgesOf o): ∃e∈o.after,Region.binds .any e=true∧e.on=k:=by
 obtain⟨e,he,hk⟩:=List.mem_map.1 h
 obtain⟨h1,h2⟩:=List.mem_filter.1 he
 exact⟨e,by simpa using h1,h2,hk⟩
def closeD(l:List Oper):Nat→List Nat→List Nat
 |0,S=>S
 |j+1,S=>closeD l j (if S.contains j then(match l[j]? with|some o=>edgesOf o++S|none=>S)else S)
theorem closeD_all{l:List Oper}{D:Nat→Bool}(hD: ∀(j:Nat) (o:Oper),l[j]? =some o→D j=true→predsIn o D): ∀(j:Nat) (S:List Nat),(∀k,k∈S→D k=true)→ ∀k,k∈closeD l j S→D k=true
 |0,S,h,k,hk=>h k hk
 |j+1,S,h,k,hk=>by
  simp only[closeD]at hk
  refine closeD_all hD j _ ?_ k hk
  intro k' hk'
  split at hk'
  ·rename_i hc
   split at hk'
   ·rename_i o ho
    rcases List.mem_append.1 hk' with h1|h1
    ·obtain⟨e,he,hbe,rfl⟩:=edgesOf_mem h1
     exact hD j o ho (h j (by simpa using hc)) e he hbe
    ·exact h k' h1
   ·exact h k' hk'
  ·exact h k' hk'
def headBehind(l:List Oper)(p:Nat):Bool:=match l[p]? with
 |none=>true
 |some o=>(List.range p).all fun k=>(closeD l p (edgesOf o)).contains k
def chainB:Nat→List Oper→Bool
 |_,[]=>true
 |i,o::l=>(edgesOf o).contains (i - 1)&&chainB (i+1) l
theorem chainB_get{l:List Oper}: ∀ {i j:Nat} {o:Oper},chainB i l=true→l[j]? =some o→i+j - 1∈edgesOf o:=by
 induction l with
 |nil=>intro i j o _ hj;simp at hj
 |cons o' l ih=>
  intro i j o h hj
  rw[chainB,Bool.and_eq_true]at h
  cases j with
  |zero=>simp at hj;subst hj;simpa using h.1
  |succ j=>
   have:=ih h.2 (by simpa using hj)
   rwa [show i+1+j - 1=i+(j+1) - 1 by omega]at this
def tailOk(p:Nat)(l:List Oper):Bool:=headBehind l p&&chainB (p+1) (l.drop (p+1))
theorem tailOk_get{p:Nat}{l:List Oper}(h:tailOk p l=true){i:Nat}{o:Oper}(hi:l[i]? =some o)(hp:p<i): ∃e∈o.after,Region.binds .any e=true∧e.on=i - 1:=by
 rw[tailOk,Bool.and_eq_true]at h
 have:=chainB_get (j:=i - (p+1)) (o:=o) h.2 (by rw[List.getElem?_drop,show p+1+(i - (p+1))=i by omega];exact hi)
 rw[show p+1+(i - (p+1)) - 1=i - 1 by omega]at this
 exact edgesOf_mem this
theorem tailOk_head{p:Nat}{l:List Oper}(h:tailOk p l=true){o:Oper}(hi:l[p]? =some o){D:Nat→Bool}(hD: ∀(j:Nat) (o:Oper),l[j]? =some o→D j=true→predsIn o D)(hp:predsIn o D): ∀k,k<p→D k=true:=by
 intro k hk
 rw[tailOk,Bool.and_eq_true,headBehind,hi]at h
 have:=List.all_eq_true.1 h.1 k (by simpa using hk)
 refine closeD_all hD p (edgesOf o) (fun k' hk'=> ?_) k (by simpa using this)
 obtain⟨e,he,hbe,rfl⟩:=edgesOf_mem hk'
 exact hp e he hbe
theorem wpAny_tail{P:Program}{ops:Array Oper}{K:Exit→Act→World→Prop}(hb:edgesBack 0 ops.toList=true)(p0:Nat)(ha:tailOk p0 ops.toList=true):
  ∀(fuel p:Nat) (listed:Array Bool) (a:Act) (w:World),p0≤p→listed.size=ops.size→(∀i,i<ops.size→listed.getD i false=decide (i<p))→ops.size≤p+fuel→p≤ops.size→
   wpList P ops K (ops.toList.drop p) a w→wpAny P .any ops K fuel listed a w:=by
 intro fuel
 have get: ∀(listed:Array Bool) (i:Nat),listed.size=ops.size→i<ops.size→listed.getD i true=listed.getD i false:=by
  intro listed i hs hi
  rw[Array.getD_eq_getD_getElem?,Array.getD_eq_getD_getElem?]
  have:listed[i]? =some listed[i]:=by simp[hs,hi]
  rw[this];rfl
 have rdy: ∀(listed:Array Bool) (p:Nat),p0≤p→listed.size=ops.size→(∀i,i<ops.size→listed.getD i false=decide (i<p))→ ∀i,i∈Region.ready .any ops listed↔i=p∧p<ops.size:=by
  intro listed p hp hs hl i
  rw[mem_ready]
  constructor
  ·rintro⟨h1,o,ho,h2⟩
   have hi:i<ops.size:=(Array.getElem?_eq_some_iff.1 ho).1
   rw[get listed i hs hi,hl i hi]at h1
   have hge:p≤i:=by simpa using h1
   rcases Nat.lt_or_ge p i with hlt|hle
   ·exfalso
    obtain⟨e,he,hbe,hon⟩:=tailOk_get ha (i:=i) (o:=o) (by simpa using ho) (by omega)
    have:=h2 e he hbe
    rw[hon,hl (i - 1) (by omega)]at this
    simp at this;omega
   ·exact⟨by omega,by omega⟩
  ·rintro⟨rfl,hi⟩
   refine⟨by rw[get listed i hs hi,hl i hi];simp,ops[i],by simp[hi],fun e he hbe=> ?_⟩
   have hlt:=edgesBack_get hb (j:=i) (o:=ops[i]) (by simp[hi]) e he hbe
   rw[hl e.on (by omega)]
   simp;omega
 induction fuel with
 |zero=>
  intro p listed a w hp hs hl hf hle h
  have hpn:p=ops.size:=by omega
  subst hpn
  refine⟨?_,?_⟩
  ·apply List.eq_nil_iff_forall_not_mem.2
   intro i hi
   rw[rdy listed _ hp hs hl]at hi
   omega
  ·rw[List.drop_eq_nil_of_le (by simp)]at h;exact h
 |succ fuel ih=>
  intro p listed a w hp hs hl hf hle h
  refine⟨fun hr=> ?_,fun i hi=> ?_⟩
  ·rcases Nat.lt_or_ge p ops.size with hlt|hge
   ·have:=(rdy listed p hp hs hl p).2 ⟨rfl,hlt⟩
    rw[hr]at this;cases this
   ·rw[List.drop_eq_nil_of_le (by simpa using hge)]at h;exact h
  ·rw[rdy listed p hp hs hl]at hi
   obtain⟨rfl,hlt⟩:=hi
   have hd:ops.toList.drop i=ops[i]::ops.toList.drop (i+1):=by
    rw[List.drop_eq_getElem_cons (by simpa using hlt)];simp
   rw[hd]at h
   unfold wpList at h
   unfold wpOp
   have ho:ops[i]? =some ops[i]:=by simp[hlt]
   rw[ho]
   have next: ∀a' w',wpList P ops K (ops.toList.drop (i+1)) a' w'→wpAny P .any ops K fuel (listed.setIfInBounds i true) a' w':=by
    intro a' w' h'
    refine ih (i+1) (listed.setIfInBounds i true) a' w' (by omega) (by simpa using hs) (fun k hk=> ?_) (by omega) (by omega) h'
    rw[Array.getD_eq_getD_getElem?]
    by_cases e:k=i
    ·subst e
     have:k<listed.size:=by omega
     simp[this]
    ·rw[Array.getElem?_setIfInBounds_ne (Ne.symm e),←Array.getD_eq_getD_getElem?,hl k hk]
     have:(k<i)↔(k<i+1):=by omega
     simp[this]
   simp only
   split at h
   ·rename_i hw
    rw[if_pos hw]
    rcases h with h|h
    ·exact .inl (Oper.wp_mono next h)
    ·exact .inr h
   ·rename_i hw
    rw[if_neg hw]
    exact next _ _ h
def AWpA(P:Program)(ops:Array Oper)(Q:Exit→St→Prop)(s:St):Prop:=
 ∀(cx:Ctx) (m:Nat→Value) (a:Act) (w:World),SRep cx m s a w→wpAny P .any ops (fun e a' w'=> ∃s' m',Q e s'∧SRep cx m' s' a' w') ops.size (Array.replicate ops.size false) a {w with drawn:=w.drawn+1}
theorem awp_of_A{P:Program}{ops:Array Oper}{rid:Nat}{Q:Exit→St→Prop}{s:St}(hm:P.follows .mixedOrders=true)(h:AWpA P ops Q s):AWp P (.region rid ops true) Q s:=
 fun cx m a w hr=>wp_region_any hm (h cx m a w hr)
theorem awpA_le{P:Program}{ops:Array Oper}{Q:Exit→St→Prop}{s s':St}(h: ∀(cx:Ctx) (m:Nat→Value) (a:Act) (w:World),SRep cx m s a w→SRep cx m s' a w)(ha:AWpA P ops Q s'):AWpA P ops Q s:=fun cx m a w hr=>ha cx m a w (h cx m a w hr)
theorem awp_drawA{P:Program}{ops:Array Oper}{Q:Exit→St→Prop}{s:St}(hb:edgesBack 0 ops.toList=true)(p:Nat)(hpn:p≤ops.size)(ha:tailOk p ops.toList=true)(I:(Nat→Bool)→St)
  (h0:Sub (I fun _=>false) s)
  (hop: ∀(i:Nat) (o:Oper) (D:Nat→Bool),i<p→ops[i]? =some o→D i=false→predsIn o D→(∀(j:Nat) (oj:Oper),ops[j]? =some oj→D j=true→predsIn oj D)→AWpL P ops [o] (fun s2=>Sub (I (setD D i)) s2) (I D))
  (hend: ∀D:Nat→Bool,(∀i,i<p→D i=true)→AWpL P ops (ops.toList.drop p) (Q .normal) (I D)):AWpA P ops Q s:=by
 intro cx m a w hr
 have get: ∀(listed:Array Bool) (i:Nat),listed.size=ops.size→i<ops.size→listed.getD i true=listed.getD i false:=by
  intro listed i hs hi
  rw[Array.getD_eq_getD_getElem?,Array.getD_eq_getD_getElem?]
  have:listed[i]? =some listed[i]:=by simp[hs,hi]
  rw[this];rfl
 have key: ∀(q fuel:Nat) (listed:Array Bool) (m:Nat→Value) (a:Act) (w:World),listed.size=ops.size→(∀(j:Nat) (oj:Oper),ops[j]? =some oj→listed.getD j false=true→predsIn oj (fun k=>listed.getD k false))→
   (∀i,p≤i→i<ops.size→listed.getD i false=false)→((List.range p).filter fun i=> !listed.getD i false).length=q→fuel=q+(ops.size - p)→SRep cx m (I fun k=>listed.getD k false) a w→wpAny P .any ops (fun e a' w'=> ∃s' m',Q e s'∧SRep cx m' s' a' w') fuel listed a w:=by
  intro q
  induction q with
  |zero=>
   intro fuel listed m a w hs hdc htl hq hf hr
   have hall: ∀i,i<p→listed.getD i false=true:=by
    intro i hi
    have hnil:=List.eq_nil_of_length_eq_zero hq
    cases hl:listed.getD i false with
    |true=>rfl
    |false=>
     have:i∈(List.range p).filter fun i=> !listed.getD i false:=List.mem_filter.2 ⟨by simpa using hi,by rw[hl];rfl⟩
     rw[hnil]at this;cases this
   refine wpAny_tail hb p ha fuel p listed a w (Nat.le_refl _) hs (fun i hi=> ?_) (by omega) hpn (hend _ hall cx m a w _ hr (fun s' m' a' w' h1 h2=>⟨s',m',h1,h2⟩))
   by_cases h:i<p
   ·rw[hall i h];simp[h]
   ·rw[htl i (by omega) hi];simp[h]
  |succ q ih=>
   intro fuel listed m a w hs hdc htl hq hf hr
   obtain⟨fuel,rfl⟩: ∃f,fuel=f+1:=⟨fuel - 1,by omega⟩
   have hex: ∃i,i<p∧listed.getD i false=false:=by
    cases hl:(List.range p).filter fun i=> !listed.getD i false with
    |nil=>rw[hl]at hq;simp at hq
    |cons i l=>
     have:i∈(List.range p).filter fun i=> !listed.getD i false:=by rw[hl];simp
     obtain⟨h1,h2⟩:=List.mem_filter.1 this
     exact⟨i,by simpa using h1,by simpa using h2⟩
   have least: ∀n i,i≤n→i<p→listed.getD i false=false→ ∃j,j<p∧listed.getD j false=false∧ ∀k,k<j→listed.getD k false=true:=by
    intro n
    induction n with
    |zero=>
     intro i hi h1 h2
     exact⟨i,h1,h2,fun k hk=>by omega⟩
    |succ n ihn=>
     intro i hi h1 h2
     by_cases h: ∃k,k<i∧listed.getD k false=false
     ·obtain⟨k,h3,h4⟩:=h
      exact ihn k (by omega) (by omega) h4
     ·refine⟨i,h1,h2,fun k hk=> ?_⟩
      cases hk':listed.getD k false with
      |true=>rfl
      |false=>exact absurd ⟨k,hk,hk'⟩ h
   have hready:Region.ready .any ops listed≠ []:=by
    obtain⟨i,h1,h2⟩:=hex
    obtain⟨j,h3,h4,h5⟩:=least i i (Nat.le_refl _) h1 h2
    have hj:j<ops.size:=by omega
    have:j∈Region.ready .any ops listed:=by
     rw[mem_ready]
     refine⟨by rw[get listed j hs hj];exact h4,ops[j],by simp[hj],fun e he hbe=> ?_⟩
     have hlt:=edgesBack_get hb (j:=j) (o:=ops[j]) (by simp[hj]) e he hbe
     exact h5 e.on (by omega)
    intro e;rw[e]at this;cases this
   refine⟨fun hrd=>absurd hrd hready,fun i hi=> ?_⟩
   rw[mem_ready]at hi
   obtain⟨h1,o,ho,hp⟩:=hi
   have hlt:i<ops.size:=(Array.getElem?_eq_some_iff.1 ho).1
   have hli:listed[i]? =some listed[i]:=by simp[hs,hlt]
   have hDi:listed.getD i false=false:=by rw[←get listed i hs hlt];exact h1
   have hip:i<p:=by
    rcases Nat.lt_or_ge i p with h|h
    ·exact h
    ·exfalso
     obtain⟨k,h3,h4⟩:=hex
     rcases Nat.eq_or_lt_of_le h with e|hlt'
     ·subst e
      have:=tailOk_head ha (o:=o) (by simpa using ho) (D:=fun k=>listed.getD k false) (fun j oj hj=>hdc j oj (by simpa using hj)) (fun e he hbe=>hp e he hbe) k h3
      rw[h4]at this;cases this
     ·obtain⟨e,he,hbe,hon⟩:=tailOk_get ha (i:=i) (o:=o) (by simpa using ho) hlt'
      have:=hp e he hbe
      rw[hon,htl (i - 1) (by omega) (by omega)]at this;cases this
   have hset: ∀k,(listed.setIfInBounds i true).getD k false=setD (fun k=>listed.getD k false) i k:=by
    intro k
    show _=if k=i then true else listed.getD k false
    rw[Array.getD_eq_getD_getElem?]
    split
    ·rename_i e;subst e
     have:k<listed.size:=by omega
     simp[this]
    ·rename_i e
     rw[Array.getElem?_setIfInBounds_ne (Ne.symm e),Array.getD_eq_getD_getElem?]
   have hset':(fun k=>(listed.setIfInBounds i true).getD k false)=setD (fun k=>listed.getD k false) i:=funext hset
   have hstep:=hop i o (fun k=>listed.getD k false) hip ho hDi hp hdc
   have hcount:((List.range p).filter fun k=> !(listed.setIfInBounds i true).getD k false).length=q:=by
    have gen: ∀(l:List Nat) (f g:Nat→Bool),l.Nodup→i∈l→f i=true→g i=false→(∀k,k≠i→g k=f k)→(l.filter g).length+1=(l.filter f).length:=by
     intro l f g
     induction l with
     |nil=>intro _ h;cases h
     |cons x l ihl=>
      intro hn hmem hf hg hfg
      rw[List.nodup_cons]at hn
      by_cases e:x=i
      ·subst e
       have hsame:l.filter g=l.filter f:=by
        apply List.filter_congr
        intro k hk
        exact hfg k (fun e=>hn.1 (e▸hk))
       rw[List.filter_cons_of_pos hf,List.filter_cons_of_neg (by rw[hg];simp),hsame];rfl
      ·have hin:i∈l:=by
        rcases List.mem_cons.1 hmem with h|h
        ·exact absurd h.symm e
        ·exact h
       have:=ihl hn.2 hin hf hg hfg
       rw[List.filter_cons,List.filter_cons,hfg x e]
       split
       ·simp only[List.length_cons];omega
       ·exact this
    have:=gen (List.range p) (fun k=> !listed.getD k false) (fun k=> !(listed.setIfInBounds i true).getD k false) List.nodup_range (by simpa using hip) (by simp only[hDi];rfl) (by simp only[hset,setD,if_pos];rfl) (fun k hk=>by simp only[hset,setD,if_neg hk])
    omega
   have:=awpl_one hstep hr (K:=wpAny P .any ops (fun e a' w'=> ∃s' m',Q e s'∧SRep cx m' s' a' w') fuel (listed.setIfInBounds i true)) (Q:=fun e a' w'=> ∃s' m',Q e s'∧SRep cx m' s' a' w') (fun s' m' a' w' h2 h3=>by
    refine ih fuel (listed.setIfInBounds i true) m' a' w' (by simpa using hs) ?_ (fun k hk1 hk2=> ?_) hcount (by omega) (by rw[hset'];exact h3.sub h2)
    ·intro j oj hj hjl e he hbe
     show(listed.setIfInBounds i true).getD e.on false=true
     rw[hset]
     rw[hset]at hjl
     unfold setD at hjl ⊢
     split
     ·rfl
     ·split at hjl
      ·rename_i e1 e2
       subst e2
       rw[ho]at hj;cases hj
       exact hp e he hbe
      ·exact hdc j oj hj hjl e he hbe
    ·rw[hset,setD,if_neg (by omega)];exact htl k hk1 hk2)
   unfold wpOp
   rw[ho]
   exact this
 have e:(fun k=>(Array.replicate ops.size false).getD k false)=fun _=>false:=by
  funext k
  rw[Array.getD_eq_getD_getElem?,Array.getElem?_replicate]
  split<;>rfl
 refine key p ops.size (Array.replicate ops.size false) m a _ (by simp) ?_ (fun i _ _=>congrFun e i) ?_ (by omega) ?_
 ·intro j oj hj hl
  have this:(Array.replicate ops.size false).getD j false=false:=congrFun e j
  rw[this]at hl;cases hl
 ·have hall: ∀i,(!(Array.replicate ops.size false).getD i false)=true:=fun i=>by
   have this:(Array.replicate ops.size false).getD i false=false:=congrFun e i
   rw[this];rfl
  rw[List.filter_eq_self.2 (fun i _=>hall i)];simp
 ·rw[e]
  exact(hr.drew _).sub h0
end Go.Proofs.Ytngghkoghbpceaa
