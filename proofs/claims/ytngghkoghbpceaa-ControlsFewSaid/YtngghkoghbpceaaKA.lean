/-
  The abstract view of the machine: data, states, operations.
  Conditions: none; nothing here speaks of one program.
-/
import Derived.WalkKit
import Derived.WalkSpells
import Derived.WalkLawsBesides
import Derived.RegionTactic
import Derived.BigRegion
import Derived.ChangeAlike
import Derived.Lib.Hide
import Derived.Deep.QuietTactic
import Derived.BigQuiet
import Derived.Deep.DeepMust
import Derived.Deep.LoopGhost
import Derived.Handy
import Derived.Deep.AppendLies
import Derived.Deep.RegionLaw
import Derived.Deep.RegionHeld3
import Derived.RangeFuncRecord
import Derived.RangeFuncLeaves
import Derived.Laws.StructEq
namespace Go.Proofs.Ytngghkoghbpceaa
open Go.RowKit
set_option linter.unusedVariables false
theorem cell_lt{w:World}{b o:Nat}{v:Value}(h:w.cell? ⟨b,o,none⟩=some v):b<w.heap.size:=
 World.block_lt_of_cell? w ⟨b,o,none⟩ h
def Cells(w:World)(a:Option Addr)(xs:List Value):Prop:=
 xs≠ []→ ∃b off,a=some ⟨b,off,none⟩∧ ∀i v,xs[i]? =some v→w.cell? ⟨b,off+i,none⟩=some v
theorem Cells.nil(w:World)(a:Option Addr):Cells w a []:=fun h=>absurd rfl h
theorem Cells.get{w:World}{α:Type}{a:Option Addr}{l:List α}{f:α→Value}(h:Cells w a (l.map f)){k:Nat}(hk:k<l.length):
  ∃b off x,a=some ⟨b,off,none⟩∧l[k]? =some x∧x∈l∧w.cell? ⟨b,off+k,none⟩=some (f x)∧b<w.heap.size:=by
 obtain⟨b,off,ha,hc⟩:=h (by intro e;have:=congrArg List.length e;simp at this;subst this;simp at hk)
 have hx:(l.map f)[k]? =some (f l[k]):=by simp[hk]
 exact⟨b,off,l[k],ha,by simp[hk],List.getElem_mem hk,hc k _ hx,cell_lt (hc k _ hx)⟩
theorem own_view{w:World}{base:Nat}{e:TypeId}{v:Value}{n:Nat}{xs:List Value}(h:w.ownsRow base e 1 v n xs):
  ∃a cap,v= .slice a n cap∧Cells w a xs∧n=xs.length∧n≤cap:=by
 have hl:=h.1
 simp only[Nat.mul_one]at hl
 rcases h.2 with⟨rfl,rfl⟩|⟨g,cap,cur,rfl,hb,hg,hn,hm,hs,ht⟩
 ·have:xs= []:=List.eq_nil_of_length_eq_zero hl
  subst this
  exact⟨none,0,rfl,Cells.nil _ _,rfl,Nat.le_refl _⟩
 ·refine⟨some ⟨g,0,none⟩,cap,rfl,fun _=>⟨g,0,rfl,fun i u hu=> ?_⟩,hl.symm,hn⟩
  have:=h.cells (g:=g) rfl i u hu
  unfold Addr.add at this
  split at this<;>simp_all
theorem own_base{w:World}{base base':Nat}{e:TypeId}{size:Nat}{v:Value}{n:Nat}{xs:List Value}(h:w.ownsRow base e size v n xs)(hb:base'≤base):w.ownsRow base' e size v n xs:=by
 obtain⟨h1,h2⟩:=h
 refine⟨h1,?_⟩
 rcases h2 with h2|⟨g,cap,cur,hv,hg,r⟩
 ·exact .inl h2
 ·exact .inr ⟨g,cap,cur,hv,Nat.le_trans hb hg,r⟩
section
variable {P:Program} {w:World} {ops:Array Oper} {rest:List Oper} {o:Oper} {a:Act} {Q:Exit→Act→World→Prop} {t e:TypeId} {z:Value} {bytes:Nat}
end
theorem kc{W w1:World}(hb:Below W.heap.size W w1){b o:Nat}{v:Value}(h:W.cell? ⟨b,o,none⟩=some v):w1.cell? ⟨b,o,none⟩=some v:=by
 rw[hb.cell (p:=⟨b,o,none⟩) (cell_lt h)];exact h
theorem foldl_push_nums(l:List Int): ∀s:ByteArray,l.foldl (fun r n=>r.push (UInt8.ofNat n.toNat)) s=⟨s.data++(l.map fun n=>UInt8.ofNat n.toNat).toArray⟩:=by
 induction l with
 |nil=>intro s;simp
 |cons x l ih=>intro s;rw[List.foldl_cons,ih];simp[ByteArray.push]
theorem run_str{P:Program}{w:World}{src dst e:TypeId}{a:Option Addr}{n cap:Nat}{l:List Int}(hs:P.underlying src=some (.slice e))(he:P.underlying e=some (.int .u8))(hd:P.underlying dst=some .string)
  (hc:Cells w a (l.map (.int .u8)))(hn:n=l.length)(h0:a=none→cap=0):(convert src dst (.slice a n cap)).run P w= .ok (.string (strOfNums l)) w:=by
 subst hn
 rw[run_convert_bytes_string w src dst e a _ cap hs he hd]
 cases a with
 |none=>
  have hl:l= []:=by
   cases l with
   |nil=>rfl
   |cons x l=>obtain⟨b,off,h,_⟩:=hc (by simp);cases h
  subst hl
  rw[h0 rfl]
  simp[Conv.bytesToString,Sem.run_pure,strOfNums]
  rfl
 |some ad=>
  have hl:=run_loadCells_list (P:=P) w ad (l.map (Value.int .u8)) (fun j v hj=>by
   obtain⟨b,off,h,hcc⟩:=hc (by intro e;rw[e]at hj;simp at hj)
   cases h
   have:=hcc j v hj
   unfold Addr.add;split
   ·rename_i h0;subst h0;exact this
   ·exact this)
  simp only[List.length_map]at hl
  rw[run_bytesToString w ad l.length cap l hl,foldl_push_nums]
  have he0:ByteArray.empty.data= #[]:=rfl
  rw[he0]
  simp[strOfNums]
theorem kb{W w1:World}{o:Obj}{k:Nat}(hb:Below W.heap.size W w1)(h:W.heap[k]? =some o):w1.heap[k]? =some o:=by
 rw[hb.block k (Array.getElem?_eq_some_iff.1 h).1];exact h
structure Fr (S:Nat→Prop) (w w':World):Prop where
 os:w'.os=w.os
 tape:w'.tape=w.tape
 output:w'.output=w.output
 size:w.heap.size≤w'.heap.size
 block: ∀k,k<w.heap.size→ ¬S k→w'.heap[k]? =w.heap[k]?
theorem Fr.refl(S:Nat→Prop)(w:World):Fr S w w:=⟨rfl,rfl,rfl,Nat.le_refl _,fun _ _ _=>rfl⟩
theorem Fr.trans{S:Nat→Prop}{a b c:World}(h:Fr S a b)(k:Fr S b c):Fr S a c:=
 ⟨k.os.trans h.os,k.tape.trans h.tape,k.output.trans h.output,Nat.le_trans h.size k.size,fun i hi hn=>(k.block i (Nat.lt_of_lt_of_le hi h.size) hn).trans (h.block i hi hn)⟩
theorem Fr.mono{S S':Nat→Prop}{a b:World}(h:Fr S a b)(hs: ∀k,k<a.heap.size→S k→S' k):Fr S' a b:=
 ⟨h.os,h.tape,h.output,h.size,fun k hk hn=>h.block k hk (fun hS=>hn (hs k hk hS))⟩
theorem Fr.ofBelow{S:Nat→Prop}{a b:World}(h:Below a.heap.size a b):Fr S a b:=⟨h.os,h.tape,h.output,h.size,fun k hk _=>h.block k hk⟩
theorem Fr.ofGrown{S:Nat→Prop}{a b:World}{row:Option Nat}(h:a.grownBy b row)(hs: ∀k,row=some k→S k):Fr S a b:=
 ⟨h.os,h.tape,h.output,h.size,fun k hk hn=>h.block k hk (fun e=>hn (hs k e.symm))⟩
theorem Fr.alloc(S:Nat→Prop)(w:World)(o:Obj):Fr S w (w.alloc o):=Fr.ofBelow ((Below.refl _ w).alloc (Nat.le_refl _) o)
theorem Fr.kb{S:Nat→Prop}{a b:World}(h:Fr S a b){k:Nat}{o:Obj}(hk:a.heap[k]? =some o)(hn: ¬S k):b.heap[k]? =some o:=by
 rw[h.block k (Array.getElem?_eq_some_iff.1 hk).1 hn];exact hk
def RowIs(k:IntKind)(w:World)(v:Value)(l:List Int):Prop:=
 ∃a cap,v= .slice a l.length cap∧l.length≤cap∧cap≤maxLen∧(a=none→cap=0)∧Cells w a (l.map (.int k))
def Rows(k:IntKind)(w:World):List Value→List (List Int)→Prop
 | [],[]=>True
 |v::vs,l::ll=>RowIs k w v l∧Rows k w vs ll
 |_,_=>False
theorem Rows.length{k:IntKind}{w:World}: ∀ {vs:List Value} {ll:List (List Int)},Rows k w vs ll→vs.length=ll.length
 | [],[],_=>rfl
 |_::_,_::_,h=>by simp[Rows.length h.2]
theorem Rows.get{k:IntKind}{w:World}: ∀ {vs:List Value} {ll:List (List Int)},Rows k w vs ll→ ∀ {i:Nat} {v:Value},vs[i]? =some v→ ∃l,ll[i]? =some l∧RowIs k w v l
 |v::vs,l::ll,h,0,u,hu=>by simp at hu;subst hu;exact⟨l,by simp,h.1⟩
 |v::vs,l::ll,h,i+1,u,hu=>by
  obtain⟨m,h1,h2⟩:=Rows.get h.2 (i:=i) (by simpa using hu)
  exact⟨m,by simpa using h1,h2⟩
 | [],[],_,i,u,hu=>by simp at hu
theorem Rows.append{k:IntKind}{w:World}: ∀ {vs:List Value} {ll:List (List Int)} {vs':List Value} {ll':List (List Int)},Rows k w vs ll→Rows k w vs' ll'→Rows k w (vs++vs') (ll++ll')
 | [],[],_,_,_,h'=>h'
 |_::_,_::_,_,_,h,h'=>⟨h.1,Rows.append h.2 h'⟩
theorem Rows.take{k:IntKind}{w:World}: ∀ {vs:List Value} {ll:List (List Int)},Rows k w vs ll→ ∀n,Rows k w (vs.take n) (ll.take n)
 | [],[],_,n=>by simp[Rows]
 |_::_,_::_,h,0=>by simp[Rows]
 |_::_,_::_,h,n+1=>⟨h.1,Rows.take h.2 n⟩
theorem Rows.drop{k:IntKind}{w:World}: ∀ {vs:List Value} {ll:List (List Int)},Rows k w vs ll→ ∀n,Rows k w (vs.drop n) (ll.drop n)
 | [],[],_,n=>by simp[Rows]
 |_::_,_::_,h,0=>h
 |_::_,_::_,h,n+1=>Rows.drop h.2 n
theorem Rows.one{k:IntKind}{w:World}{v:Value}{l:List Int}(h:RowIs k w v l):Rows k w [v] [l]:=⟨h,trivial⟩
theorem RowIs.oneCell{k:IntKind}{w:World}{v:Value}{l:List Int}(h:RowIs k w v l):v.oneCell'=true:=by
 obtain⟨a,cap,rfl,_⟩:=h;rfl
theorem Rows.oneCell{k:IntKind}{w:World}: ∀ {vs:List Value} {ll:List (List Int)},Rows k w vs ll→ ∀v∈vs,v.oneCell'=true
 | [],[],_,v,hv=>by simp at hv
 |u::vs,l::ll,h,v,hv=>by
  rcases List.mem_cons.1 hv with rfl|hv
  ·exact h.1.oneCell
  ·exact Rows.oneCell h.2 v hv
def OwnRows(k:IntKind)(e:TypeId)(base:Nat)(w:World):List Value→List (List Int)→Prop
 | [],[]=>True
 |v::vs,l::ll=>w.ownsRow base e 1 v l.length (l.map (.int k))∧OwnRows k e base w vs ll
 |_,_=>False
theorem own_row{k:IntKind}{e:TypeId}{base:Nat}{w:World}{v:Value}{l:List Int}(h:w.ownsRow base e 1 v l.length (l.map (.int k))):RowIs k w v l:=by
 obtain⟨a,cap,rfl,hc,_,hn⟩:=own_view h
 refine⟨a,cap,rfl,hn,?_,?_,hc⟩
 ·rcases h.2 with⟨h',_⟩|⟨g,cap',cur,h',_,_,_,hm,_⟩
  ·simp only[Value.slice.injEq]at h';rw[h'.2.2];exact Nat.zero_le _
  ·simp only[Value.slice.injEq]at h';rw[h'.2.2];exact hm
 ·intro ha
  rcases h.2 with⟨h',_⟩|⟨g,cap',cur,h',_⟩
  ·simp only[Value.slice.injEq]at h';exact h'.2.2
  ·simp only[Value.slice.injEq]at h';rw[ha]at h';simp at h'
theorem OwnRows.rows{k:IntKind}{e:TypeId}{base:Nat}{w:World}: ∀ {vs:List Value} {ll:List (List Int)},OwnRows k e base w vs ll→Rows k w vs ll
 | [],[],_=>trivial
 |_::_,_::_,h=>⟨own_row h.1,OwnRows.rows h.2⟩
theorem OwnRows.base{k:IntKind}{e:TypeId}{base base':Nat}{w:World}(hb:base'≤base): ∀ {vs:List Value} {ll:List (List Int)},OwnRows k e base w vs ll→OwnRows k e base' w vs ll
 | [],[],_=>trivial
 |_::_,_::_,h=>⟨own_base h.1 hb,OwnRows.base hb h.2⟩
theorem OwnRows.kept{k:IntKind}{e:TypeId}{base:Nat}{w w':World}{row:Option Nat}(hg:w.grownBy w' row): ∀ {vs:List Value} {ll:List (List Int)},OwnRows k e base w vs ll→(∀v∈vs,∀g,v.ownBlock=some g→some g≠row)→OwnRows k e base w' vs ll
 | [],[],_,_=>trivial
 |v::_,_::_,h,hne=>⟨h.1.kept hg (by
   cases hv:v.ownBlock with
   |none=>exact .inl rfl
   |some g=>exact .inr (hne v (by simp) g hv)),OwnRows.kept hg h.2 (fun u hu=>hne u (by simp[hu]))⟩
theorem OwnRows.append{k:IntKind}{e:TypeId}{base:Nat}{w:World}: ∀ {vs:List Value} {ll:List (List Int)} {vs':List Value} {ll':List (List Int)},OwnRows k e base w vs ll→OwnRows k e base w vs' ll'→OwnRows k e base w (vs++vs') (ll++ll')
 | [],[],_,_,_,h'=>h'
 |_::_,_::_,_,_,h,h'=>⟨h.1,OwnRows.append h.2 h'⟩
theorem OwnRows.lt{k:IntKind}{e:TypeId}{base:Nat}{w:World}: ∀ {vs:List Value} {ll:List (List Int)},OwnRows k e base w vs ll→ ∀v∈vs,∀g,v.ownBlock=some g→base≤g∧g<w.heap.size
 | [],[],_,v,hv=>by simp at hv
 |u::vs,l::ll,h,v,hv=>by
  rcases List.mem_cons.1 hv with rfl|hv
  ·exact h.1.lt
  ·exact OwnRows.lt h.2 v hv
theorem own_sep{w:World}{b b':Nat}{e e':TypeId}{s s':Nat}{v v':Value}{n n':Nat}{xs xs':List Value}(h:w.ownsRow b e s v n xs)(h':w.ownsRow b' e' s' v' n' xs')(hne:e≠e'): ∀g,v.ownBlock=some g→some g≠v'.ownBlock:=by
 intro g hg hg'
 rcases h.2 with⟨rfl,_⟩|⟨g1,_,_,rfl,_,h1,_⟩
 ·simp[Value.ownBlock]at hg
 ·simp only[Value.ownBlock,Option.some.injEq]at hg
  subst hg
  rcases h'.2 with⟨rfl,_⟩|⟨g2,_,_,rfl,_,h2,_⟩
  ·simp[Value.ownBlock]at hg'
  ·simp only[Value.ownBlock,Option.some.injEq]at hg'
   subst hg'
   rw[h1]at h2
   simp at h2
   exact hne h2.2
theorem OwnRows.sep{k:IntKind}{e e':TypeId}{base b':Nat}{w:World}{s' n':Nat}{v':Value}{xs':List Value}(h':w.ownsRow b' e' s' v' n' xs')(hne:e≠e'): ∀ {vs:List Value} {ll:List (List Int)},OwnRows k e base w vs ll→ ∀v∈vs,∀g,v.ownBlock=some g→some g≠v'.ownBlock
 | [],[],_,v,hv=>by simp at hv
 |u::vs,l::ll,h,v,hv=>by
  rcases List.mem_cons.1 hv with rfl|hv
  ·exact own_sep h.1 h' hne
  ·exact OwnRows.sep h' hne h.2 v hv
section
variable {P:Program} {w:World} {ops:Array Oper} {rest:List Oper} {o:Oper} {a:Act} {Q:Exit→Act→World→Prop} {t e:TypeId} {z:Value} {bytes:Nat}
end
theorem or_map{a b c:Prop}(f:a→b)(h:a∨c):b∨c:=by
 rcases h with h|h
 ·exact .inl (f h)
 ·exact .inr h
theorem or_map2{a b c:Prop}(f:a→b)(h:c∨a):c∨b:=by
 rcases h with h|h
 ·exact .inl h
 ·exact .inr (f h)
def ins{α:Type}(k:Nat)(v:α):List (Nat×α)→List (Nat×α)
 | []=> [(k,v)]
 |(k',v')::l=>if k=k' then(k,v)::l else if k<k' then(k,v)::(k',v')::l else(k',v')::ins k v l
def gt{α:Type}(k:Nat):List (Nat×α)→Option α
 | []=>none
 |(k',v)::l=>if k=k' then some v else gt k l
def del{α:Type}(k:Nat):List (Nat×α)→List (Nat×α)
 | []=> []
 |(k',v)::l=>if k=k' then del k l else(k',v)::del k l
def mapv{α:Type}(f:α→α):List (Nat×α)→List (Nat×α)
 | []=> []
 |(k,v)::l=>(k,f v)::mapv f l
theorem gt_ins_same{α:Type}(k:Nat)(v:α): ∀l,gt k (ins k v l)=some v
 | []=>by simp[ins,gt]
 |(k',v')::l=>by
  unfold ins
  split
  ·simp[gt]
  ·split
   ·simp[gt]
   ·rename_i h _;simp[gt,h,gt_ins_same k v l]
theorem gt_ins_ne{α:Type}{k j:Nat}(v:α)(h:j≠k): ∀l,gt j (ins k v l)=gt j l
 | []=>by simp[ins,gt,h]
 |(k',v')::l=>by
  unfold ins
  split
  ·rename_i e;subst e;simp[gt,h]
  ·split
   ·simp[gt,h]
   ·simp[gt,gt_ins_ne v h l]
theorem gt_ins{α:Type}(k j:Nat)(v:α)(l:List (Nat×α)):gt j (ins k v l)=if j=k then some v else gt j l:=by
 split
 ·rename_i h;subst h;exact gt_ins_same _ _ _
 ·rename_i h;exact gt_ins_ne _ h _
theorem gt_del_same{α:Type}(k:Nat): ∀l:List (Nat×α),gt k (del k l)=none
 | []=>rfl
 |(k',v')::l=>by
  unfold del
  split
  ·exact gt_del_same k l
  ·rename_i h;simp[gt,h,gt_del_same k l]
theorem gt_del_ne{α:Type}{k j:Nat}(h:j≠k): ∀l:List (Nat×α),gt j (del k l)=gt j l
 | []=>rfl
 |(k',v')::l=>by
  unfold del
  split
  ·rename_i e;subst e;simp[gt,h,gt_del_ne h l]
  ·simp[gt,gt_del_ne h l]
theorem gt_del{α:Type}(k j:Nat)(l:List (Nat×α)):gt j (del k l)=if j=k then none else gt j l:=by
 split
 ·rename_i h;subst h;exact gt_del_same _ _
 ·rename_i h;exact gt_del_ne h _
theorem gt_mapv{α:Type}(f:α→α)(k:Nat): ∀l:List (Nat×α),gt k (mapv f l)=(gt k l).map f
 | []=>rfl
 |(k',v')::l=>by
  unfold mapv gt
  split
  ·rfl
  ·exact gt_mapv f k l
inductive D where
 |v (x:Value)
 |ints (k:IntKind) (xs:List Int) (c:Option Nat)
 |sl (n:Nat) (xs:List D) (c:Option Nat)
 |agg (cs:List D)
 deriving Inhabited
mutual
def RepD(w:World)(F:Nat→Prop):D→Value→Prop
 | .v x,u=>u=x∧x.oneCell'=true
 | .ints k xs c,u=> ∃a cap,u= .slice a xs.length cap∧xs.length≤cap∧cap≤maxLen∧(a=none→cap=0)∧(∀n,c=some n→cap=n)∧
   (xs≠ []→ ∃b off,a=some ⟨b,off,none⟩∧ ¬F b∧ ∀(i:Nat) x,xs[i]? =some x→w.cell? ⟨b,off+i,none⟩=some (.int k x))
 | .sl n xs c,u=> ∃a cap vals,u= .slice a xs.length cap∧xs.length≤cap∧cap≤maxLen∧(a=none→cap=0)∧(∀n,c=some n→cap=n)∧RepRow w F (fun v=>v.cells.size=n) xs vals∧
   (vals≠ []→ ∃b off,a=some ⟨b,off,none⟩∧ ¬F b∧ ∀(i:Nat) x,vals[i]? =some x→w.cell? ⟨b,off+i,none⟩=some x)
 | .agg cs,u=> ∃us:List Value,u= .agg us.toArray∧RepRow w F (fun v=>v.oneCell'=true) cs us
termination_by structural d=>d
def RepRow(w:World)(F:Nat→Prop)(c:Value→Prop):List D→List Value→Prop
 | [],vals=>vals= []
 |d::ds,vals=> ∃v rest,vals=v.cells.toList++rest∧c v∧RepD w F d v∧RepRow w F c ds rest
termination_by structural ds=>ds
end
theorem cell_step{w w':World}{b o:Nat}{v:Value}(hb:w'.heap[b]? =w.heap[b]?)(h:w.cell? ⟨b,o,none⟩=some v):w'.cell? ⟨b,o,none⟩=some v:=
 (World.cell?_of_block (a:=⟨b,o,none⟩) hb).trans h
def Kept(w:World)(F:Nat→Prop)(w':World)(F':Nat→Prop):Prop:= ∀b,b<w.heap.size→ ¬F b→ ¬F' b∧w'.heap[b]? =w.heap[b]?
mutual
theorem RepD.kept{w w':World}{F F':Nat→Prop}(hk:Kept w F w' F'): ∀(d:D) (u:Value),RepD w F d u→RepD w' F' d u
 | .v x,u,h=>h
 | .ints k xs c,u,h=>by
  simp only[RepD]at h ⊢
  obtain⟨a,cap,h1,h2,h3,h4,h4c,h5⟩:=h
  refine⟨a,cap,h1,h2,h3,h4,h4c,fun hne=> ?_⟩
  obtain⟨b,off,ha,hF,hc⟩:=h5 hne
  have hb:b<w.heap.size:=by
   cases xs with
   |nil=>exact absurd rfl hne
   |cons x l=>exact cell_lt (hc 0 x (by simp))
  exact⟨b,off,ha,(hk b hb hF).1,fun i x hx=>cell_step (hk b hb hF).2 (hc i x hx)⟩
 | .sl n xs c,u,h=>by
  simp only[RepD]at h ⊢
  obtain⟨a,cap,vals,h1,h2,h3,h4,h4c,hr,h5⟩:=h
  refine⟨a,cap,vals,h1,h2,h3,h4,h4c,RepRow.kept hk xs vals hr,fun hne=> ?_⟩
  obtain⟨b,off,ha,hF,hc⟩:=h5 hne
  have hb:b<w.heap.size:=by
   cases vals with
   |nil=>exact absurd rfl hne
   |cons x l=>exact cell_lt (hc 0 x (by simp))
  exact⟨b,off,ha,(hk b hb hF).1,fun i x hx=>cell_step (hk b hb hF).2 (hc i x hx)⟩
 | .agg cs,u,h=>by
  simp only[RepD]at h ⊢
  obtain⟨us,h1,h2⟩:=h
  exact⟨us,h1,RepRow.kept hk cs us h2⟩
theorem RepRow.kept{w w':World}{F F':Nat→Prop}{c:Value→Prop}(hk:Kept w F w' F'): ∀(ds:List D) (vals:List Value),RepRow w F c ds vals→RepRow w' F' c ds vals
 | [],vals,h=>by simpa only[RepRow]using h
 |d::ds,vals,h=>by
  simp only[RepRow]at h ⊢
  obtain⟨v,rest,h1,h2,h3,h4⟩:=h
  exact⟨v,rest,h1,h2,RepD.kept hk d v h3,RepRow.kept hk ds rest h4⟩
end
theorem rangeN1:List.range 1= [0]:=rfl
theorem rangeN2:List.range 2= [0,1]:=rfl
theorem rangeN3:List.range 3= [0,1,2]:=rfl
inductive Wr where
 |ifc (t:TypeId)
 |mth (name:String)
 |sl (n:Nat)
 |at_ (i:Nat)
 deriving Inhabited
def Wr.val:Wr→Value→Value
 | .ifc t,u=> .iface t u
 | .mth n,u=> .func (.method n) #[u] #[]
 | .sl n,.pointer (some a)=> .slice (some ⟨a.block,a.spot.getD 0,none⟩) n a.off
 | .sl _,_=> .slice none 0 0
 | .at_ i,.pointer (some a)=> .pointer (some ⟨a.block,a.spot.getD 0+i,none⟩)
 | .at_ _,_=> .pointer none
theorem Wr.one(k:Wr)(u:Value):(k.val u).oneCell'=true:=by
 cases k with
 |ifc t=>rfl
 |mth n=>rfl
 |sl n=>cases u with
  |pointer a=>cases a<;>rfl
  |_=>rfl
 |at_ n=>cases u with
  |pointer a=>cases a<;>rfl
  |_=>rfl
inductive AV where
 |d (x:D)
 |ptr (κ:Nat) (off:Nat)
 |own (κ:Nat)
 |pel (κ:Nat) (off:Nat)
 |eaddr (x:D)
 |agg (cs:List AV)
 |tup (vs:List AV)
 |clos (f:FuncId) (caps:List AV)
 |wrap (k:Wr) (v:AV)
 |bot
 deriving Inhabited
inductive Blk where
 |box (e:TypeId) (cs:List AV)
 |ints (e:TypeId) (k:IntKind) (xs:List Int) (c:Option Nat)
 |row (e:TypeId) (n:Nat) (xs:List D) (c:Option Nat)
 |map (kvs:List AV)
 |vrow (e:TypeId) (xs:List AV)
 deriving Inhabited
def kvsOf(es:Array MapEntry):List Value:=es.toList.flatMap fun x=> [x.key,x.val]
def blkOf:Value→Option Nat
 | .slice (some a) _ cap=>if cap=0 then none else some a.block
 | .pointer (some a)=>some a.block
 | .map (some b)=>some b
 |_=>none
def OwnRow(w:World)(e:TypeId)(size:Nat)(v:Value)(n:Nat)(vals:List Value):Prop:=
 vals.length=n*size∧
 ((n=0∧ ∃a,v= .slice a 0 0)∨
  ∃g o cap cur,v= .slice (some ⟨g,o,none⟩) n cap∧0<cap∧w.heap[g]? =some (.cells cur e (0,0))∧n≤cap∧cap≤maxLen∧o+cap*size≤cur.size∧(cur.toList.drop o).take (n*size)=vals)
theorem OwnRow.lt{w:World}{e:TypeId}{size:Nat}{v:Value}{n:Nat}{vals:List Value}(h:OwnRow w e size v n vals){b:Nat}(hb:blkOf v=some b):b<w.heap.size:=by
 rcases h.2 with⟨_,a,rfl⟩|⟨g,o,cap,cur,rfl,h0,h2,_⟩
 ·cases a<;>simp[blkOf]at hb
 ·have:cap≠0:=by omega
  simp[blkOf,this]at hb;subst hb;exact(Array.getElem?_eq_some_iff.1 h2).1
theorem OwnRow.kept{w w':World}{e:TypeId}{size:Nat}{v:Value}{n:Nat}{xs:List Value}(h:OwnRow w e size v n xs)(hb: ∀b,blkOf v=some b→b<w.heap.size→w'.heap[b]? =w.heap[b]?):OwnRow w' e size v n xs:=by
 refine⟨h.1,?_⟩
 rcases h.2 with h2|⟨g,o,cap,cur,hv,h0,hh,r⟩
 ·exact .inl h2
 ·have hc:cap≠0:=by omega
  have hv':blkOf v=some g:=by rw[hv];simp[blkOf,hc]
  exact .inr ⟨g,o,cap,cur,hv,h0,by rw[hb g hv' (Array.getElem?_eq_some_iff.1 hh).1];exact hh,r⟩
theorem OwnRow.oneCell{w:World}{e:TypeId}{size:Nat}{v:Value}{n:Nat}{xs:List Value}(h:OwnRow w e size v n xs):v.oneCell'=true:=by
 rcases h.2 with⟨_,a,rfl⟩|⟨g,o,cap,cur,rfl,_⟩<;>rfl
theorem OwnRow.cells{w:World}{e:TypeId}{size:Nat}{v:Value}{n:Nat}{xs:List Value}(h:OwnRow w e size v n xs):
  ∃a cap,v= .slice a n cap∧n≤cap∧cap≤maxLen∧(a=none→cap=0)∧(xs≠ []→ ∃b o,a=some ⟨b,o,none⟩∧blkOf v=some b∧w.heap[b]?.isSome=true∧ ∀(i:Nat) x,xs[i]? =some x→w.cell? ⟨b,o+i,none⟩=some x):=by
 have hl:=h.1
 rcases h.2 with⟨rfl,a,rfl⟩|⟨g,o,cap,cur,rfl,h0,hg,hn,hm,hs,ht⟩
 ·refine⟨a,0,rfl,Nat.le_refl _,Nat.zero_le _,fun _=>rfl,fun hx=> ?_⟩
  have:xs= []:=List.eq_nil_of_length_eq_zero (by omega)
  exact absurd this hx
 ·have hc:cap≠0:=by omega
  refine⟨some ⟨g,o,none⟩,cap,rfl,hn,hm,by simp,fun _=>⟨g,o,rfl,by simp[blkOf,hc],by simp[hg],fun i u hu=> ?_⟩⟩
  rw[cell_of_row w g (o+i) cur e (0,0) hg]
  rw[←ht,List.getElem?_take]at hu
  split at hu
  ·rw[List.getElem?_drop]at hu;simpa using hu
  ·cases hu
mutual
def RepV(w:World)(F:Nat→Prop)(m:Nat→Value):AV→Value→Prop
 | .d x,u=>RepD w F x u
 | .ptr κ off,u=> ∃b,m κ= .pointer (some ⟨b,0,none⟩)∧u= .pointer (some ⟨b,off,none⟩)
 | .own κ,u=>u=m κ∧u.oneCell'=true
 | .pel κ off,u=> ∃b o n cap,m κ= .slice (some ⟨b,o,none⟩) n cap∧u= .pointer (some ⟨b,o+off,none⟩)
 | .eaddr x,u=> ∃b off v,u= .pointer (some ⟨b,off,none⟩)∧ ¬F b∧RepD w F x v∧b<w.heap.size∧ ∀(i:Nat) c,v.cells[i]? =some c→w.cell? ⟨b,off+i,none⟩=some c
 | .agg cs,u=> ∃us:List Value,u= .agg us.toArray∧RepVs w F m cs us∧ ∀v∈us,v.oneCell'=true
 | .tup vs,u=> ∃us:List Value,u= .tuple us.toArray∧RepVs w F m vs us
 | .clos f caps,u=> ∃us:List Value,u= .func (.func f) #[] us.toArray∧RepVs w F m caps us
 | .wrap k v,u=> ∃u0,u=k.val u0∧RepV w F m v u0
 | .bot,_=>True
termination_by structural v=>v
def RepVs(w:World)(F:Nat→Prop)(m:Nat→Value):List AV→List Value→Prop
 | [],us=>us= []
 |v::vs,us=> ∃u rest,us=u::rest∧RepV w F m v u∧RepVs w F m vs rest
termination_by structural vs=>vs
end
mutual
def killV(κ:Nat):AV→AV
 | .d x=> .d x
 | .ptr κ' off=>if κ'=κ then .bot else .ptr κ' off
 | .own κ'=>if κ'=κ then .bot else .own κ'
 | .pel κ' off=>if κ'=κ then .bot else .pel κ' off
 | .eaddr x=> .eaddr x
 | .agg cs=> .agg (killVs κ cs)
 | .tup vs=> .tup (killVs κ vs)
 | .clos f caps=> .clos f (killVs κ caps)
 | .wrap k v=> .wrap k (killV κ v)
 | .bot=> .bot
termination_by structural v=>v
def killVs(κ:Nat):List AV→List AV
 | []=> []
 |v::vs=>killV κ v::killVs κ vs
termination_by structural vs=>vs
end
mutual
theorem RepV.kept{w w':World}{F F':Nat→Prop}{m:Nat→Value}(hk:Kept w F w' F')(hs:w.heap.size≤w'.heap.size): ∀(v:AV) (u:Value),RepV w F m v u→RepV w' F' m v u
 | .d x,u,h=>by simp only[RepV]at h ⊢;exact RepD.kept hk x u h
 | .ptr κ off,u,h=>by simpa only[RepV]using h
 | .own κ,u,h=>by simpa only[RepV]using h
 | .pel κ off,u,h=>by simpa only[RepV]using h
 | .eaddr x,u,h=>by
  simp only[RepV]at h ⊢
  obtain⟨b,off,v,h1,h2,h3,h4,h5⟩:=h
  exact⟨b,off,v,h1,(hk b h4 h2).1,RepD.kept hk x v h3,by omega,fun i c hc=>cell_step (hk b h4 h2).2 (h5 i c hc)⟩
 | .agg cs,u,h=>by
  simp only[RepV]at h ⊢
  obtain⟨us,h1,h2,h3⟩:=h
  exact⟨us,h1,RepVs.kept hk hs cs us h2,h3⟩
 | .tup vs,u,h=>by
  simp only[RepV]at h ⊢
  obtain⟨us,h1,h2⟩:=h
  exact⟨us,h1,RepVs.kept hk hs vs us h2⟩
 | .clos f caps,u,h=>by
  simp only[RepV]at h ⊢
  obtain⟨us,h1,h2⟩:=h
  exact⟨us,h1,RepVs.kept hk hs caps us h2⟩
 | .wrap k v,u,h=>by
  simp only[RepV]at h ⊢
  obtain⟨u0,h1,h2⟩:=h
  exact⟨u0,h1,RepV.kept hk hs v u0 h2⟩
 | .bot,u,h=>by simp only[RepV]
theorem RepVs.kept{w w':World}{F F':Nat→Prop}{m:Nat→Value}(hk:Kept w F w' F')(hs:w.heap.size≤w'.heap.size): ∀(vs:List AV) (us:List Value),RepVs w F m vs us→RepVs w' F' m vs us
 | [],us,h=>by simpa only[RepVs]using h
 |v::vs,us,h=>by
  simp only[RepVs]at h ⊢
  obtain⟨u,rest,h1,h2,h3⟩:=h
  exact⟨u,rest,h1,RepV.kept hk hs v u h2,RepVs.kept hk hs vs rest h3⟩
end
mutual
theorem RepV.kill{w:World}{F:Nat→Prop}{m m':Nat→Value}{κ:Nat}(hm: ∀j,j≠κ→m' j=m j): ∀(v:AV) (u:Value),RepV w F m v u→RepV w F m' (killV κ v) u
 | .d x,u,h=>by simpa only[killV,RepV]using h
 | .ptr κ' off,u,h=>by
  simp only[killV];split
  ·simp only[RepV]
  ·rename_i hne;simpa only[RepV,hm κ' hne]using h
 | .own κ',u,h=>by
  simp only[killV];split
  ·simp only[RepV]
  ·rename_i hne;simpa only[RepV,hm κ' hne]using h
 | .pel κ' off,u,h=>by
  simp only[killV];split
  ·simp only[RepV]
  ·rename_i hne;simpa only[RepV,hm κ' hne]using h
 | .eaddr x,u,h=>by simpa only[killV,RepV]using h
 | .agg cs,u,h=>by
  simp only[killV,RepV]at h ⊢
  obtain⟨us,h1,h2,h3⟩:=h
  exact⟨us,h1,RepVs.kill hm cs us h2,h3⟩
 | .tup vs,u,h=>by
  simp only[killV,RepV]at h ⊢
  obtain⟨us,h1,h2⟩:=h
  exact⟨us,h1,RepVs.kill hm vs us h2⟩
 | .clos f caps,u,h=>by
  simp only[killV,RepV]at h ⊢
  obtain⟨us,h1,h2⟩:=h
  exact⟨us,h1,RepVs.kill hm caps us h2⟩
 | .wrap k v,u,h=>by
  simp only[killV,RepV]at h ⊢
  obtain⟨u0,h1,h2⟩:=h
  exact⟨u0,h1,RepV.kill hm v u0 h2⟩
 | .bot,u,h=>by simp only[killV,RepV]
theorem RepVs.kill{w:World}{F:Nat→Prop}{m m':Nat→Value}{κ:Nat}(hm: ∀j,j≠κ→m' j=m j): ∀(vs:List AV) (us:List Value),RepVs w F m vs us→RepVs w F m' (killVs κ vs) us
 | [],us,h=>by simpa only[killVs,RepVs]using h
 |v::vs,us,h=>by
  simp only[killVs,RepVs]at h ⊢
  obtain⟨u,rest,h1,h2,h3⟩:=h
  exact⟨u,rest,h1,RepV.kill hm v u h2,RepVs.kill hm vs rest h3⟩
end
def killB(κ:Nat):Blk→Blk
 | .box e cs=> .box e (killVs κ cs)
 | .map kvs=> .map (killVs κ kvs)
 | .vrow e xs=> .vrow e (killVs κ xs)
 |b=>b
def CapIs(c:Option Nat)(u:Value):Prop:= ∀n,c=some n→ ∃a l,u= .slice a l n
def VRow(w:World)(e:TypeId)(v:Value)(vals:List Value):Prop:= ∃b o cap,v= .pointer (some ⟨b,cap,some o⟩)∧0<cap∧OwnRow w e 1 (.slice (some ⟨b,o,none⟩) vals.length cap) vals.length vals
theorem blkOf_sl{b o n cap:Nat}(h:0<cap):blkOf (.slice (some ⟨b,o,none⟩) n cap)=some b:=by
 have:cap≠0:=by omega
 simp[blkOf,this]
theorem VRow.lt{w:World}{e:TypeId}{v:Value}{vals:List Value}(h:VRow w e v vals){b:Nat}(hb:blkOf v=some b):b<w.heap.size:=by
 obtain⟨b',o,cap,rfl,h0,h⟩:=h
 exact h.lt (by rw[blkOf_sl h0];exact hb)
theorem VRow.kept{w w':World}{e:TypeId}{v:Value}{vals:List Value}(h:VRow w e v vals)(hb: ∀b,blkOf v=some b→b<w.heap.size→w'.heap[b]? =w.heap[b]?):VRow w' e v vals:=by
 obtain⟨b',o,cap,rfl,h0,h⟩:=h
 exact⟨b',o,cap,rfl,h0,h.kept (fun b h1 h2=>hb b (by rw[blkOf_sl h0]at h1;exact h1) h2)⟩
def RepB(w:World)(F:Nat→Prop)(m:Nat→Value)(κ:Nat):Blk→Prop
 | .box e cs=> ∃b c,m κ= .pointer (some ⟨b,0,none⟩)∧w.heap[b]? =some (.cells c e (0,0))∧RepVs w F m cs c.toList∧(∀v∈c,v.oneCell'=true)
 | .ints e k xs c=>OwnRow w e 1 (m κ) xs.length (xs.map (.int k))∧CapIs c (m κ)
 | .row e n xs c=> ∃vals,OwnRow w e n (m κ) xs.length vals∧CapIs c (m κ)∧RepRow w F (fun v=>v.cells.size=n) xs vals
 | .map kvs=> ∃b es ck,m κ= .map (some b)∧w.heap[b]? =some (.map es ck)∧RepVs w F m kvs (kvsOf es)
 | .vrow e xs=> ∃vals,VRow w e (m κ) vals∧RepVs w F m xs vals∧(∀v∈vals,v.oneCell'=true)
structure St where
 n:Nat
 tm:List (Nat×AV)
 hp:List (Nat×Blk)
structure Ctx where
 w0:World
 S:Nat→Prop
 X:Nat→Prop
 pin:Nat→Option Value
def Owned(m:Nat→Value)(hp:List (Nat×Blk))(b:Nat):Prop:= ∃κ B,gt κ hp=some B∧blkOf (m κ)=some b
def Forb(c:Ctx)(m:Nat→Value)(hp:List (Nat×Blk))(b:Nat):Prop:=c.X b∨Owned m hp b
def IsC(w:World)(b:Nat):Prop:=(∃(cs:Array Value) (e:TypeId) (z:Nat×Nat),w.heap[b]? =some (.cells cs e z))∨ ∃es ck,w.heap[b]? =some (.map es ck)
def markD(D:Nat):Deferred:= {target:= .collected D,args:= #[]}
def Marks(c:Ctx)(w:World)(ds:List Deferred):Prop:=ds.Nodup∧ ∀d,d∈ds→ ∃D,d=markD D∧w.heap[D]? =some (Obj.deferred (some []))∧(c.S D∨c.w0.heap.size≤D)
def gTab:Nat→Option (Array Value):=fun _=>none
def GTok(w:World):Prop:= ∀b cs,gTab b=some cs→ ∃e z,w.heap[b]? =some (.cells cs e z)
def GC(c:Ctx):Prop:=GTok c.w0∧ ∀b cs,gTab b=some cs→ ¬c.S b
structure SRep (c:Ctx) (m:Nat→Value) (s:St) (a:Act) (w:World):Prop where
 defers:Marks c w a.defers
 nt:a.tmps.size=s.n
 slot: ∀t v,gt t s.tm=some v→RepV w (Forb c m s.hp) m v (a.tmps.getD t undef)
 heap: ∀κ B,gt κ s.hp=some B→RepB w (Forb c m s.hp) m κ B
 sep: ∀κ κ' B B' b,gt κ s.hp=some B→gt κ' s.hp=some B'→κ≠κ'→blkOf (m κ)=some b→blkOf (m κ')≠some b
 nox: ∀κ B b,gt κ s.hp=some B→blkOf (m κ)=some b→ ¬c.X b
 old: ∀κ B b,gt κ s.hp=some B→blkOf (m κ)=some b→c.S b∨c.w0.heap.size≤b
 fr:Fr c.S c.w0 w
 xlt: ∀b,c.X b→b<c.w0.heap.size
 pin: ∀κ v,c.pin κ=some v→m κ=v
 pinp: ∀κ v,c.pin κ=some v→κ<16∧ ∃b,v= .pointer b
 gl:GC c
theorem SRep.gtok{c:Ctx}{m:Nat→Value}{s:St}{a:Act}{w:World}(h:SRep c m s a w):GTok w:=fun b cs hb=>by
 obtain⟨e,z,h1⟩:=h.gl.1 b cs hb
 exact⟨e,z,(h.fr.block b (Array.getElem?_eq_some_iff.1 h1).1 (h.gl.2 b cs hb)).trans h1⟩
theorem SRep.gnot{c:Ctx}{m:Nat→Value}{s:St}{a:Act}{w:World}(h:SRep c m s a w){b:Nat}{cs:Array Value}(hb:gTab b=some cs): ¬Owned m s.hp b:=by
 rintro⟨κ,B,h1,h2⟩
 obtain⟨e,z,h3⟩:=h.gl.1 b cs hb
 rcases h.old κ B b h1 h2 with h4|h4
 ·exact h.gl.2 b cs hb h4
 ·have:=(Array.getElem?_eq_some_iff.1 h3).1
  omega
theorem RepB.lt{w:World}{F:Nat→Prop}{m:Nat→Value}{κ:Nat}{B:Blk}(h:RepB w F m κ B){b:Nat}(hb:blkOf (m κ)=some b):b<w.heap.size:=by
 cases B with
 |box e cs=>
  obtain⟨b',c,h1,h2,_⟩:=h
  rw[h1]at hb;simp[blkOf]at hb;subst hb
  exact(Array.getElem?_eq_some_iff.1 h2).1
 |ints e k xs c=>exact h.1.lt hb
 |row e n xs c=>
  obtain⟨vals,h,_⟩:=h
  exact h.lt hb
 |map kvs=>
  obtain⟨b',es,ck,h1,h2,_⟩:=h
  rw[h1]at hb;simp[blkOf]at hb;subst hb
  exact(Array.getElem?_eq_some_iff.1 h2).1
 |vrow e xs=>
  obtain⟨vals,h,_⟩:=h
  exact h.lt hb
theorem RepB.kept{w w':World}{F F':Nat→Prop}{m:Nat→Value}{κ:Nat}{B:Blk}(hk:Kept w F w' F')(hs:w.heap.size≤w'.heap.size)
  (hb: ∀b,blkOf (m κ)=some b→b<w.heap.size→w'.heap[b]? =w.heap[b]?)(h:RepB w F m κ B):RepB w' F' m κ B:=by
 cases B with
 |box e cs=>
  obtain⟨b',c,h1,h2,h3,h4⟩:=h
  exact⟨b',c,h1,by rw[hb b' (by rw[h1];rfl) (Array.getElem?_eq_some_iff.1 h2).1];exact h2,RepVs.kept hk hs _ _ h3,h4⟩
 |ints e k xs c=>exact⟨h.1.kept hb,h.2⟩
 |row e n xs c=>
  obtain⟨vals,h,hc,h2⟩:=h
  exact⟨vals,h.kept hb,hc,RepRow.kept hk _ _ h2⟩
 |map kvs=>
  obtain⟨b',es,ck,h1,h2,h3⟩:=h
  exact⟨b',es,ck,h1,by rw[hb b' (by rw[h1];rfl) (Array.getElem?_eq_some_iff.1 h2).1];exact h2,RepVs.kept hk hs _ _ h3⟩
 |vrow e xs=>
  obtain⟨vals,h,h2,h3⟩:=h
  exact⟨vals,h.kept hb,RepVs.kept hk hs _ _ h2,h3⟩
theorem RepB.kill{w:World}{F:Nat→Prop}{m m':Nat→Value}{κ j:Nat}{B:Blk}(hm: ∀j,j≠κ→m' j=m j)(hj:j≠κ)(h:RepB w F m j B):RepB w F m' j (killB κ B):=by
 cases B with
 |box e cs=>
  obtain⟨b',c,h1,h2,h3,h4⟩:=h
  exact⟨b',c,by rw[hm j hj];exact h1,h2,RepVs.kill hm _ _ h3,h4⟩
 |ints e k xs c=>simp only[killB,RepB,hm j hj]at h ⊢;exact h
 |row e n xs c=>simp only[killB,RepB,hm j hj]at h ⊢;exact h
 |map kvs=>
  obtain⟨b',es,ck,h1,h2,h3⟩:=h
  exact⟨b',es,ck,by rw[hm j hj];exact h1,h2,RepVs.kill hm _ _ h3⟩
 |vrow e xs=>
  obtain⟨vals,h,h2,h3⟩:=h
  exact⟨vals,by rw[hm j hj];exact h,RepVs.kill hm _ _ h2,h3⟩
theorem cell_isC{w:World}{b o:Nat}{v:Value}(h:w.cell? ⟨b,o,none⟩=some v):IsC w b:=by
 unfold World.cell? at h
 simp only at h
 split at h
 ·rename_i c e z hb;exact .inl ⟨c,e,z,hb⟩
 ·cases h
theorem IsC.not{w:World}{b:Nat}{ds:Option (List Deferred)}(h:IsC w b)(hd:w.heap[b]? =some (Obj.deferred ds)):False:=by
 rcases h with⟨cs,e,z,h⟩|⟨es,ck,h⟩<;>(rw[h]at hd;cases hd)
structure KeptC (w w':World):Prop where
 size:w.heap.size≤w'.heap.size
 same: ∀b,IsC w b→w'.heap[b]? =w.heap[b]?
mutual
theorem RepD.obj{w w':World}{F:Nat→Prop}(hk:KeptC w w'): ∀(d:D) (u:Value),RepD w F d u→RepD w' F d u
 | .v x,u,h=>h
 | .ints k xs c,u,h=>by
  simp only[RepD]at h ⊢
  obtain⟨a,cap,h1,h2,h3,h4,h4c,h5⟩:=h
  refine⟨a,cap,h1,h2,h3,h4,h4c,fun hne=> ?_⟩
  obtain⟨b,off,ha,hF,hc⟩:=h5 hne
  exact⟨b,off,ha,hF,fun i x hx=>cell_step (hk.same b (cell_isC (hc i x hx))) (hc i x hx)⟩
 | .sl n xs c,u,h=>by
  simp only[RepD]at h ⊢
  obtain⟨a,cap,vals,h1,h2,h3,h4,h4c,hr,h5⟩:=h
  refine⟨a,cap,vals,h1,h2,h3,h4,h4c,RepRow.obj hk xs vals hr,fun hne=> ?_⟩
  obtain⟨b,off,ha,hF,hc⟩:=h5 hne
  exact⟨b,off,ha,hF,fun i x hx=>cell_step (hk.same b (cell_isC (hc i x hx))) (hc i x hx)⟩
 | .agg cs,u,h=>by
  simp only[RepD]at h ⊢
  obtain⟨us,h1,h2⟩:=h
  exact⟨us,h1,RepRow.obj hk cs us h2⟩
theorem RepRow.obj{w w':World}{F:Nat→Prop}{c:Value→Prop}(hk:KeptC w w'): ∀(ds:List D) (vals:List Value),RepRow w F c ds vals→RepRow w' F c ds vals
 | [],vals,h=>by simpa only[RepRow]using h
 |d::ds,vals,h=>by
  simp only[RepRow]at h ⊢
  obtain⟨v,rest,h1,h2,h3,h4⟩:=h
  exact⟨v,rest,h1,h2,RepD.obj hk d v h3,RepRow.obj hk ds rest h4⟩
end
mutual
theorem RepV.obj{w w':World}{F:Nat→Prop}{m:Nat→Value}(hk:KeptC w w'): ∀(v:AV) (u:Value),RepV w F m v u→RepV w' F m v u
 | .d x,u,h=>by simp only[RepV]at h ⊢;exact RepD.obj hk x u h
 | .ptr κ off,u,h=>by simpa only[RepV]using h
 | .own κ,u,h=>by simpa only[RepV]using h
 | .pel κ off,u,h=>by simpa only[RepV]using h
 | .eaddr x,u,h=>by
  have hs:=hk.size
  simp only[RepV]at h ⊢
  obtain⟨b,off,v,h1,h2,h3,h4,h5⟩:=h
  exact⟨b,off,v,h1,h2,RepD.obj hk x v h3,by omega,fun i c hc=>cell_step (hk.same b (cell_isC (h5 i c hc))) (h5 i c hc)⟩
 | .agg cs,u,h=>by
  simp only[RepV]at h ⊢
  obtain⟨us,h1,h2,h3⟩:=h
  exact⟨us,h1,RepVs.obj hk cs us h2,h3⟩
 | .tup vs,u,h=>by
  simp only[RepV]at h ⊢
  obtain⟨us,h1,h2⟩:=h
  exact⟨us,h1,RepVs.obj hk vs us h2⟩
 | .clos f caps,u,h=>by
  simp only[RepV]at h ⊢
  obtain⟨us,h1,h2⟩:=h
  exact⟨us,h1,RepVs.obj hk caps us h2⟩
 | .wrap k v,u,h=>by
  simp only[RepV]at h ⊢
  obtain⟨u0,h1,h2⟩:=h
  exact⟨u0,h1,RepV.obj hk v u0 h2⟩
 | .bot,u,h=>by simp only[RepV]
theorem RepVs.obj{w w':World}{F:Nat→Prop}{m:Nat→Value}(hk:KeptC w w'): ∀(vs:List AV) (us:List Value),RepVs w F m vs us→RepVs w' F m vs us
 | [],us,h=>by simpa only[RepVs]using h
 |v::vs,us,h=>by
  simp only[RepVs]at h ⊢
  obtain⟨u,rest,h1,h2,h3⟩:=h
  exact⟨u,rest,h1,RepV.obj hk v u h2,RepVs.obj hk vs rest h3⟩
end
theorem OwnRow.isC{w:World}{e:TypeId}{size:Nat}{v:Value}{n:Nat}{vals:List Value}(h:OwnRow w e size v n vals){b:Nat}(hb:blkOf v=some b):IsC w b:=by
 rcases h.2 with⟨_,a,rfl⟩|⟨g,o,cap,cur,rfl,h0,h2,_⟩
 ·cases a<;>simp[blkOf]at hb
 ·have:cap≠0:=by omega
  simp[blkOf,this]at hb;subst hb;exact .inl ⟨_,_,_,h2⟩
theorem VRow.isC{w:World}{e:TypeId}{v:Value}{vals:List Value}(h:VRow w e v vals){b:Nat}(hb:blkOf v=some b):IsC w b:=by
 obtain⟨b',o,cap,rfl,h0,h⟩:=h
 exact h.isC (by rw[blkOf_sl h0];exact hb)
theorem RepB.isC{w:World}{F:Nat→Prop}{m:Nat→Value}{κ:Nat}{B:Blk}(h:RepB w F m κ B){b:Nat}(hb:blkOf (m κ)=some b):IsC w b:=by
 cases B with
 |box e cs=>
  obtain⟨b',c,h1,h2,_⟩:=h
  rw[h1]at hb;cases hb;exact .inl ⟨_,_,_,h2⟩
 |ints e k xs c=>exact h.1.isC hb
 |row e n xs c=>obtain⟨vals,h,_⟩:=h;exact h.isC hb
 |map kvs=>
  obtain⟨b',es,ck,h1,h2,_⟩:=h
  rw[h1]at hb;cases hb;exact .inr ⟨_,_,h2⟩
 |vrow e xs=>obtain⟨vals,h,_⟩:=h;exact h.isC hb
theorem RepB.obj{w w':World}{F:Nat→Prop}{m:Nat→Value}{κ:Nat}{B:Blk}(hk:KeptC w w')(h:RepB w F m κ B):RepB w' F m κ B:=by
 have hb: ∀b,blkOf (m κ)=some b→b<w.heap.size→w'.heap[b]? =w.heap[b]? :=fun b hb _=>hk.same b (h.isC hb)
 cases B with
 |box e cs=>
  obtain⟨b',c,h1,h2,h3,h4⟩:=h
  exact⟨b',c,h1,by rw[hb b' (by rw[h1];rfl) (Array.getElem?_eq_some_iff.1 h2).1];exact h2,RepVs.obj hk _ _ h3,h4⟩
 |ints e k xs c=>exact⟨h.1.kept hb,h.2⟩
 |row e n xs c=>
  obtain⟨vals,h,hc,h2⟩:=h
  exact⟨vals,h.kept hb,hc,RepRow.obj hk _ _ h2⟩
 |map kvs=>
  obtain⟨b',es,ck,h1,h2,h3⟩:=h
  exact⟨b',es,ck,h1,by rw[hb b' (by rw[h1];rfl) (Array.getElem?_eq_some_iff.1 h2).1];exact h2,RepVs.obj hk _ _ h3⟩
 |vrow e xs=>
  obtain⟨vals,h,h2,h3⟩:=h
  exact⟨vals,h.kept hb,RepVs.obj hk _ _ h2,h3⟩
theorem Marks.nil(c:Ctx)(w:World):Marks c w []:=⟨List.nodup_nil,fun d hd=>by cases hd⟩
theorem Marks.kept{c:Ctx}{w w':World}{ds:List Deferred}(h:Marks c w ds)(hk: ∀(D:Nat) (x:Option (List Deferred)),w.heap[D]? =some (Obj.deferred x)→w'.heap[D]? =w.heap[D]?):Marks c w' ds:=
 ⟨h.1,fun d hd=>let ⟨D,h1,h2,h3⟩:=h.2 d hd;⟨D,h1,(hk D _ h2).trans h2,h3⟩⟩
theorem Marks.fr{c:Ctx}{S:Nat→Prop}{w w':World}{ds:List Deferred}(h:Marks c w ds)(hf:Fr S w w')(hS: ∀b,S b→IsC w b):Marks c w' ds:=
 h.kept fun D x hD=>hf.block D (Array.getElem?_eq_some_iff.1 hD).1 (fun hs=>(hS D hs).not hD)
theorem SRep.obj{c:Ctx}{m:Nat→Value}{s:St}{a a':Act}{w w':World}(h:SRep c m s a w)(ht:a'.tmps=a.tmps)(hd:Marks c w' a'.defers)(hk:KeptC w w')(hfr:Fr c.S c.w0 w'):SRep c m s a' w':=
 ⟨hd,by rw[ht];exact h.nt,fun t v hv=>by rw[ht];exact RepV.obj hk v _ (h.slot t v hv),fun κ B hB=>(h.heap κ B hB).obj hk,h.sep,h.nox,h.old,hfr,h.xlt,h.pin,h.pinp,h.gl⟩
theorem keptC_put{w:World}{D:Nat}{o o':Obj}(h:w.heap[D]? =some o)(ho: ∀cs e z,o≠ .cells cs e z)(hm: ∀es ck,o≠ .map es ck:=by intro es ck e';cases e'):KeptC w (w.putObj D o'):=by
 refine⟨by simp[World.putObj],fun b hb=> ?_⟩
 have:b≠D:=by
  rintro rfl
  rcases hb with⟨cs,e,z,hb⟩|⟨es,ck,hb⟩
  ·rw[hb]at h;cases h;exact ho _ _ _ rfl
  ·rw[hb]at h;cases h;exact hm _ _ rfl
 simp[World.putObj,Array.getElem?_setIfInBounds_ne (Ne.symm this)]
inductive Taken:List Deferred→World→World→Prop
 |nil (w:World):Taken [] w w
 |cons {D:Nat} {ds:List Deferred} {w w':World} (h:w.heap[D]? =some (Obj.deferred (some []))) (hr:Taken ds (w.putObj D (Obj.deferred none)) w'):Taken (markD D::ds) w w'
theorem SRep.unmark{c:Ctx}{m:Nat→Value}{s:St}: ∀(ds:List Deferred) {a:Act} {w:World},a.defers=ds→SRep c m s a w→ ∃w',Taken ds w w'∧SRep c m s {a with defers:= []} w'
 | [],a,w,e,h=>⟨w,.nil w,h.obj rfl (Marks.nil _ _) ⟨Nat.le_refl _,fun _ _=>rfl⟩ h.fr⟩
 |d::ds,a,w,e,h=>by
  have hm:=h.defers
  rw[e]at hm
  obtain⟨D,rfl,h2,h3⟩:=hm.2 d (List.mem_cons_self ..)
  have hne:=(List.nodup_cons.1 hm.1).1
  have h4:SRep c m s {a with defers:=ds} (w.putObj D (Obj.deferred none)):=by
   refine h.obj rfl ⟨(List.nodup_cons.1 hm.1).2,fun d' hd'=> ?_⟩ (keptC_put h2 (by intro cs e z e';cases e')) ⟨h.fr.os,h.fr.tape,h.fr.output,Nat.le_trans h.fr.size (by simp[World.putObj]),fun k hk hn=> ?_⟩
   ·obtain⟨D',rfl,h5,h6⟩:=hm.2 d' (List.mem_cons_of_mem _ hd')
    exact⟨D',rfl,(World.putObj_heap_other (by rintro rfl;exact hne hd')).trans h5,h6⟩
   ·rw[←h.fr.block k hk hn]
    refine World.putObj_heap_other ?_
    rintro rfl
    rcases h3 with h3|h3
    ·exact hn h3
    ·omega
  obtain⟨w',h5,h6⟩:=SRep.unmark ds (a:= {a with defers:=ds}) rfl h4
  exact⟨w',.cons h2 h5,h6⟩
def St.put(s:St)(dst:Option Nat)(v:AV):St:=
 match dst with
 |some d=> {s with tm:=ins d v s.tm}
 |none=>s
def St.okDst(s:St):Option Nat→Bool
 |some d=>d<s.n
 |none=>true
theorem SRep.put{c:Ctx}{m:Nat→Value}{s:St}{a:Act}{w:World}(h:SRep c m s a w){dst:Option Nat}{v:AV}{u:Value}(hd:s.okDst dst=true)
  (hv:RepV w (Forb c m s.hp) m v u):SRep c m (s.put dst v) (a.put dst u) w:=by
 cases dst with
 |none=>exact h
 |some d=>
  simp only[St.okDst,decide_eq_true_eq]at hd
  refine⟨h.defers,by simp[Act.put,St.put,h.nt],fun t v' ht=> ?_,h.heap,h.sep,h.nox,h.old,h.fr,h.xlt,h.pin,h.pinp,h.gl⟩
  simp only[St.put,gt_ins]at ht
  simp only[St.put,Act.put]
  split at ht
  ·rename_i e
   subst e
   cases ht
   have:(a.tmps.setIfInBounds t u).getD t undef=u:=by
    have:t<a.tmps.size:=by rw[h.nt];exact hd
    simp[Array.getD,this]
   rw[this];exact hv
  ·rename_i e
   have:(a.tmps.setIfInBounds d u).getD t undef=a.tmps.getD t undef:=by
    simp[Array.getElem?_setIfInBounds_ne (Ne.symm e)]
   rw[this];exact h.slot t v' ht
theorem SRep.putBot{c:Ctx}{m:Nat→Value}{s:St}{a:Act}{w:World}(h:SRep c m s a w){dst:Option Nat}(hd:s.okDst dst=true)(u:Value):SRep c m (s.put dst .bot) (a.put dst u) w:=
 h.put hd (by simp only[RepV])
def upm(m:Nat→Value)(κ:Nat)(u:Value):Nat→Value:=fun j=>if j=κ then u else m j
theorem upm_same(m:Nat→Value)(κ:Nat)(u:Value):upm m κ u κ=u:=by simp[upm]
theorem upm_ne(m:Nat→Value){κ j:Nat}(u:Value)(h:j≠κ):upm m κ u j=m j:=by simp[upm,h]
def St.setB(s:St)(kill:Bool)(κ:Nat)(B:Blk):St:=
 if kill then {s with tm:=mapv (killV κ) s.tm,hp:=ins κ B (mapv (killB κ) s.hp)}else {s with hp:=ins κ B s.hp}
theorem SRep.nopin{c:Ctx}{m:Nat→Value}{s:St}{a:Act}{w:World}(h:SRep c m s a w){κ:Nat}(h16:16≤κ):c.pin κ=none:=by
 cases hp:c.pin κ with
 |none=>rfl
 |some v=>have:=(h.pinp κ v hp).1;omega
theorem killB_isSome{κ j:Nat}{hp:List (Nat×Blk)}{B:Blk}(h:gt j (mapv (killB κ) hp)=some B): ∃B0,gt j hp=some B0∧B=killB κ B0:=by
 rw[gt_mapv]at h
 obtain⟨B0,h1,h2⟩:=Option.map_eq_some_iff.1 h
 exact⟨B0,h1,h2.symm⟩
theorem SRep.setB_dom{s:St}{kill:Bool}{κ:Nat}{B:Blk}: ∀j B',gt j (s.setB kill κ B).hp=some B'→j≠κ→ ∃B0,gt j s.hp=some B0∧(B'=B0∨(kill=true∧B'=killB κ B0)):=by
 intro j B' hj hne
 unfold St.setB at hj
 split at hj
 ·rename_i hkill
  rw[gt_ins_ne _ hne]at hj
  obtain⟨B0,h1,h2⟩:=killB_isSome hj
  exact⟨B0,h1,.inr ⟨hkill,h2⟩⟩
 ·rw[gt_ins_ne _ hne]at hj
  exact⟨B',hj,.inl rfl⟩
theorem SRep.setB_kept{c:Ctx}{m:Nat→Value}{s:St}{a:Act}{w w':World}(h:SRep c m s a w)(kill:Bool)(κ:Nat)(B:Blk)(u:Value)
  (hfr:Fr (fun b=> ∃B0,gt κ s.hp=some B0∧blkOf (m κ)=some b) w w')
  (hblk: ∀b,blkOf u=some b→(∃B0,gt κ s.hp=some B0∧blkOf (m κ)=some b)∨w.heap.size≤b):
  Kept w (Forb c m s.hp) w' (Forb c (upm m κ u) (s.setB kill κ B).hp):=by
 intro b hb hF
 refine⟨?_,hfr.block b hb (fun⟨B0,h1,h2⟩=>hF (.inr ⟨κ,B0,h1,h2⟩))⟩
 rintro(hX|⟨j,B',hj,hjb⟩)
 ·exact hF (.inl hX)
 ·by_cases hne:j=κ
  ·subst hne
   rw[upm_same]at hjb
   rcases hblk b hjb with⟨B0,h1,h2⟩|h1
   ·exact hF (.inr ⟨j,B0,h1,h2⟩)
   ·omega
  ·rw[upm_ne _ _ hne]at hjb
   obtain⟨B0,h1,_⟩:=SRep.setB_dom j B' hj hne
   exact hF (.inr ⟨j,B0,h1,hjb⟩)
theorem SRep.setB{c:Ctx}{m:Nat→Value}{s:St}{a:Act}{w w':World}(h:SRep c m s a w)(kill:Bool)(κ:Nat)(B:Blk)(u:Value)
  (hk:kill=true∨u=m κ)(hpin:c.pin κ=none∨u=m κ)
  (hfr:Fr (fun b=> ∃B0,gt κ s.hp=some B0∧blkOf (m κ)=some b) w w')
  (hblk: ∀b,blkOf u=some b→(∃B0,gt κ s.hp=some B0∧blkOf (m κ)=some b)∨w.heap.size≤b)
  (hB:RepB w' (Forb c (upm m κ u) (s.setB kill κ B).hp) (upm m κ u) κ B):
  SRep c (upm m κ u) (s.setB kill κ B) a w'∧Kept w (Forb c m s.hp) w' (Forb c (upm m κ u) (s.setB kill κ B).hp):=by
 have hdom:=SRep.setB_dom (s:=s) (kill:=kill) (κ:=κ) (B:=B)
 have hself:gt κ (s.setB kill κ B).hp=some B:=by
  unfold St.setB;split<;>exact gt_ins_same _ _ _
 have hxs: ∀b,c.X b→b<w.heap.size:=fun b hb=>Nat.lt_of_lt_of_le (h.xlt b hb) h.fr.size
 have hKept:=h.setB_kept kill κ B u hfr hblk
 have hmap: ∀j,j≠κ→upm m κ u j=m j:=fun j hj=>upm_ne _ _ hj
 have hm2:kill=false→upm m κ u=m:=by
  intro hkf
  funext j
  by_cases hj:j=κ
  ·subst hj
   rw[upm_same]
   rcases hk with hk|hk
   ·rw[hk]at hkf;cases hkf
   ·exact hk
  ·exact upm_ne _ _ hj
 have hpin': ∀j v,c.pin j=some v→upm m κ u j=v:=by
  intro j v hj
  by_cases e:j=κ
  ·subst e
   rw[upm_same]
   rcases hpin with hp|hp
   ·rw[hp]at hj;cases hj
   ·rw[hp];exact h.pin j v hj
  ·rw[upm_ne _ _ e];exact h.pin j v hj
 refine⟨⟨h.defers.fr hfr (fun b ⟨B0,h1,h2⟩=>(h.heap κ B0 h1).isC h2),?_,?_,?_,?_,?_,?_,?_,h.xlt,hpin',h.pinp,h.gl⟩,hKept⟩
 ·rw[h.nt];unfold St.setB;split<;>rfl
 ·intro t v ht
  cases hkill:kill with
  |true=>
   have ht':gt t (mapv (killV κ) s.tm)=some v:=by unfold St.setB at ht;rw[hkill]at ht;exact ht
   rw[gt_mapv]at ht'
   obtain⟨v0,h1,rfl⟩:=Option.map_eq_some_iff.1 ht'
   have:=RepV.kill (m':=upm m κ u) hmap v0 _ (RepV.kept hKept hfr.size v0 _ (h.slot t v0 h1))
   rw[hkill]at this;exact this
  |false=>
   have ht':gt t s.tm=some v:=by unfold St.setB at ht;rw[hkill]at ht;exact ht
   have:=RepV.kept hKept hfr.size v _ (h.slot t v ht')
   rw[hkill]at this
   rw[hm2 hkill]at this ⊢;exact this
 ·intro j B' hj
  by_cases hne:j=κ
  ·subst hne
   rw[hself]at hj;cases hj
   exact hB
  ·obtain⟨B0,h1,h2⟩:=hdom j B' hj hne
   have hB0:=h.heap j B0 h1
   have hB1:RepB w' (Forb c (upm m κ u) (s.setB kill κ B).hp) m j B0:=RepB.kept hKept hfr.size (fun b hb hlt=>hfr.block b hlt (fun⟨B1,h3,h4⟩=>h.sep j κ B0 B1 b h1 h3 hne hb h4)) hB0
   rcases h2 with h2|⟨h2,h3⟩
   ·cases hkill:kill with
    |false=>rw[h2];rw[hkill]at hB1;rw[hm2 hkill]at hB1 ⊢;exact hB1
    |true=>
     have hj':B'=killB κ B0:=by
      unfold St.setB at hj
      rw[hkill]at hj
      simp only[if_true]at hj
      rw[gt_ins_ne _ hne,gt_mapv,h1]at hj
      simpa using hj.symm
     rw[hj'];rw[hkill]at hB1;exact RepB.kill hmap hne hB1
   ·rw[h3];exact RepB.kill hmap hne hB1
 ·intro j j' B1 B2 b h1 h2 hne hb hb'
  have key: ∀i B',gt i (s.setB kill κ B).hp=some B'→i≠κ→blkOf (m i)=some b→blkOf u=some b→False:=by
   intro i B' hi hne hib hub
   obtain⟨B0,h3,_⟩:=hdom i B' hi hne
   rcases hblk b hub with⟨B4,h5,h6⟩|h5
   ·exact h.sep i κ B0 B4 b h3 h5 hne hib h6
   ·have:=(h.heap i B0 h3).lt hib;omega
  by_cases e1:j=κ
  ·subst e1
   have e2:j'≠j:=Ne.symm hne
   rw[upm_same]at hb
   rw[upm_ne _ _ e2]at hb'
   exact key j' B2 h2 e2 hb' hb
  ·rw[upm_ne _ _ e1]at hb
   by_cases e2:j'=κ
   ·subst e2
    rw[upm_same]at hb'
    exact key j B1 h1 e1 hb hb'
   ·rw[upm_ne _ _ e2]at hb'
    obtain⟨B3,h3,_⟩:=hdom j B1 h1 e1
    obtain⟨B4,h4,_⟩:=hdom j' B2 h2 e2
    exact h.sep j j' B3 B4 b h3 h4 hne hb hb'
 ·intro j B' b hj hb hX
  by_cases e:j=κ
  ·subst e
   rw[upm_same]at hb
   rcases hblk b hb with⟨B0,h1,h2⟩|h1
   ·exact h.nox j B0 b h1 h2 hX
   ·have:=hxs b hX;omega
  ·rw[upm_ne _ _ e]at hb
   obtain⟨B0,h1,_⟩:=hdom j B' hj e
   exact h.nox j B0 b h1 hb hX
 ·intro j B' b hj hb
  by_cases e:j=κ
  ·subst e
   rw[upm_same]at hb
   rcases hblk b hb with⟨B0,h1,h2⟩|h1
   ·exact h.old j B0 b h1 h2
   ·exact .inr (Nat.le_trans h.fr.size h1)
  ·rw[upm_ne _ _ e]at hb
   obtain⟨B0,h1,_⟩:=hdom j B' hj e
   exact h.old j B0 b h1 hb
 ·refine⟨hfr.os.trans h.fr.os,hfr.tape.trans h.fr.tape,hfr.output.trans h.fr.output,Nat.le_trans h.fr.size hfr.size,fun b hb hS=> ?_⟩
  rw[hfr.block b (Nat.lt_of_lt_of_le hb h.fr.size) ?_,h.fr.block b hb hS]
  rintro⟨B0,h1,h2⟩
  rcases h.old κ B0 b h1 h2 with h3|h3
  ·exact hS h3
  ·omega
theorem SRep.drew{c:Ctx}{m:Nat→Value}{s:St}{a:Act}{w:World}(h:SRep c m s a w)(n:Nat):SRep c m s a {w with drawn:=n}:=
 have hk:Kept w (Forb c m s.hp) {w with drawn:=n} (Forb c m s.hp):=fun b _ hF=>⟨hF,rfl⟩
 ⟨h.defers.kept (fun _ _ _=>rfl),h.nt,fun t v ht=>RepV.kept hk (Nat.le_refl _) v _ (h.slot t v ht),fun κ B hB=>RepB.kept hk (Nat.le_refl _) (fun _ _ _=>rfl) (h.heap κ B hB),h.sep,h.nox,h.old,⟨h.fr.os,h.fr.tape,h.fr.output,h.fr.size,h.fr.block⟩,h.xlt,h.pin,h.pinp,h.gl⟩
def Sub(s' s:St):Prop:=s'.n=s.n∧(∀t v,gt t s'.tm=some v→v= .bot∨gt t s.tm=some v)∧(∀κ B,gt κ s'.hp=some B→gt κ s.hp=some B)
theorem SRep.sub{c:Ctx}{m:Nat→Value}{s s':St}{a:Act}{w:World}(h:SRep c m s a w)(hs:Sub s' s):SRep c m s' a w:=by
 have hF: ∀b,Forb c m s'.hp b→Forb c m s.hp b:=by
  rintro b (hX|⟨κ,B,h1,h2⟩)
  ·exact .inl hX
  ·exact .inr ⟨κ,B,hs.2.2 κ B h1,h2⟩
 have hk:Kept w (Forb c m s.hp) w (Forb c m s'.hp):=fun b _ hb=>⟨fun h'=>hb (hF b h'),rfl⟩
 refine⟨h.defers,h.nt.trans hs.1.symm,fun t v ht=> ?_,fun κ B hB=>RepB.kept hk (Nat.le_refl _) (fun _ _ _=>rfl) (h.heap κ B (hs.2.2 κ B hB)),fun κ κ' B B' b h1 h2=>h.sep κ κ' B B' b (hs.2.2 _ _ h1) (hs.2.2 _ _ h2),fun κ B b h1=>h.nox κ B b (hs.2.2 _ _ h1),fun κ B b h1=>h.old κ B b (hs.2.2 _ _ h1),h.fr,h.xlt,h.pin,h.pinp,h.gl⟩
 rcases hs.2.1 t v ht with rfl|h1
 ·simp only[RepV]
 ·exact RepV.kept hk (Nat.le_refl _) v _ (h.slot t v h1)
mutual
def datV(κ:Nat)(x:D):AV→AV
 | .d y=> .d y
 | .ptr κ' off=> .ptr κ' off
 | .own κ'=>if κ'=κ then .d x else .own κ'
 | .pel κ' off=> .pel κ' off
 | .eaddr y=> .eaddr y
 | .agg cs=> .agg (datVs κ x cs)
 | .tup vs=> .tup (datVs κ x vs)
 | .clos f caps=> .clos f (datVs κ x caps)
 | .wrap k v=> .wrap k (datV κ x v)
 | .bot=> .bot
termination_by structural v=>v
def datVs(κ:Nat)(x:D):List AV→List AV
 | []=> []
 |v::vs=>datV κ x v::datVs κ x vs
termination_by structural vs=>vs
end
def datB(κ:Nat)(x:D):Blk→Blk
 | .box e cs=> .box e (datVs κ x cs)
 | .map kvs=> .map (datVs κ x kvs)
 | .vrow e xs=> .vrow e (datVs κ x xs)
 |b=>b
mutual
theorem RepV.dat{w:World}{F:Nat→Prop}{m:Nat→Value}{κ:Nat}{x:D}(hx:RepD w F x (m κ)): ∀(v:AV) (u:Value),RepV w F m v u→RepV w F m (datV κ x v) u
 | .d y,u,h=>by simpa only[datV,RepV]using h
 | .ptr κ' off,u,h=>by simpa only[datV]using h
 | .own κ',u,h=>by
  simp only[datV];split
  ·rename_i e;subst e;simp only[RepV]at h ⊢;rw[h.1];exact hx
  ·exact h
 | .pel κ' off,u,h=>by simpa only[datV]using h
 | .eaddr y,u,h=>by simpa only[datV,RepV]using h
 | .agg cs,u,h=>by
  simp only[datV,RepV]at h ⊢
  obtain⟨us,h1,h2,h3⟩:=h
  exact⟨us,h1,RepVs.dat hx cs us h2,h3⟩
 | .tup vs,u,h=>by
  simp only[datV,RepV]at h ⊢
  obtain⟨us,h1,h2⟩:=h
  exact⟨us,h1,RepVs.dat hx vs us h2⟩
 | .clos f caps,u,h=>by
  simp only[datV,RepV]at h ⊢
  obtain⟨us,h1,h2⟩:=h
  exact⟨us,h1,RepVs.dat hx caps us h2⟩
 | .wrap k v,u,h=>by
  simp only[datV,RepV]at h ⊢
  obtain⟨u0,h1,h2⟩:=h
  exact⟨u0,h1,RepV.dat hx v u0 h2⟩
 | .bot,u,h=>by simp only[datV,RepV]
theorem RepVs.dat{w:World}{F:Nat→Prop}{m:Nat→Value}{κ:Nat}{x:D}(hx:RepD w F x (m κ)): ∀(vs:List AV) (us:List Value),RepVs w F m vs us→RepVs w F m (datVs κ x vs) us
 | [],us,h=>by simpa only[datVs,RepVs]using h
 |v::vs,us,h=>by
  simp only[datVs,RepVs]at h ⊢
  obtain⟨u,rest,h1,h2,h3⟩:=h
  exact⟨u,rest,h1,RepV.dat hx v u h2,RepVs.dat hx vs rest h3⟩
end
def Blk.data:Blk→Option D
 | .ints e k xs c=>some (.ints k xs c)
 | .row e n xs c=>some (.sl n xs c)
 |_=>none
theorem RepB.data{w:World}{F F':Nat→Prop}{m:Nat→Value}{κ:Nat}{B:Blk}{x:D}(h:RepB w F m κ B)(hx:B.data=some x)
  (hk:Kept w F w F')(hb: ∀b,blkOf (m κ)=some b→ ¬F' b):RepD w F' x (m κ):=by
 cases B with
 |box e cs=>simp[Blk.data]at hx
 |map kvs=>simp[Blk.data]at hx
 |vrow e xs=>simp[Blk.data]at hx
 |ints e k xs c=>
  simp only[Blk.data,Option.some.injEq]at hx
  subst hx
  obtain⟨h,hc⟩:=h
  obtain⟨a,cap,h1,h2,h3,h4,h5⟩:=h.cells
  simp only[RepD]
  refine⟨a,cap,h1,h2,h3,h4,fun n hn=>by obtain⟨a',l,h9⟩:=hc n hn;rw[h1]at h9;simp at h9;exact h9.2.2,fun hne=> ?_⟩
  obtain⟨b,o,h6,h7,_,h8⟩:=h5 (by simpa using hne)
  refine⟨b,o,h6,hb b h7,fun i y hy=>h8 i _ (by simp[hy])⟩
 |row e n xs c=>
  simp only[Blk.data,Option.some.injEq]at hx
  subst hx
  obtain⟨vals,h,hc,hr⟩:=h
  obtain⟨a,cap,h1,h2,h3,h4,h5⟩:=h.cells
  simp only[RepD]
  refine⟨a,cap,vals,h1,h2,h3,h4,fun n hn=>by obtain⟨a',l,h9⟩:=hc n hn;rw[h1]at h9;simp at h9;exact h9.2.2,RepRow.kept hk _ _ hr,fun hne=> ?_⟩
  obtain⟨b,o,h6,h7,_,h8⟩:=h5 hne
  exact⟨b,o,h6,hb b h7,h8⟩
def St.freeze(s:St)(κ:Nat)(x:D):St:= {s with tm:=mapv (datV κ x) s.tm,hp:=mapv (datB κ x) (del κ s.hp)}
theorem gt_some_mapv{α:Type}{f:α→α}{k:Nat}{l:List (Nat×α)}{v:α}(h:gt k (mapv f l)=some v): ∃v0,gt k l=some v0∧v=f v0:=by
 rw[gt_mapv]at h
 obtain⟨v0,h1,h2⟩:=Option.map_eq_some_iff.1 h
 exact⟨v0,h1,h2.symm⟩
theorem SRep.freeze{c:Ctx}{m:Nat→Value}{s:St}{a:Act}{w:World}(h:SRep c m s a w){κ:Nat}{B:Blk}{x:D}(hB:gt κ s.hp=some B)(hx:B.data=some x):SRep c m (s.freeze κ x) a w:=by
 have hdom: ∀j B',gt j (s.freeze κ x).hp=some B'→j≠κ∧ ∃B0,gt j s.hp=some B0∧B'=datB κ x B0:=by
  intro j B' hj
  obtain⟨B0,h1,h2⟩:=gt_some_mapv (f:=datB κ x) hj
  rw[gt_del]at h1
  split at h1
  ·cases h1
  ·rename_i hne;exact⟨hne,B0,h1,h2⟩
 have hF: ∀b,Forb c m (s.freeze κ x).hp b→Forb c m s.hp b:=by
  rintro b (hX|⟨j,B',h1,h2⟩)
  ·exact .inl hX
  ·obtain⟨_,B0,h3,_⟩:=hdom j B' h1
   exact .inr ⟨j,B0,h3,h2⟩
 have hk:Kept w (Forb c m s.hp) w (Forb c m (s.freeze κ x).hp):=fun b _ hb=>⟨fun h'=>hb (hF b h'),rfl⟩
 have hD:RepD w (Forb c m (s.freeze κ x).hp) x (m κ):=by
  refine RepB.data (h.heap κ B hB) hx hk fun b hb=> ?_
  rintro(hX|⟨j,B',h1,h2⟩)
  ·exact h.nox κ B b hB hb hX
  ·obtain⟨hne,B0,h3,_⟩:=hdom j B' h1
   exact h.sep j κ B0 B b h3 hB hne h2 hb
 refine⟨h.defers,h.nt,fun t v ht=> ?_,fun j B' hj=> ?_,?_,?_,?_,h.fr,h.xlt,h.pin,h.pinp,h.gl⟩
 ·obtain⟨v0,h1,rfl⟩:=gt_some_mapv (f:=datV κ x) ht
  exact RepV.dat hD v0 _ (RepV.kept hk (Nat.le_refl _) v0 _ (h.slot t v0 h1))
 ·obtain⟨hne,B0,h3,rfl⟩:=hdom j B' hj
  have:=RepB.kept hk (Nat.le_refl _) (fun _ _ _=>rfl) (h.heap j B0 h3)
  cases B0 with
  |box e cs=>
   obtain⟨b',c',h4,h5,h6,h7⟩:=this
   exact⟨b',c',h4,h5,RepVs.dat hD _ _ h6,h7⟩
  |ints e k xs c=>exact this
  |row e n xs c=>exact this
  |map kvs=>
   obtain⟨b',es,ck,h4,h5,h6⟩:=this
   exact⟨b',es,ck,h4,h5,RepVs.dat hD _ _ h6⟩
  |vrow e xs=>
   obtain⟨vals,h4,h5,h6⟩:=this
   exact⟨vals,h4,RepVs.dat hD _ _ h5,h6⟩
 ·intro j j' B1 B2 b h1 h2
  obtain⟨_,B3,h3,_⟩:=hdom j B1 h1
  obtain⟨_,B4,h4,_⟩:=hdom j' B2 h2
  exact h.sep j j' B3 B4 b h3 h4
 ·intro j B1 b h1
  obtain⟨_,B3,h3,_⟩:=hdom j B1 h1
  exact h.nox j B3 b h3
 ·intro j B1 b h1
  obtain⟨_,B3,h3,_⟩:=hdom j B1 h1
  exact h.old j B3 b h3
theorem SRep.mat{c:Ctx}{m:Nat→Value}{s:St}{a:Act}{w:World}(h:SRep c m s a w)(κ:Nat)(B:Blk)(ad:Option Addr)(h16:16≤κ∨ ∃e k xs c0,gt κ s.hp=some (.ints e k xs c0))(hB:(∃e k,B= .ints e k [] (some 0))∨(∃e n,B= .row e n [] (some 0))):
  SRep c (upm m κ (.slice ad 0 0)) (s.setB true κ B) a w∧Kept w (Forb c m s.hp) w (Forb c (upm m κ (.slice ad 0 0)) (s.setB true κ B).hp):=by
 have hpin:c.pin κ=none∨(.slice ad 0 0:Value)=m κ:=by
  cases hp:c.pin κ with
  |none=>exact .inl rfl
  |some v=>
   rcases h16 with h16|⟨e,k,xs,c0,hg⟩
   ·have:=(h.pinp κ v hp).1;omega
   ·obtain⟨b,hb⟩:=(h.pinp κ v hp).2
    have h1:=h.pin κ v hp
    have h2:=h.heap κ _ hg
    simp only[RepB]at h2
    have h3:m κ= .pointer b:=by first|exact h1.trans hb|exact h1.symm.trans hb
    rw[h3]at h2
    obtain⟨⟨_,h4⟩,_⟩:=h2
    rcases h4 with⟨_,a1,h5⟩|⟨_,_,_,_,h5,_⟩<;>cases h5
 refine h.setB true κ B (.slice ad 0 0) (.inl rfl) hpin (Fr.refl _ _) (fun b hb=>by cases ad<;>simp[blkOf]at hb) ?_
 rcases hB with⟨e,k,rfl⟩|⟨e,n,rfl⟩
 ·simp only[RepB,upm_same];exact⟨⟨by simp,.inl ⟨rfl,ad,rfl⟩⟩,fun n hn=>by cases hn;exact⟨_,_,rfl⟩⟩
 ·simp only[RepB,upm_same];exact⟨[],⟨by simp,.inl ⟨rfl,ad,rfl⟩⟩,fun n hn=>by cases hn;exact⟨_,_,rfl⟩,by simp only[RepRow]⟩
mutual
def fixV(κ:Nat)(x:D):AV→AV
 | .d y=> .d y
 | .ptr κ' off=>if κ'=κ then(if off=0 then .eaddr x else .bot)else .ptr κ' off
 | .own κ'=>if κ'=κ then .bot else .own κ'
 | .pel κ' off=>if κ'=κ then .bot else .pel κ' off
 | .eaddr y=> .eaddr y
 | .agg cs=> .agg (fixVs κ x cs)
 | .tup vs=> .tup (fixVs κ x vs)
 | .clos f caps=> .clos f (fixVs κ x caps)
 | .wrap k v=> .wrap k (fixV κ x v)
 | .bot=> .bot
termination_by structural v=>v
def fixVs(κ:Nat)(x:D):List AV→List AV
 | []=> []
 |v::vs=>fixV κ x v::fixVs κ x vs
termination_by structural vs=>vs
end
def fixB(κ:Nat)(x:D):Blk→Blk
 | .box e cs=> .box e (fixVs κ x cs)
 | .map kvs=> .map (fixVs κ x kvs)
 | .vrow e xs=> .vrow e (fixVs κ x xs)
 |b=>b
mutual
theorem RepV.fix{w:World}{F:Nat→Prop}{m:Nat→Value}{κ:Nat}{x:D}(hx: ∀u,RepV w F m (.ptr κ 0) u→RepV w F m (.eaddr x) u): ∀(v:AV) (u:Value),RepV w F m v u→RepV w F m (fixV κ x v) u
 | .d y,u,h=>by simpa only[fixV,RepV]using h
 | .ptr κ' off,u,h=>by
  simp only[fixV];split
  ·rename_i e;subst e
   split
   ·rename_i e;subst e;exact hx u h
   ·simp only[RepV]
  ·exact h
 | .own κ',u,h=>by
  simp only[fixV];split
  ·simp only[RepV]
  ·exact h
 | .pel κ' off,u,h=>by
  simp only[fixV];split
  ·simp only[RepV]
  ·exact h
 | .eaddr y,u,h=>by simpa only[fixV]using h
 | .agg cs,u,h=>by
  simp only[fixV,RepV]at h ⊢
  obtain⟨us,h1,h2,h3⟩:=h
  exact⟨us,h1,RepVs.fix hx cs us h2,h3⟩
 | .tup vs,u,h=>by
  simp only[fixV,RepV]at h ⊢
  obtain⟨us,h1,h2⟩:=h
  exact⟨us,h1,RepVs.fix hx vs us h2⟩
 | .clos f caps,u,h=>by
  simp only[fixV,RepV]at h ⊢
  obtain⟨us,h1,h2⟩:=h
  exact⟨us,h1,RepVs.fix hx caps us h2⟩
 | .wrap k v,u,h=>by
  simp only[fixV,RepV]at h ⊢
  obtain⟨u0,h1,h2⟩:=h
  exact⟨u0,h1,RepV.fix hx v u0 h2⟩
 | .bot,u,h=>by simp only[fixV,RepV]
theorem RepVs.fix{w:World}{F:Nat→Prop}{m:Nat→Value}{κ:Nat}{x:D}(hx: ∀u,RepV w F m (.ptr κ 0) u→RepV w F m (.eaddr x) u): ∀(vs:List AV) (us:List Value),RepVs w F m vs us→RepVs w F m (fixVs κ x vs) us
 | [],us,h=>by simpa only[fixVs,RepVs]using h
 |v::vs,us,h=>by
  simp only[fixVs,RepVs]at h ⊢
  obtain⟨u,rest,h1,h2,h3⟩:=h
  exact⟨u,rest,h1,RepV.fix hx v u h2,RepVs.fix hx vs rest h3⟩
end
def St.fix(s:St)(κ:Nat)(x:D):St:= {s with tm:=mapv (fixV κ x) s.tm,hp:=mapv (fixB κ x) (del κ s.hp)}
def obind{α β:Type}(x:Option α)(f:α→Option β):Option β:=x.bind f
def omap{α β:Type}(x:Option α)(f:α→β):Option β:=x.map f
theorem obind_some{α β:Type}(a:α)(f:α→Option β):obind (some a) f=f a:=rfl
theorem obind_none{α β:Type}(f:α→Option β):obind none f=none:=rfl
theorem omap_some{α β:Type}(a:α)(f:α→β):omap (some a) f=some (f a):=rfl
theorem omap_none{α β:Type}(f:α→β):omap none f=none:=rfl
theorem RepVs_iff{w:World}{F:Nat→Prop}{m:Nat→Value}: ∀ {cs:List AV} {us:List Value},RepVs w F m cs us↔cs.length=us.length∧ ∀(i:Nat) v,cs[i]? =some v→ ∃u,us[i]? =some u∧RepV w F m v u
 | [],us=>by
  simp only[RepVs]
  constructor
  ·rintro rfl;simp
  ·rintro⟨h,_⟩;exact List.eq_nil_of_length_eq_zero h.symm
 |v::vs,us=>by
  simp only[RepVs]
  constructor
  ·rintro⟨u,rest,rfl,h1,h2⟩
   obtain⟨h3,h4⟩:=RepVs_iff.1 h2
   refine⟨by simp[h3],fun i v' hi=> ?_⟩
   cases i with
   |zero=>simp at hi;subst hi;exact⟨u,by simp,h1⟩
   |succ i=>simp at hi;obtain⟨u',h5,h6⟩:=h4 i v' hi;exact⟨u',by simpa using h5,h6⟩
  ·rintro⟨h1,h2⟩
   cases us with
   |nil=>simp at h1
   |cons u rest=>
    obtain⟨u',h3,h4⟩:=h2 0 v (by simp)
    simp at h3;subst h3
    exact⟨u,rest,rfl,h4,RepVs_iff.2 ⟨by simpa using h1,fun i v' hi=>by obtain⟨u',h5,h6⟩:=h2 (i+1) v' (by simpa using hi);exact⟨u',by simpa using h5,h6⟩⟩⟩
theorem RepOnes_iff{w:World}{F:Nat→Prop}: ∀ {cs:List D} {us:List Value},RepRow w F (fun v=>v.oneCell'=true) cs us↔cs.length=us.length∧ ∀(i:Nat) d,cs[i]? =some d→ ∃u,us[i]? =some u∧u.oneCell'=true∧RepD w F d u
 | [],us=>by
  simp only[RepRow]
  constructor
  ·rintro rfl;simp
  ·rintro⟨h,_⟩;exact List.eq_nil_of_length_eq_zero h.symm
 |d::ds,us=>by
  simp only[RepRow]
  constructor
  ·rintro⟨u,rest,rfl,h0,h1,h2⟩
   obtain⟨h3,h4⟩:=RepOnes_iff.1 h2
   have hc:u.cells.toList= [u]:=by cases u<;>first|rfl|simp[Value.oneCell']at h0
   rw[hc]
   refine⟨by simp[h3],fun i v' hi=> ?_⟩
   cases i with
   |zero=>simp at hi;subst hi;exact⟨u,by simp,h0,h1⟩
   |succ i=>simp at hi;obtain⟨u',h5,h6⟩:=h4 i v' hi;exact⟨u',by simpa using h5,h6⟩
  ·rintro⟨h1,h2⟩
   cases us with
   |nil=>simp at h1
   |cons u rest=>
    obtain⟨u',h3,h0,h4⟩:=h2 0 d (by simp)
    simp at h3;subst h3
    have hc:u.cells.toList= [u]:=by cases u<;>first|rfl|simp[Value.oneCell']at h0
    exact⟨u,rest,by simp[hc],h0,h4,RepOnes_iff.2 ⟨by simpa using h1,fun i v' hi=>by obtain⟨u',h5,h6⟩:=h2 (i+1) v' (by simpa using hi);exact⟨u',by simpa using h5,h6⟩⟩⟩
theorem cells_one{u:Value}(h:u.oneCell'=true):u.cells= #[u]:=by cases u<;>first|rfl|simp[Value.oneCell']at h
theorem RepRow_get{w:World}{F:Nat→Prop}{n:Nat}: ∀ {ds:List D} {vals:List Value},RepRow w F (fun v=>v.cells.size=n) ds vals→vals.length=ds.length*n∧ ∀(i:Nat) d,ds[i]? =some d→ ∃v,v.cells.size=n∧RepD w F d v∧ ∀(j:Nat) c,v.cells[j]? =some c→vals[i*n+j]? =some c
 | [],vals,h=>by simp only[RepRow]at h;subst h;simp
 |d::ds,vals,h=>by
  simp only[RepRow]at h
  obtain⟨v,rest,rfl,h0,h1,h2⟩:=h
  obtain⟨h3,h4⟩:=RepRow_get h2
  have hl:v.cells.toList.length=n:=by simpa using h0
  refine⟨by rw[List.length_append,hl,h3,List.length_cons,Nat.add_mul,Nat.one_mul,Nat.add_comm],fun i d' hi=> ?_⟩
  cases i with
  |zero=>
   simp at hi;subst hi
   refine⟨v,h0,h1,fun j c hj=> ?_⟩
   have hj':j<v.cells.toList.length:=by
    have:=(Array.getElem?_eq_some_iff.1 hj).1
    simpa using this
   rw[Nat.zero_mul,Nat.zero_add,List.getElem?_append_left hj']
   simpa using hj
  |succ i=>
   simp at hi
   obtain⟨v',h5,h6,h7⟩:=h4 i d' hi
   refine⟨v',h5,h6,fun j c hj=> ?_⟩
   have:=h7 j c hj
   rw[show(i+1)*n+j=v.cells.toList.length+(i*n+j)by rw[hl,Nat.add_mul,Nat.one_mul,Nat.add_comm (i*n) n,Nat.add_assoc],List.getElem?_append_right (by omega),Nat.add_sub_cancel_left]
   exact this
def allD:List AV→Option (List D)
 | []=>some []
 | .d x::l=>(allD l).map (x:: ·)
 |_::_=>none
def mkAgg(cs:List AV):AV:=match allD cs with|some ds=> .d (.agg ds)|none=> .agg cs
def constA(v:Value):Option AV:=
 match v with
 | .agg cs=>if cs.toList.all (·.oneCell')then some (.d (.agg (cs.toList.map D.v)))else none
 | .tuple _=>none
 |v=>some (.d (.v v))
def St.ev(s:St):Operand→Option AV
 | .tmp t=>gt t s.tm
 | .const v=>constA v
 | .func f=>some (.d (.v (.func (.func f) #[] #[])))
 | .global _=>none
theorem constA_sound{w:World}{F:Nat→Prop}{m:Nat→Value}{v:Value}{x:AV}(h:constA v=some x):RepV w F m x v:=by
 cases v with
 |agg cs=>
  simp only[constA]at h
  split at h
  ·rename_i hall
   cases h
   simp only[RepV,RepD]
   refine⟨cs.toList,by simp,RepOnes_iff.2 ⟨by simp,fun i d hi=> ?_⟩⟩
   rw[List.getElem?_map]at hi
   obtain⟨u,hu,rfl⟩:=Option.map_eq_some_iff.1 hi
   have h1:=List.all_eq_true.1 hall u (List.mem_of_getElem? hu)
   exact⟨u,hu,h1,by simp only[RepD];exact⟨trivial,h1⟩⟩
  ·cases h
 |tuple vs=>simp[constA]at h
 |_=>simp only[constA,Option.some.injEq]at h;subst h;simp only[RepV,RepD];exact⟨trivial,rfl⟩
theorem SRep.ev{c:Ctx}{m:Nat→Value}{s:St}{a:Act}{w:World}(h:SRep c m s a w){x:Operand}{v:AV}(hx:s.ev x=some v):RepV w (Forb c m s.hp) m v (a.eval x):=by
 cases x with
 |tmp t=>exact h.slot t v hx
 |const u=>exact constA_sound hx
 |global g=>simp[St.ev]at hx
 |func f=>simp only[St.ev,Option.some.injEq]at hx;subst hx;simp only[RepV,RepD];exact⟨rfl,rfl⟩
theorem allD_rep{w:World}{F:Nat→Prop}{m:Nat→Value}: ∀ {cs:List AV} {ds:List D} {us:List Value},allD cs=some ds→RepVs w F m cs us→(∀u∈us,u.oneCell'=true)→RepRow w F (fun v=>v.oneCell'=true) ds us
 | [],ds,us,h,hr,_=>by
  simp only[allD,Option.some.injEq]at h;subst h
  simp only[RepVs]at hr;subst hr;simp only[RepRow]
 |v::cs,ds,us,h,hr,h1=>by
  cases v with
  |d x=>
   simp only[allD]at h
   obtain⟨l,hl,rfl⟩:=Option.map_eq_some_iff.1 h
   simp only[RepVs]at hr
   obtain⟨u,rest,rfl,h2,h3⟩:=hr
   simp only[RepV]at h2
   have h0:=h1 u (by simp)
   simp only[RepRow]
   exact⟨u,rest,by rw[cells_one h0];rfl,h0,h2,allD_rep hl h3 (fun z hz=>h1 z (by simp[hz]))⟩
  |_=>simp[allD]at h
theorem mkAgg_rep{w:World}{F:Nat→Prop}{m:Nat→Value}{cs:List AV}{us:List Value}(hr:RepVs w F m cs us)(h1: ∀u∈us,u.oneCell'=true):RepV w F m (mkAgg cs) (.agg us.toArray):=by
 unfold mkAgg
 split
 ·rename_i ds h
  simp only[RepV,RepD];exact⟨us,rfl,allD_rep h hr h1⟩
 ·simp only[RepV];exact⟨us,rfl,hr,h1⟩
def AV.fields:AV→Option (List AV)
 | .agg cs=>some cs
 | .d (.agg ds)=>some (ds.map .d)
 |_=>none
theorem fields_rep{w:World}{F:Nat→Prop}{m:Nat→Value}{v:AV}{u:Value}{cs:List AV}(h:RepV w F m v u)(hf:v.fields=some cs): ∃us:List Value,u= .agg us.toArray∧RepVs w F m cs us∧ ∀z∈us,z.oneCell'=true:=by
 cases v with
 |agg l=>simp only[AV.fields,Option.some.injEq]at hf;subst hf;simpa only[RepV]using h
 |d x=>
  cases x with
  |agg ds=>
   simp only[AV.fields,Option.some.injEq]at hf;subst hf
   simp only[RepV,RepD]at h
   obtain⟨us,rfl,hr⟩:=h
   rw[RepOnes_iff]at hr
   refine⟨us,rfl,RepVs_iff.2 ⟨by simpa using hr.1,fun i v hi=> ?_⟩,fun z hz=> ?_⟩
   ·rw[List.getElem?_map]at hi
    obtain⟨d,hd,rfl⟩:=Option.map_eq_some_iff.1 hi
    obtain⟨u,h1,_,h2⟩:=hr.2 i d hd
    exact⟨u,h1,by simpa only[RepV]using h2⟩
   ·obtain⟨i,hi⟩:=List.getElem?_of_mem hz
    have hlt:i<ds.length:=by rw[hr.1];exact(List.getElem?_eq_some_iff.1 hi).1
    obtain⟨u,h1,h2,_⟩:=hr.2 i ds[i] (by simp[hlt])
    rw[hi]at h1;cases h1;exact h2
  |_=>simp[AV.fields]at hf
 |_=>simp[AV.fields]at hf
theorem RepVs_slice{w:World}{F:Nat→Prop}{m:Nat→Value}{cs:List AV}{us:List Value}(h:RepVs w F m cs us)(i n:Nat):RepVs w F m ((cs.drop i).take n) ((us.drop i).take n):=by
 rw[RepVs_iff]at h ⊢
 refine⟨by simp[h.1],fun j v hj=> ?_⟩
 rw[List.getElem?_take]at hj ⊢
 split at hj
 ·rename_i hlt
  rw[if_pos hlt,List.getElem?_drop]
  rw[List.getElem?_drop]at hj
  exact h.2 _ v hj
 ·cases hj
def aggT(P:Program)(t:TypeId):Option Bool:=(P.underlying t).map fun| .struct _| .array _ _=>true|_=>false
def szT(P:Program)(t:TypeId):Option Nat:=(P.info? t).map (·.size)
theorem run_isAgg'{P:Program}{t:TypeId}{g:Bool}(h:aggT P t=some g)(w:World):(isAgg t).run P w= .ok g w:=by
 unfold aggT at h
 obtain⟨d,hd,rfl⟩:=Option.map_eq_some_iff.1 h
 simp only[isAgg,Sem.run_bind,run_underlying hd,Result.andThen_ok]
 cases d<;>rfl
theorem run_sizeOf'{P:Program}{t:TypeId}{n:Nat}(h:szT P t=some n)(w:World):(sizeOf t).run P w= .ok n w:=by
 unfold szT at h
 obtain⟨i,hi,rfl⟩:=Option.map_eq_some_iff.1 h
 simp[sizeOf,typeInfo,hi]
def fieldT(P:Program)(t:TypeId)(i:Nat):Option (Nat×Nat×Bool):=
 match P.underlying t with
 |some (.struct fs)=>match fs[i]? with
  |some f=>match szT P f.type,aggT P f.type with
   |some n,some g=>if n=0 then none else some (f.offset,n,g)
   |_,_=>none
  |none=>none
 |_=>none
def elemT(P:Program)(t:TypeId):Option (TypeId×Nat×Bool):=
 match P.underlying t with
 |some (.slice e)=>match szT P e,aggT P e with
  |some n,some g=>if n=0 then none else some (e,n,g)
  |_,_=>none
 |_=>none
def arrT(P:Program)(t:TypeId):Option (Nat×TypeId×Nat×Bool):=
 match P.underlying t with
 |some (.array l e)=>match szT P e,aggT P e with
  |some n,some g=>if n=0 then none else some (l,e,n,g)
  |_,_=>none
 |_=>none
theorem fieldT_parts{P:Program}{t:TypeId}{i o n:Nat}{g:Bool}(h:fieldT P t i=some (o,n,g)): ∃fs f,P.underlying t=some (.struct fs)∧fs[i]? =some f∧szT P f.type=some n∧aggT P f.type=some g∧f.offset=o∧n≠0:=by
 unfold fieldT at h
 split at h
 ·rename_i fs hu
  split at h
  ·rename_i f hf
   split at h
   ·rename_i n' g' hn hg
    split at h
    ·cases h
    ·rename_i hne
     simp only[Option.some.injEq,Prod.mk.injEq]at h
     obtain⟨rfl,rfl,rfl⟩:=h
     exact⟨fs,f,hu,hf,hn,hg,rfl,hne⟩
   ·cases h
  ·cases h
 ·cases h
theorem elemT_parts{P:Program}{t:TypeId}{e n:Nat}{g:Bool}(h:elemT P t=some (e,n,g)):P.underlying t=some (.slice e)∧szT P e=some n∧aggT P e=some g∧n≠0:=by
 unfold elemT at h
 split at h
 ·rename_i e' hu
  split at h
  ·rename_i n' g' hn hg
   split at h
   ·cases h
   ·rename_i hne
    simp only[Option.some.injEq,Prod.mk.injEq]at h
    obtain⟨rfl,rfl,rfl⟩:=h
    exact⟨hu,hn,hg,hne⟩
  ·cases h
 ·cases h
theorem arrT_parts{P:Program}{t:TypeId}{l e n:Nat}{g:Bool}(h:arrT P t=some (l,e,n,g)):P.underlying t=some (.array l e)∧szT P e=some n∧aggT P e=some g∧n≠0:=by
 unfold arrT at h
 split at h
 ·rename_i l' e' hu
  split at h
  ·rename_i n' g' hn hg
   split at h
   ·cases h
   ·rename_i hne
    simp only[Option.some.injEq,Prod.mk.injEq]at h
    obtain⟨rfl,rfl,rfl,rfl⟩:=h
    exact⟨hu,hn,hg,hne⟩
  ·cases h
 ·cases h
def absBin:BinOp→IntKind→Int→Int→Option Value
 | .add,k,a,b=>some (.int k (k.wrap (a+b)))
 | .sub,k,a,b=>some (.int k (k.wrap (a - b)))
 | .mul,k,a,b=>some (.int k (k.wrap (a*b)))
 | .quo,k,a,b=>if b=0 then none else some (.int k (k.wrap (a.tdiv b)))
 | .rem,k,a,b=>if b=0 then none else some (.int k (a.tmod b))
 | .and,k,a,b=>some (.int k (bits .and k a b))
 | .or,k,a,b=>some (.int k (bits .or k a b))
 | .xor,k,a,b=>some (.int k (bits .xor k a b))
 | .andNot,k,a,b=>some (.int k (bits .andNot k a b))
 | .eql,_,a,b=>some (.bool (decide (a=b)))
 | .neq,_,a,b=>some (.bool (!decide (a=b)))
 | .lss,_,a,b=>some (.bool (decide (a<b)))
 | .leq,_,a,b=>some (.bool (decide (a≤b)))
 | .gtr,_,a,b=>some (.bool (decide (b<a)))
 | .geq,_,a,b=>some (.bool (decide (b≤a)))
 |_,_,_,_=>none
def absShift(op:BinOp)(k:IntKind)(a b:Int):Option Value:=
 if b<0 then none else
 match op with
 | .shl=>some (.int k (k.wrap (a*2 ^ (min b.toNat k.bits))))
 | .shr=>some (.int k (a.fdiv (2 ^ (min b.toNat k.bits))))
 |_=>none
def absStr(op:BinOp)(a b:ByteArray):Option Value:=
 match op with
 | .eql=>some (.bool (decide (a.toList=b.toList)))
 | .neq=>some (.bool (!decide (a.toList=b.toList)))
 | .add=>if((a.size+b.size:Nat):Int)>IntKind.i64.max then none else some (.string (a++b))
 |_=>none
def isNilA:AV→Option Bool
 | .ptr _ _=>some false
 | .pel _ _=>some false
 | .clos _ _=>some false
 | .d (.ints _ (_::_) _)=>some false
 | .d (.sl _ (_::_) _)=>some false
 | .d (.v (.pointer none))=>some true
 | .d (.v .nilFunc)=>some true
 | .d (.v (.slice none 0 0))=>some true
 |_=>none
def intT(P:Program)(t:TypeId):Option IntKind:=match P.underlying t with|some (.int k)=>some k|_=>none
theorem intT_und{P:Program}{t:TypeId}{k:IntKind}(h:intT P t=some k):P.underlying t=some (.int k):=by
 unfold intT at h
 split at h
 ·rename_i k' hu;cases h;exact hu
 ·cases h
def boolT(P:Program)(t:TypeId):Bool:=match P.underlying t with|some .bool=>true|_=>false
theorem boolT_und{P:Program}{t:TypeId}(h:boolT P t=true):P.underlying t=some .bool:=by
 unfold boolT at h
 split at h
 ·assumption
 ·cases h
def binV(P:Program)(op:BinOp)(t:TypeId)(x y:AV):Option AV:=
 match x,y with
 | .d (.v (.int k a)),.d (.v (.int k' b))=>
  omap (match op with
  | .shl| .shr=>absShift op k a b
  |_=>if k=k' then absBin op k a b else none) fun v=> .d (.v v)
 | .d (.v (.string a)),.d (.v (.string b))=>omap (absStr op a b) fun v=> .d (.v v)
 | .d (.v (.bool a)),.d (.v (.bool b))=>
  if boolT P t=true then
   (match op with
   | .eql=>some (.d (.v (.bool (decide (a=b)))))
   | .neq=>some (.d (.v (.bool (!decide (a=b)))))
   |_=>none)else none
 |_,_=>none
def nilD:D→Option Bool
 | .v (.slice none 0 0)=>some true
 | .ints _ (_::_) _=>some false
 | .ints _ [] (some (_+1))=>some false
 | .sl _ (_::_) _=>some false
 | .sl _ [] (some (_+1))=>some false
 |_=>none
theorem nilD_rep{w:World}{F:Nat→Prop}{d:D}{u:Value}{b:Bool}(h:RepD w F d u)(hn:nilD d=some b): ∃a l c,u= .slice a l c∧a.isNone=b:=by
 unfold nilD at hn
 split at hn
 ·cases hn;simp only[RepD]at h;exact⟨none,0,0,h.1,rfl⟩
 ·cases hn
  rename_i k x xs c
  simp only[RepD]at h
  obtain⟨a,cap,h1,_,_,_,_,h5⟩:=h
  obtain⟨b,off,rfl,_⟩:=h5 (by simp)
  exact⟨_,_,_,h1,rfl⟩
 ·cases hn
  rename_i k n
  simp only[RepD]at h
  obtain⟨a,cap,h1,_,_,h4,h5,_⟩:=h
  refine⟨a,_,cap,h1,?_⟩
  cases a with
  |none=>have:=h4 rfl;have:=h5 _ rfl;omega
  |some a=>rfl
 ·cases hn
  rename_i k x xs c
  simp only[RepD]at h
  obtain⟨a,cap,vals,h1,_,_,h4,h5,h6,h7⟩:=h
  cases vals with
  |cons v vals=>obtain⟨b,off,rfl,_⟩:=h7 (by simp);exact⟨_,_,_,h1,rfl⟩
  |nil=>
   simp only[RepRow]at h6
   obtain⟨v,rest,h8,h9,h10,_⟩:=h6
   have e0:v.cells.toList= []:=by
    cases hv:v.cells.toList with
    |nil=>rfl
    |cons a l=>rw[hv]at h8;simp at h8
   have:(x::xs).length≤cap:=by assumption
   cases a with
   |some a=>exact⟨_,_,_,h1,rfl⟩
   |none=>have:=h4 rfl;simp at*;omega
 ·cases hn
  rename_i k n
  simp only[RepD]at h
  obtain⟨a,cap,vals,h1,_,_,h4,h5,_⟩:=h
  refine⟨a,_,cap,h1,?_⟩
  cases a with
  |none=>have:=h4 rfl;have:=h5 _ rfl;omega
  |some a=>rfl
 ·cases hn
def nilX(P:Program)(t:TypeId)(x y:AV):Option Bool:=
 match P.underlying t with
 |some (.slice _)=>match x,y with
  | .d d,.d (.v (.slice none 0 0))=>nilD d
  | .d (.v (.slice none 0 0)),.d d=>nilD d
  |_,_=>none
 |some (.pointer _)=>match x,y with
  | .ptr _ _,.d (.v (.pointer none))=>some false
  | .pel _ _,.d (.v (.pointer none))=>some false
  | .eaddr _,.d (.v (.pointer none))=>some false
  | .d (.v (.pointer none)),.d (.v (.pointer none))=>some true
  |_,_=>none
 |some (.func _ _ _)=>match x,y with
  | .clos _ _,.d (.v .nilFunc)=>some false
  | .d (.v (.func _ _ _)),.d (.v .nilFunc)=>some false
  | .d (.v .nilFunc),.d (.v .nilFunc)=>some true
  |_,_=>none
 |_=>none
def nilV(P:Program)(op:BinOp)(t:TypeId)(x y:AV):Option AV:=
 match op with
 | .eql=>omap (nilX P t x y) fun b=> .d (.v (.bool b))
 | .neq=>omap (nilX P t x y) fun b=> .d (.v (.bool (!b)))
 |_=>none
theorem int_beq(a b:Int):(a==b)=decide (a=b):=by by_cases h:a=b<;>simp[h]
theorem int_bne(a b:Int):(a != b)= !decide (a=b):=by by_cases h:a=b<;>simp[h]
theorem absBin_run{P:Program}{w:World}{op:BinOp}{t:TypeId}{k:IntKind}{a b:Int}{v:Value}(h:absBin op k a b=some v):(binOp op t (.int k a) (.int k b)).run P w= .ok v w:=by
 cases op<;>simp only[absBin,Option.some.injEq]at h<;>(try cases h)
 case quo=>split at h<;>simp_all[binOp,Op.intDiv]
 case rem=>split at h<;>simp_all[binOp,Op.intDiv]
 case add=>simp[binOp,Op.intArith]
 case sub=>simp[binOp,Op.intArith]
 case mul=>simp[binOp,Op.intArith]
 case and=>rw[binOp_and,intBits_and];simp
 case or=>rw[binOp_or,intBits_or];simp
 case xor=>rw[binOp_xor,intBits_xor];simp
 case andNot=>rw[binOp_andNot,intBits_andNot];simp
 all_goals simp[binOp,Op.intCmp,int_beq,int_bne]
theorem absShift_run{P:Program}{w:World}{op:BinOp}{t:TypeId}{k k':IntKind}{a b:Int}{v:Value}(h:absShift op k a b=some v)(hop:op= .shl∨op= .shr):(binOp op t (.int k a) (.int k' b)).run P w= .ok v w:=by
 unfold absShift at h
 split at h
 ·cases h
 ·rename_i hb
  rcases hop with rfl|rfl
  ·simp only[Option.some.injEq]at h;subst h
   simp[binOp,Op.shift,hb]
  ·simp only[Option.some.injEq]at h;subst h
   simp[binOp,Op.shift,hb]
theorem absStr_run{P:Program}{w:World}{op:BinOp}{t:TypeId}{a b:ByteArray}{v:Value}(h:absStr op a b=some v):(binOp op t (.string a) (.string b)).run P w= .ok v w:=by
 have e:(a.toList==b.toList)=decide (a.toList=b.toList):=by by_cases h:a.toList=b.toList<;>simp[h]
 cases op<;>simp only[absStr,Option.some.injEq]at h<;>(try cases h)
 case add=>
  split at h
  ·cases h
  ·rename_i hn
   simp only[Option.some.injEq]at h;subst h
   simp only[binOp,Op.stringOp,hn,if_false];rfl
 case eql=>simp only[binOp,Op.stringOp,e];rfl
 case neq=>simp only[binOp,Op.stringOp,e];rfl
theorem eqGuard_int{P:Program}{w:World}{op:BinOp}{t:TypeId}{x y:Operand}{k k':IntKind}{a b:Int}:(eqGuard op t x y (.int k a) (.int k' b)).run P w= .ok () w:=by
 unfold eqGuard;split<;>simp
theorem eqGuard_str{P:Program}{w:World}{op:BinOp}{t:TypeId}{x y:Operand}{a b:ByteArray}:(eqGuard op t x y (.string a) (.string b)).run P w= .ok () w:=by
 unfold eqGuard;split<;>simp
theorem eqGuard_bool{P:Program}{w:World}{op:BinOp}{t:TypeId}{x y:Operand}{a b:Bool}:(eqGuard op t x y (.bool a) (.bool b)).run P w= .ok () w:=by
 unfold eqGuard;split<;>simp
def Yld(P:Program)(o:Oper)(a:Act)(w:World)(u:Value):Prop:=(execOp a.eval o).run P w= .ok (.value u) w
theorem repV_v{w:World}{F:Nat→Prop}{m:Nat→Value}{x u:Value}:RepV w F m (.d (.v x)) u↔u=x∧x.oneCell'=true:=by simp only[RepV,RepD]
theorem absBin_one{op:BinOp}{k:IntKind}{a b:Int}{v:Value}(h:absBin op k a b=some v):v.oneCell'=true:=by
 cases op<;>simp only[absBin,Option.some.injEq]at h<;>(try(subst h;rfl))<;>(try(split at h<;>first|(simp only[Option.some.injEq]at h;subst h;rfl)|cases h))<;>cases h
theorem absShift_one{op:BinOp}{k:IntKind}{a b:Int}{v:Value}(h:absShift op k a b=some v):v.oneCell'=true:=by
 unfold absShift at h
 split at h
 ·cases h
 ·cases op<;>simp only[Option.some.injEq]at h<;>first|(subst h;rfl)|cases h
theorem absStr_one{op:BinOp}{a b:ByteArray}{v:Value}(h:absStr op a b=some v):v.oneCell'=true:=by
 cases op<;>simp only[absStr,Option.some.injEq]at h<;>(try(subst h;rfl))<;>(try(split at h<;>first|(simp only[Option.some.injEq]at h;subst h;rfl)|cases h))<;>cases h
theorem binV_sound{P:Program}{c:Ctx}{m:Nat→Value}{s:St}{a:Act}{w:World}(h:SRep c m s a w){o:Oper}{op:BinOp}{t t':TypeId}{x y:Operand}{vx vy v:AV}
  (ho:o.op= .binOp op t x y t')(hx:s.ev x=some vx)(hy:s.ev y=some vy)(hv:binV P op t vx vy=some v): ∃u,Yld P o a w u∧RepV w (Forb c m s.hp) m v u:=by
 have rx:=h.ev hx
 have ry:=h.ev hy
 unfold binV at hv
 split at hv
 ·rename_i k ka k' kb
  rw[repV_v]at rx ry
  obtain⟨v0,h0,rfl⟩:=Option.map_eq_some_iff.1 hv
  refine⟨v0,?_,repV_v.2 ⟨rfl,?_⟩⟩
  ·unfold Yld
   simp only[execOp,ho,rx.1,ry.1,Sem.run_bind,eqGuard_int,Result.andThen_ok]
   split at h0
   ·rw[absShift_run h0 (.inl rfl)];rfl
   ·rw[absShift_run h0 (.inr rfl)];rfl
   ·split at h0
    ·rename_i hkk;subst hkk;rw[absBin_run h0];rfl
    ·cases h0
  ·split at h0
   ·exact absShift_one h0
   ·exact absShift_one h0
   ·split at h0
    ·exact absBin_one h0
    ·cases h0
 ·rename_i sa sb
  rw[repV_v]at rx ry
  obtain⟨v0,h0,rfl⟩:=Option.map_eq_some_iff.1 hv
  refine⟨v0,?_,repV_v.2 ⟨rfl,absStr_one h0⟩⟩
  unfold Yld
  simp only[execOp,ho,rx.1,ry.1,Sem.run_bind,eqGuard_str,Result.andThen_ok]
  rw[absStr_run h0];rfl
 ·rename_i ba bb
  rw[repV_v]at rx ry
  split at hv
  ·rename_i hu
   replace hu:=boolT_und hu
   have e: ∀x y:Bool,(x==y)=decide (x=y):=by decide
   split at hv
   ·cases hv
    refine⟨_,?_,repV_v.2 ⟨rfl,rfl⟩⟩
    unfold Yld
    simp only[execOp,ho,rx.1,ry.1,Sem.run_bind,eqGuard_bool,Result.andThen_ok]
    rw[run_eql_bool _ _ _ _ hu,e];rfl
   ·cases hv
    refine⟨_,?_,repV_v.2 ⟨rfl,rfl⟩⟩
    unfold Yld
    simp only[execOp,ho,rx.1,ry.1,Sem.run_bind,eqGuard_bool,Result.andThen_ok]
    rw[run_neq_bool _ _ _ _ hu];simp only[e];rfl
   ·cases hv
  ·cases hv
 ·cases hv
theorem equal_slice{P:Program}{w:World}{t e:TypeId}(hu:P.underlying t=some (.slice e))(n:Nat):(∀(l c:Nat) (b:Option Addr) (l' c':Nat),(Op.equalIn (n+1) t (.slice none l c) (.slice b l' c')).run P w= .ok b.isNone w)∧(∀(a:Addr) (l c:Nat) (l' c':Nat),(Op.equalIn (n+1) t (.slice (some a) l c) (.slice none l' c')).run P w= .ok false w):=by
 constructor
 ·intros;simp only[Op.equalIn,Sem.run_bind,run_underlying hu,Result.andThen_ok,Sem.run_pure]
 ·intros;simp only[Op.equalIn,Sem.run_bind,run_underlying hu,Result.andThen_ok,Sem.run_pure]
theorem equal_ptr{P:Program}{w:World}{t e:TypeId}(hu:P.underlying t=some (.pointer e))(n:Nat):(∀(b:Option Addr),(Op.equalIn (n+1) t (.pointer none) (.pointer b)).run P w= .ok b.isNone w)∧(∀(a:Addr),(Op.equalIn (n+1) t (.pointer (some a)) (.pointer none)).run P w= .ok false w):=by
 constructor
 ·intros;simp only[Op.equalIn,Sem.run_bind,run_underlying hu,Result.andThen_ok,Sem.run_pure]
 ·intros;simp only[Op.equalIn,Sem.run_bind,run_underlying hu,Result.andThen_ok,Sem.run_pure]
theorem equal_fn{P:Program}{w:World}{t:TypeId}{a b c}(hu:P.underlying t=some (.func a b c))(n:Nat):(Op.equalIn (n+1) t .nilFunc .nilFunc).run P w= .ok true w∧(∀f r c,(Op.equalIn (n+1) t (.func f r c) .nilFunc).run P w= .ok false w):=by
 constructor
 ·simp only[Op.equalIn,Sem.run_bind,run_underlying hu,Result.andThen_ok,Sem.run_pure]
 ·intros;simp only[Op.equalIn,Sem.run_bind,run_underlying hu,Result.andThen_ok,Sem.run_pure]
theorem equal_10000(t:TypeId)(x y:Value):Op.equal t x y=Op.equalIn (9999+1) t x y:=rfl
theorem nilX_run{P:Program}{w:World}{F:Nat→Prop}{m:Nat→Value}{t:TypeId}{vx vy:AV}{x y:Value}{b:Bool}(rx:RepV w F m vx x)(ry:RepV w F m vy y)(h:nilX P t vx vy=some b):
  (Op.equal t x y).run P w= .ok b w∧(∀(op:BinOp) (p q:Operand),(eqGuard op t p q x y).run P w= .ok () w)∧(binOp .eql t x y).run P w= .ok (.bool b) w∧(binOp .neq t x y).run P w= .ok (.bool (!b)) w:=by
 have fin:(Op.equal t x y).run P w= .ok b w→((∃a l c a' l' c',x= .slice a l c∧y= .slice a' l' c')∨(∃a b,x= .pointer a∧y= .pointer b)∨((∃f r c,x= .func f r c)∧y= .nilFunc)∨(x= .nilFunc∧y= .nilFunc))→(Op.equal t x y).run P w= .ok b w∧(∀(op:BinOp) (p q:Operand),(eqGuard op t p q x y).run P w= .ok () w)∧(binOp .eql t x y).run P w= .ok (.bool b) w∧(binOp .neq t x y).run P w= .ok (.bool (!b)) w:=by
  intro h1 h2
  refine⟨h1,?_,?_,?_⟩
  ·intro op p q
   rcases h2 with⟨a,l,c,a',l',c',rfl,rfl⟩|⟨a,b,rfl,rfl⟩|⟨⟨f,r,c,rfl⟩,rfl⟩|⟨rfl,rfl⟩<;>(unfold eqGuard;split<;>rfl)
  ·rcases h2 with⟨a,l,c,a',l',c',rfl,rfl⟩|⟨a,b,rfl,rfl⟩|⟨⟨f,r,c,rfl⟩,rfl⟩|⟨rfl,rfl⟩<;>(simp only[binOp,Sem.run_bind,h1,Result.andThen_ok];rfl)
  ·rcases h2 with⟨a,l,c,a',l',c',rfl,rfl⟩|⟨a,b,rfl,rfl⟩|⟨⟨f,r,c,rfl⟩,rfl⟩|⟨rfl,rfl⟩<;>(simp only[binOp,Sem.run_bind,h1,Result.andThen_ok];rfl)
 unfold nilX at h
 split at h
 ·rename_i e hu
  have eqS: ∀(a:Option Addr) (l c:Nat) (a':Option Addr) (l' c':Nat),(a=none∨a'=none)→(Op.equal t (.slice a l c) (.slice a' l' c')).run P w= .ok (a.isNone&&a'.isNone) w:=by
   intro a l c a' l' c' hor
   obtain⟨e1,e2⟩:=equal_slice (w:=w) hu 9999
   rw[equal_10000]
   rcases hor with rfl|rfl
   ·rw[e1];rfl
   ·cases a with
    |none=>rw[e1];rfl
    |some a=>rw[e2];rfl
  split at h
  ·rename_i d
   simp only[RepV]at rx ry
   obtain⟨a,l,c,rfl,hb⟩:=nilD_rep rx h
   simp only[RepD]at ry
   obtain⟨rfl,_⟩:=ry
   refine fin ?_ (.inl ⟨_,_,_,_,_,_,rfl,rfl⟩)
   rw[eqS _ _ _ _ _ _ (.inr rfl),hb];simp
  ·rename_i d _
   simp only[RepV]at rx ry
   obtain⟨a,l,c,rfl,hb⟩:=nilD_rep ry h
   simp only[RepD]at rx
   obtain⟨rfl,_⟩:=rx
   refine fin ?_ (.inl ⟨_,_,_,_,_,_,rfl,rfl⟩)
   rw[eqS _ _ _ _ _ _ (.inl rfl),hb];simp
  ·cases h
 ·rename_i e hu
  have eqP: ∀(a b:Option Addr),(a=none∨b=none)→(Op.equal t (.pointer a) (.pointer b)).run P w= .ok (a.isNone&&b.isNone) w:=by
   intro a b hor
   obtain⟨e1,e2⟩:=equal_ptr (w:=w) hu 9999
   rw[equal_10000]
   rcases hor with rfl|rfl
   ·rw[e1];rfl
   ·cases a with
    |none=>rw[e1];rfl
    |some a=>rw[e2];rfl
  split at h
  ·cases h
   obtain⟨rfl,_⟩:=repV_v.1 ry
   simp only[RepV]at rx
   obtain⟨b,_,rfl⟩:=rx
   exact fin (by rw[eqP _ _ (.inr rfl)];rfl) (.inr (.inl ⟨_,_,rfl,rfl⟩))
  ·cases h
   obtain⟨rfl,_⟩:=repV_v.1 ry
   simp only[RepV]at rx
   obtain⟨b,o,n,cap,_,rfl⟩:=rx
   exact fin (by rw[eqP _ _ (.inr rfl)];rfl) (.inr (.inl ⟨_,_,rfl,rfl⟩))
  ·cases h
   obtain⟨rfl,_⟩:=repV_v.1 ry
   simp only[RepV]at rx
   obtain⟨b,off,v,rfl,_⟩:=rx
   exact fin (by rw[eqP _ _ (.inr rfl)];rfl) (.inr (.inl ⟨_,_,rfl,rfl⟩))
  ·cases h
   obtain⟨rfl,_⟩:=repV_v.1 ry
   obtain⟨rfl,_⟩:=repV_v.1 rx
   exact fin (by rw[eqP _ _ (.inr rfl)];rfl) (.inr (.inl ⟨_,_,rfl,rfl⟩))
  ·cases h
 ·rename_i hu
  split at h
  ·cases h
   obtain⟨rfl,_⟩:=repV_v.1 ry
   simp only[RepV]at rx
   obtain⟨us,rfl,_⟩:=rx
   exact fin (by rw[equal_10000];exact(equal_fn (w:=w) hu 9999).2 _ _ _) (.inr (.inr (.inl ⟨⟨_,_,_,rfl⟩,rfl⟩)))
  ·cases h
   obtain⟨rfl,_⟩:=repV_v.1 ry
   obtain⟨rfl,_⟩:=repV_v.1 rx
   exact fin (by rw[equal_10000];exact(equal_fn (w:=w) hu 9999).2 _ _ _) (.inr (.inr (.inl ⟨⟨_,_,_,rfl⟩,rfl⟩)))
  ·cases h
   obtain⟨rfl,_⟩:=repV_v.1 ry
   obtain⟨rfl,_⟩:=repV_v.1 rx
   exact fin (by rw[equal_10000];exact(equal_fn (w:=w) hu 9999).1) (.inr (.inr (.inr ⟨rfl,rfl⟩)))
  ·cases h
 ·cases h
theorem nilV_sound{P:Program}{F F':Nat→Prop}{m:Nat→Value}{a:Act}{w:World}{o:Oper}{op:BinOp}{t t':TypeId}{x y:Operand}{vx vy v:AV}
  (ho:o.op= .binOp op t x y t')(rx:RepV w F m vx (a.eval x))(ry:RepV w F m vy (a.eval y))(hv:nilV P op t vx vy=some v): ∃u,Yld P o a w u∧RepV w F' m v u:=by
 unfold nilV at hv
 split at hv
 ·obtain⟨b,hb,rfl⟩:=Option.map_eq_some_iff.1 hv
  obtain⟨_,h2,h3,_⟩:=nilX_run rx ry hb
  refine⟨.bool b,?_,repV_v.2 ⟨rfl,rfl⟩⟩
  unfold Yld
  simp only[execOp,ho,Sem.run_bind,h2,Result.andThen_ok,h3];rfl
 ·obtain⟨b,hb,rfl⟩:=Option.map_eq_some_iff.1 hv
  obtain⟨_,h2,_,h4⟩:=nilX_run rx ry hb
  refine⟨.bool (!b),?_,repV_v.2 ⟨rfl,rfl⟩⟩
  unfold Yld
  simp only[execOp,ho,Sem.run_bind,h2,Result.andThen_ok,h4];rfl
 ·cases hv
def cmpB(op:BinOp)(b:Bool):Option AV:=
 match op with
 | .eql=>some (.d (.v (.bool b)))
 | .neq=>some (.d (.v (.bool (!b))))
 |_=>none
def ifaceT(P:Program)(t:TypeId):Bool:=match P.underlying t with|some (.interface _)=>true|_=>false
theorem ifaceT_und{P:Program}{t:TypeId}(h:ifaceT P t=true):P.underlying t=some (.interface (P.methodsAt t)):=by
 unfold ifaceT at h
 split at h
 ·rename_i ms hu;simp only[Program.methodsAt,hu]
 ·cases h
def nilI(P:Program)(op:BinOp)(t:TypeId)(y:Operand)(vx:AV):Option AV:=
 match y with
 | .const .nilIface=>if ifaceT P t=true then
   (match vx with
   | .wrap (.ifc _) _=>cmpB op false
   | .d (.v .nilIface)=>cmpB op true
   |_=>none)
  else none
 |_=>none
theorem eqGuard_held{P:Program}{w:World}(op:BinOp)(t t1:TypeId)(x y:Operand)(u:Value):(eqGuard op t x y (.iface t1 u) .nilIface).run P w= .ok () w:=by
 unfold eqGuard;split<;>rfl
theorem eqGuard_nn{P:Program}{w:World}(op:BinOp)(t:TypeId)(x:Operand):(eqGuard op t x (.const .nilIface) .nilIface .nilIface).run P w= .ok () w:=by
 unfold eqGuard
 split<;>simp
theorem nilI_sound{P:Program}{F F':Nat→Prop}{m:Nat→Value}{a:Act}{w:World}{o:Oper}{op:BinOp}{t t':TypeId}{x y:Operand}{vx v:AV}
  (ho:o.op= .binOp op t x y t')(rx:RepV w F m vx (a.eval x))(hv:nilI P op t y vx=some v): ∃u,Yld P o a w u∧RepV w F' m v u:=by
 unfold nilI at hv
 split at hv
 ·split at hv
  ·rename_i hu
   replace hu:=ifaceT_und hu
   have hyv:a.eval (.const .nilIface)= .nilIface:=rfl
   split at hv
   ·rename_i t1 v1
    simp only[RepV]at rx
    obtain⟨u0,hx,_⟩:=rx
    unfold cmpB at hv
    split at hv
    ·cases hv
     refine⟨.bool false,?_,repV_v.2 ⟨rfl,rfl⟩⟩
     unfold Yld
     simp only[execOp,ho,hx,Wr.val,hyv,Sem.run_bind,eqGuard_held,Result.andThen_ok,run_eql_held_nil _ t _ _ hu];rfl
    ·cases hv
     refine⟨.bool true,?_,repV_v.2 ⟨rfl,rfl⟩⟩
     unfold Yld
     simp only[execOp,ho,hx,Wr.val,hyv,Sem.run_bind,eqGuard_held,Result.andThen_ok,run_neq_held_nil _ t _ _ hu];rfl
    ·cases hv
   ·obtain⟨hx,_⟩:=repV_v.1 rx
    unfold cmpB at hv
    split at hv
    ·cases hv
     refine⟨.bool true,?_,repV_v.2 ⟨rfl,rfl⟩⟩
     unfold Yld
     simp only[execOp,ho,hx,hyv,Sem.run_bind,eqGuard_nn,Result.andThen_ok,run_eql_nil_nil _ t hu];rfl
    ·cases hv
     refine⟨.bool false,?_,repV_v.2 ⟨rfl,rfl⟩⟩
     unfold Yld
     simp only[execOp,ho,hx,hyv,Sem.run_bind,eqGuard_nn,Result.andThen_ok,run_neq_nil_nil _ t hu];rfl
    ·cases hv
   ·cases hv
  ·cases hv
 ·cases hv
def unV(op:UnOp):AV→Option AV
 | .d (.v (.int k n))=>match op with
  | .neg=>some (.d (.v (.int k (k.wrap (0 - n)))))
  | .xor=>some (.d (.v (.int k (bits .xor k (if k.signed then -1 else k.max) n))))
  |_=>none
 | .d (.v (.bool b))=>match op with
  | .not=>some (.d (.v (.bool !b)))
  |_=>none
 |_=>none
theorem unV_sound{P:Program}{c:Ctx}{m:Nat→Value}{s:St}{a:Act}{w:World}(h:SRep c m s a w){o:Oper}{op:UnOp}{t:TypeId}{x:Operand}{vx v:AV}
  (ho:o.op= .unOp op t x)(hx:s.ev x=some vx)(hv:unV op vx=some v): ∃u,Yld P o a w u∧RepV w (Forb c m s.hp) m v u:=by
 have rx:=h.ev hx
 unfold unV at hv
 split at hv
 ·rw[repV_v]at rx
  split at hv
  ·cases hv
   refine⟨_,?_,repV_v.2 ⟨rfl,rfl⟩⟩
   unfold Yld;simp only[execOp,ho,rx.1];simp[Op.unary,Op.intArith]
  ·cases hv
   refine⟨_,?_,repV_v.2 ⟨rfl,rfl⟩⟩
   unfold Yld;simp only[execOp,ho,rx.1,unary_xor,intBits_xor];simp
  ·cases hv
 ·rw[repV_v]at rx
  split at hv
  ·cases hv
   refine⟨_,?_,repV_v.2 ⟨rfl,rfl⟩⟩
   unfold Yld;simp only[execOp,ho,rx.1];simp[Op.unary]
  ·cases hv
 ·cases hv
def cvtV(P:Program)(src dst:TypeId):AV→Option AV
 | .d (.v (.int _ n))=>match P.underlying src,P.underlying dst with
  |some _,some (.int k)=>some (.d (.v (.int k (k.wrap n))))
  |_,_=>none
 | .d (.ints .u8 xs _)=>match P.underlying src,P.underlying dst with
  |some (.slice e),some .string=>if intT P e=some .u8 then some (.d (.v (.string (strOfNums xs))))else none
  |_,_=>none
 | .d (.v (.string x))=>match P.underlying src,P.underlying dst with
  |some .string,some .string=>some (.d (.v (.string x)))
  |_,_=>none
 | .d (.v (.slice none 0 0))=>match P.underlying src,P.underlying dst with
  |some (.slice e),some .string=>if intT P e=some .u8 then some (.d (.v (.string (strOfNums []))))else none
  |_,_=>none
 |_=>none
theorem repD_ints{w:World}{F:Nat→Prop}{k:IntKind}{xs:List Int}{c:Option Nat}{u:Value}(h:RepD w F (.ints k xs c) u): ∃a cap,u= .slice a xs.length cap∧Cells w a (xs.map (.int k))∧xs.length≤cap∧cap≤maxLen∧(a=none→cap=0):=by
 simp only[RepD]at h
 obtain⟨a,cap,h1,h2,h3,h4,h5,h6⟩:=h
 refine⟨a,cap,h1,fun hne=> ?_,h2,h3,h4⟩
 obtain⟨b,off,h7,_,h8⟩:=h6 (by simpa using hne)
 refine⟨b,off,h7,fun i v hv=> ?_⟩
 rw[List.getElem?_map]at hv
 obtain⟨x,hx,rfl⟩:=Option.map_eq_some_iff.1 hv
 exact h8 i x hx
theorem cvtV_run{P:Program}{w:World}{F F':Nat→Prop}{m:Nat→Value}{src dst:TypeId}{vx v:AV}{u:Value}(rx:RepV w F m vx u)(hv:cvtV P src dst vx=some v): ∃z,(convert src dst u).run P w= .ok z w∧RepV w F' m v z:=by
 unfold cvtV at hv
 split at hv
 ·rw[repV_v]at rx
  split at hv
  ·rename_i k' n d k hs hd
   cases hv
   refine⟨_,?_,repV_v.2 ⟨rfl,rfl⟩⟩
   rw[rx.1]
   simp[convert,run_underlying hs,run_underlying hd,Conv.intToInt]
  ·cases hv
 ·simp only[RepV]at rx
  obtain⟨ad,cap,hu,hc,h1,h2,h3⟩:=repD_ints rx
  split at hv
  ·rename_i e hs hd
   split at hv
   ·rename_i he
    replace he:=intT_und he
    cases hv
    refine⟨_,?_,repV_v.2 ⟨rfl,rfl⟩⟩
    rw[hu]
    exact run_str hs he hd hc rfl h3
   ·cases hv
  ·cases hv
 ·rw[repV_v]at rx
  split at hv
  ·rename_i hs hd
   cases hv
   refine⟨_,?_,repV_v.2 ⟨rfl,rfl⟩⟩
   rw[rx.1]
   simp[convert,run_underlying hs,run_underlying hd]
  ·cases hv
 ·rw[repV_v]at rx
  split at hv
  ·rename_i e hs hd
   split at hv
   ·rename_i he
    replace he:=intT_und he
    cases hv
    refine⟨_,?_,repV_v.2 ⟨rfl,rfl⟩⟩
    rw[rx.1]
    exact run_str (l:= []) hs he hd (Cells.nil _ _) rfl (fun _=>rfl)
   ·cases hv
  ·cases hv
 ·cases hv
def flatF(P:Program):Nat→List Field→Option (List Bool)
 |_,[]=>some []
 |i,f::fs=>if f.name≠ "_" ∧f.offset=i∧((intT P f.type).isSome||boolT P f.type)=true then omap (flatF P (i+1) fs) ((intT P f.type).isSome:: ·)else none
def eqT(P:Program)(t:TypeId):Option (List Bool):=
 match P.underlying t with
 |some (.struct fs)=>if P.stoodInHeld t=false∧P.eqGuardType P.depth t=false then flatF P 0 fs.toList else none
 |_=>none
def eqFs:List Bool→List D→List D→Option Bool
 | [],[],[]=>some true
 |true::ks,.v (.int k a)::l,.v (.int k' b)::l'=>if k=k' then omap (eqFs ks l l') (decide (a=b)&& ·)else none
 |false::ks,.v (.bool a)::l,.v (.bool b)::l'=>omap (eqFs ks l l') (decide (a=b)&& ·)
 |_,_,_=>none
def aggA:AV→Option (List D)
 | .d (.agg cs)=>some cs
 | .agg l=>allD l
 |_=>none
def structV(P:Program)(op:BinOp)(t:TypeId)(x y:AV):Option AV:=
 match aggA x,aggA y with
 |some cs,some ds=>match eqT P t with
  |some ks=>obind (eqFs ks cs ds) (cmpB op)
  |none=>none
 |_,_=>none
theorem aggA_rep{w:World}{F:Nat→Prop}{m:Nat→Value}{v:AV}{u:Value}{cs:List D}(h:RepV w F m v u)(hc:aggA v=some cs):RepD w F (.agg cs) u:=by
 unfold aggA at hc
 split at hc
 ·cases hc;simpa only[RepV]using h
 ·simp only[RepV]at h
  obtain⟨us,rfl,h1,h2⟩:=h
  have:=mkAgg_rep h1 h2
  simp only[mkAgg,hc,RepV]at this
  exact this
 ·cases hc
theorem eqFs_run{P:Program}{d:Nat}: ∀ {fs:List Field} {ks:List Bool} {i:Nat} {cs ds:List D} {xs ys:Array Value} {r:Bool} {w:World},flatF P i fs=some ks→eqFs ks cs ds=some r→
  (∀(j:Nat) x,cs[j]? =some (.v x)→xs[i+j]? =some x)→(∀(j:Nat) x,ds[j]? =some (.v x)→ys[i+j]? =some x)→(Op.eqFields (d+1) xs ys fs).run P w= .ok r w
 | [],ks,i,cs,ds,xs,ys,r,w,hk,hr,h1,h2=>by
  simp only[flatF,Option.some.injEq]at hk;subst hk
  unfold eqFs at hr
  split at hr
  ·cases hr;rfl
  ·rename_i heq;cases heq
  ·rename_i heq;cases heq
  ·cases hr
 |f::fs,ks,i,cs,ds,xs,ys,r,w,hk,hr,h1,h2=>by
  simp only[flatF]at hk
  split at hk
  ·rename_i hc
   obtain⟨hn,ho,ht⟩:=hc
   obtain⟨ks',hk',rfl⟩:=Option.map_eq_some_iff.1 hk
   have ag: ∀g,aggT P f.type=some g→g=false→ ∀(zs:Array Value) z,zs[f.offset]? =some z→(part f.type zs f.offset).run P w= .ok z w:=by
    intro g hg hg0 zs z hz
    subst hg0
    unfold part
    simp only[Sem.run_bind,run_isAgg' hg,Result.andThen_ok,Bool.false_eq_true,if_false,hz];rfl
   cases hi:(intT P f.type).isSome with
   |true=>
    rw[hi]at hr
    obtain⟨k0,hk0⟩:=Option.isSome_iff_exists.1 hi
    have hu:=intT_und hk0
    have hag:aggT P f.type=some false:=by unfold aggT;rw[hu];rfl
    unfold eqFs at hr
    split at hr
    ·rename_i heq;cases heq
    ·rename_i ks2 k a l k' b l' heq
     cases heq
     split at hr
     ·rename_i hkk
      subst hkk
      obtain⟨r',hr',rfl⟩:=Option.map_eq_some_iff.1 hr
      have e1:=ag _ hag rfl xs _ (by rw[ho];exact h1 0 _ rfl)
      have e2:=ag _ hag rfl ys _ (by rw[ho];exact h2 0 _ rfl)
      have ih:=eqFs_run (d:=d) (w:=w) hk' hr' (fun j x hj=>by rw[show i+1+j=i+(j+1)by omega];exact h1 (j+1) x (by simpa using hj)) (fun j x hj=>by rw[show i+1+j=i+(j+1)by omega];exact h2 (j+1) x (by simpa using hj))
      simp only[Op.eqFields,if_pos hn,Sem.run_bind,e1,e2,Result.andThen_ok,run_equalIn_int _ d f.type k k0 a b hu]
      by_cases hab:a=b
      ·subst hab;simp[ih]
      ·have:(a==b)=false:=by simpa using hab
       simp[this,hab]
     ·cases hr
    ·rename_i heq;cases heq
    ·cases hr
   |false=>
    rw[hi]at hr
    have hb:boolT P f.type=true:=by simpa[hi]using ht
    have hu:=boolT_und hb
    have hag:aggT P f.type=some false:=by unfold aggT;rw[hu];rfl
    unfold eqFs at hr
    split at hr
    ·rename_i heq;cases heq
    ·rename_i heq;cases heq
    ·rename_i ks2 a l b l' heq
     cases heq
     obtain⟨r',hr',rfl⟩:=Option.map_eq_some_iff.1 hr
     have e1:=ag _ hag rfl xs _ (by rw[ho];exact h1 0 _ rfl)
     have e2:=ag _ hag rfl ys _ (by rw[ho];exact h2 0 _ rfl)
     have ih:=eqFs_run (d:=d) (w:=w) hk' hr' (fun j x hj=>by rw[show i+1+j=i+(j+1)by omega];exact h1 (j+1) x (by simpa using hj)) (fun j x hj=>by rw[show i+1+j=i+(j+1)by omega];exact h2 (j+1) x (by simpa using hj))
     simp only[Op.eqFields,if_pos hn,Sem.run_bind,e1,e2,Result.andThen_ok,run_equalIn_bool' _ d f.type a b hu]
     cases a<;>cases b<;>simp[ih]
    ·cases hr
  ·cases hk
theorem repD_cellsV{w:World}{F:Nat→Prop}{cs:List D}{u:Value}(h:RepD w F (.agg cs) u): ∃xs:Array Value,u= .agg xs∧ ∀(j:Nat) x,cs[j]? =some (.v x)→xs[j]? =some x:=by
 simp only[RepD]at h
 obtain⟨us,rfl,hr⟩:=h
 rw[RepOnes_iff]at hr
 refine⟨us.toArray,rfl,fun j x hj=> ?_⟩
 obtain⟨u,h1,_,h2⟩:=hr.2 j _ hj
 simp only[RepD]at h2
 rw[←h2.1];simpa using h1
theorem structV_sound{P:Program}{F F':Nat→Prop}{m:Nat→Value}{a:Act}{w:World}{o:Oper}{op:BinOp}{t t':TypeId}{x y:Operand}{vx vy v:AV}
  (ho:o.op= .binOp op t x y t')(rx:RepV w F m vx (a.eval x))(ry:RepV w F m vy (a.eval y))(hv:structV P op t vx vy=some v): ∃u,Yld P o a w u∧RepV w F' m v u:=by
 unfold structV at hv
 split at hv
 ·rename_i cs ds hcs hds
  replace rx:=aggA_rep rx hcs
  replace ry:=aggA_rep ry hds
  split at hv
  ·rename_i ks hks
   obtain⟨r,hr,hv⟩:=Option.bind_eq_some_iff.1 hv
   unfold eqT at hks
   split at hks
   ·rename_i fs hu
    split at hks
    ·rename_i hc
     obtain⟨hp,hg⟩:=hc
     obtain⟨xs,hx,ix⟩:=repD_cellsV rx
     obtain⟨ys,hy,iy⟩:=repD_cellsV ry
     have hu':P.underlying t=some (.struct (P.fieldsOf t)):=by simp only[Program.fieldsOf,hu]
     have hfs:P.fieldsOf t=fs:=by simp only[Program.fieldsOf,hu]
     have hrun:(Op.equalIn 10000 t (.agg xs) (.agg ys)).run P w= .ok r w:=by
      rw[show(10000:Nat)=9999+1 from rfl,run_equalIn_struct w 9999 t xs ys hu' hp,hfs]
      exact eqFs_run hks hr (by simpa using ix) (by simpa using iy)
     unfold cmpB at hv
     split at hv
     ·cases hv
      refine⟨.bool r,?_,repV_v.2 ⟨rfl,rfl⟩⟩
      unfold Yld
      simp only[execOp,ho,hx,hy,Sem.run_bind,run_eqGuard_agg _ _ _ _ _ _ _ hg,Result.andThen_ok,run_eql_struct,hrun];rfl
     ·cases hv
      refine⟨.bool (!r),?_,repV_v.2 ⟨rfl,rfl⟩⟩
      unfold Yld
      simp only[execOp,ho,hx,hy,Sem.run_bind,run_eqGuard_agg _ _ _ _ _ _ _ hg,Result.andThen_ok,run_neq_struct,hrun];rfl
     ·cases hv
    ·cases hks
   ·cases hks
  ·cases hv
 ·cases hv
def D.isAgg:D→Bool
 | .agg _=>true
 |_=>false
def D.size:D→Nat
 | .agg cs=>cs.length
 |_=>1
theorem repD_notAgg{w:World}{F:Nat→Prop}{d:D}{u:Value}(h:RepD w F d u)(hd:d.isAgg=false):u.oneCell'=true:=by
 cases d with
 |v x=>simp only[RepD]at h;rw[h.1];exact h.2
 |ints k xs c=>simp only[RepD]at h;obtain⟨a,cap,rfl,_⟩:=h;rfl
 |sl n xs c=>simp only[RepD]at h;obtain⟨a,cap,vals,rfl,_⟩:=h;rfl
 |agg cs=>simp[D.isAgg]at hd
theorem repD_agg{w:World}{F:Nat→Prop}{d:D}{u:Value}(h:RepD w F d u)(hd:d.isAgg=true): ∃us:List Value,u= .agg us.toArray∧us.length=d.size:=by
 cases d with
 |agg cs=>
  simp only[RepD]at h
  obtain⟨us,h1,h2⟩:=h
  exact⟨us,h1,(RepOnes_iff.1 h2).1.symm⟩
 |_=>simp[D.isAgg]at hd
theorem run_load_cell{P:Program}{w:World}{a:Addr}{v:Value}(h:w.cell? a=some v):(load a).run P w= .ok v w:=by simp[load,Sem.run,h]
theorem run_loadVar_d{P:Program}{w:World}{F:Nat→Prop}{d:D}{v:Value}{t:TypeId}{b off:Nat}(hd:RepD w F d v)(hg:aggT P t=some d.isAgg)(hn:d.isAgg=true→szT P t=some d.size)
  (hc: ∀(i:Nat) c,v.cells[i]? =some c→w.cell? ⟨b,off+i,none⟩=some c):(loadVar t ⟨b,off,none⟩).run P w= .ok v w:=by
 unfold loadVar
 simp only[Sem.run_bind,run_isAgg' hg,Result.andThen_ok]
 cases hb:d.isAgg with
 |true=>
  obtain⟨us,rfl,hl⟩:=repD_agg hd hb
  simp only[if_true,Sem.run_bind,run_sizeOf' (hn hb),Result.andThen_ok]
  have:=run_loadCells_list (P:=P) w ⟨b,off,none⟩ us (fun j v hv=>by
   have:=hc j v (by simpa[Value.cells]using hv)
   unfold Addr.add;split
   ·rename_i h0;subst h0;exact this
   ·exact this)
  rw[←hl,this];rfl
 |false=>
  have h1:=repD_notAgg hd hb
  have h2:=hc 0 v (by rw[cells_one h1];rfl)
  simp only[Bool.false_eq_true,if_false]
  exact run_load_cell h2
theorem run_loadVar_vs{P:Program}{w:World}{F:Nat→Prop}{m:Nat→Value}{cs:List AV}{us:List Value}{t:TypeId}{b off:Nat}{g:Bool}(hr:RepVs w F m cs us)(h1: ∀u∈us,u.oneCell'=true)
  (hg:aggT P t=some g)(hn:g=true→szT P t=some us.length)(hn':g=false→us.length=1)
  (hc: ∀(i:Nat) c,us[i]? =some c→w.cell? ⟨b,off+i,none⟩=some c): ∃v,(loadVar t ⟨b,off,none⟩).run P w= .ok v w∧RepV w F m (if g then mkAgg cs else(cs.head?).getD .bot) v:=by
 unfold loadVar
 simp only[Sem.run_bind,run_isAgg' hg,Result.andThen_ok]
 cases g with
 |true=>
  simp only[if_true,Sem.run_bind,run_sizeOf' (hn rfl),Result.andThen_ok]
  have:=run_loadCells_list (P:=P) w ⟨b,off,none⟩ us (fun j v hv=>by
   have:=hc j v hv
   unfold Addr.add;split
   ·rename_i h0;subst h0;exact this
   ·exact this)
  exact⟨_,by rw[this];rfl,mkAgg_rep hr h1⟩
 |false=>
  have hl:=hn' rfl
  obtain⟨u,rfl⟩:=List.length_eq_one_iff.1 hl
  have h2:=hc 0 u rfl
  simp only[Bool.false_eq_true,if_false]
  rw[RepVs_iff]at hr
  obtain⟨v0,rfl⟩:=List.length_eq_one_iff.1 hr.1
  obtain⟨u',h3,h4⟩:=hr.2 0 v0 rfl
  simp at h3;subst h3
  exact⟨u,run_load_cell h2,by simpa using h4⟩
def loadV0(P:Program)(s:St)(t:TypeId):AV→Option AV
 | .ptr κ off=>match gt κ s.hp with
  |some (.box _ cs)=>match aggT P t with
   |some true=>match szT P t with
    |some n=>if off+n≤cs.length then some (mkAgg ((cs.drop off).take n))else none
    |none=>none
   |some false=>cs[off]?
   |none=>none
  |_=>none
 | .pel κ off=>match gt κ s.hp with
  |some (.ints _ k xs _)=>if aggT P t=some false then omap (xs[off]?) fun x=> .d (.v (.int k x))else none
  |some (.row _ n xs _)=>if n≠0∧off % n=0 then match xs[off / n]? with
    |some d=>if aggT P t=some d.isAgg∧szT P t=some d.size∧(d.isAgg=true∨n=1)then some (.d d)else none
    |none=>none else none
  |_=>none
 | .wrap (.at_ i) (.own κ)=>match gt κ s.hp with
  |some (.vrow _ xs)=>if aggT P t=some false then xs[i]? else none
  |_=>none
 | .eaddr d=>if aggT P t=some d.isAgg∧szT P t=some d.size then some (.d d)else none
 |_=>none
theorem ownRow_cell{w:World}{e:TypeId}{size:Nat}{v:Value}{n:Nat}{xs:List Value}(h:OwnRow w e size v n xs){b o l cap:Nat}(hv:v= .slice (some ⟨b,o,none⟩) l cap){i:Nat}{x:Value}(hx:xs[i]? =some x):w.cell? ⟨b,o+i,none⟩=some x:=by
 obtain⟨a,cap',h1,_,_,_,h5⟩:=h.cells
 obtain⟨b',o',h6,_,_,h8⟩:=h5 (by intro e;rw[e]at hx;simp at hx)
 rw[h1]at hv;simp at hv
 obtain⟨hv,_⟩:=hv
 rw[h6]at hv;simp at hv;obtain⟨rfl,rfl⟩:=hv
 exact h8 i x hx
theorem loadV0_sound{P:Program}{c:Ctx}{m:Nat→Value}{s:St}{a:Act}{w:World}(h:SRep c m s a w){o:Oper}{t:TypeId}{x:Operand}{vx v:AV}
  (ho:o.op= .load t x)(hx:s.ev x=some vx)(hv:loadV0 P s t vx=some v): ∃u,Yld P o a w u∧RepV w (Forb c m s.hp) m v u:=by
 have rx:=h.ev hx
 unfold loadV0 at hv
 split at hv
 ·rename_i κ off
  simp only[RepV]at rx
  obtain⟨b,hm,hu⟩:=rx
  split at hv
  ·rename_i e cs hB
   obtain⟨b',cells,h1,h2,h3,h4⟩:=h.heap κ _ hB
   rw[hm]at h1;simp at h1;subst h1
   have hcell: ∀(i:Nat) z,cells.toList[i]? =some z→w.cell? ⟨b,i,none⟩=some z:=fun i z hz=>by
    rw[cell_of_row w b i cells e (0,0) h2];simpa using hz
   have key: ∀(g:Bool) (k:Nat),aggT P t=some g→(g=true→szT P t=some k)→(g=false→k=1)→off+k≤cs.length→ ∃u,Yld P o a w u∧RepV w (Forb c m s.hp) m (if g then mkAgg ((cs.drop off).take k)else(((cs.drop off).take k).head?).getD .bot) u:=by
    intro g k hg hk1 hk2 hle
    have hlen:=(RepVs_iff.1 h3).1
    obtain⟨u,h5,h6⟩:=run_loadVar_vs (P:=P) (t:=t) (b:=b) (off:=off) (g:=g) (RepVs_slice h3 off k) (fun z hz=>h4 z (by
     have:=List.mem_of_mem_drop (List.mem_of_mem_take hz);simpa using this)) hg (fun hgt=>by rw[hk1 hgt,List.length_take,List.length_drop];congr 1;omega) (fun hgf=>by rw[List.length_take,List.length_drop,hk2 hgf];have:=hk2 hgf;omega)
     (fun i z hz=>by
      rw[List.getElem?_take]at hz
      split at hz
      ·rw[List.getElem?_drop]at hz;exact hcell _ z hz
      ·cases hz)
    refine⟨u,?_,h6⟩
    unfold Yld
    simp only[execOp,ho,hu,Instr.loadAt,Instr.sureAddr,Sem.run_bind,Sem.run_pure,Result.andThen_ok,h5]
   split at hv
   ·rename_i hg
    split at hv
    ·rename_i k hk
     split at hv
     ·rename_i hle
      cases hv
      exact key true k hg (fun _=>hk) (by simp) hle
     ·cases hv
    ·cases hv
   ·rename_i hg
    have hlt:off<cs.length:=(List.getElem?_eq_some_iff.1 hv).1
    have:=key false 1 hg (by simp) (fun _=>rfl) (by omega)
    have e2:(List.take 1 (List.drop off cs)).head?=some v:=by
     rw[List.head?_eq_getElem?,List.getElem?_take,if_pos (by decide),List.getElem?_drop];exact hv
    simpa[e2]using this
   ·cases hv
  ·cases hv
 ·rename_i κ off
  simp only[RepV]at rx
  obtain⟨b,o,l,cap,hm,hu⟩:=rx
  split at hv
  ·rename_i e k xs cc hB
   have hown:=(h.heap κ _ hB).1
   split at hv
   ·rename_i hg
    obtain⟨z,hz,rfl⟩:=Option.map_eq_some_iff.1 hv
    have hcell:=ownRow_cell hown hm (i:=off) (x:= .int k z) (by simp[hz])
    refine⟨.int k z,?_,repV_v.2 ⟨rfl,rfl⟩⟩
    have hl:(loadVar t ⟨b,o+off,none⟩).run P w= .ok (.int k z) w:=by
     unfold loadVar
     simp only[Sem.run_bind,run_isAgg' hg,Result.andThen_ok,Bool.false_eq_true,if_false]
     exact run_load_cell hcell
    unfold Yld
    simp only[execOp,ho,hu,Instr.loadAt,Instr.sureAddr,Sem.run_bind,Sem.run_pure,Result.andThen_ok,hl]
   ·cases hv
  ·rename_i e n xs cc hB
   obtain⟨vals,hown,_,hr⟩:=h.heap κ _ hB
   split at hv
   ·rename_i hoff
    split at hv
    ·rename_i d hd
     split at hv
     ·rename_i hg
      cases hv
      obtain⟨hl,hget⟩:=RepRow_get hr
      obtain⟨u,h1,h2,h3⟩:=hget _ d hd
      have e1:off / n*n=off:=by
       have:=Nat.div_add_mod' off n
       omega
      rw[e1]at h3
      refine⟨u,?_,by simpa only[RepV]using h2⟩
      have hl:(loadVar t ⟨b,o+off,none⟩).run P w= .ok u w:=run_loadVar_d (P:=P) h2 hg.1 (fun _=>hg.2.1) fun i z hz=>by rw[Nat.add_assoc];exact ownRow_cell hown hm (h3 i z hz)
      unfold Yld
      simp only[execOp,ho,hu,Instr.loadAt,Instr.sureAddr,Sem.run_bind,Sem.run_pure,Result.andThen_ok,hl]
     ·cases hv
    ·cases hv
   ·cases hv
  ·cases hv
 ·rename_i i κ
  simp only[RepV]at rx
  obtain⟨u0,hu,hu0,_⟩:=rx
  split at hv
  ·rename_i e xs hB
   obtain⟨vals,⟨b,o,cap,hm,h0,hown⟩,hr,_⟩:=h.heap κ _ hB
   split at hv
   ·rename_i hg
    obtain⟨z,hz,hzr⟩:=(RepVs_iff.1 hr).2 i v hv
    have hcell:=ownRow_cell hown rfl hz
    refine⟨z,?_,hzr⟩
    have hl:(loadVar t ⟨b,o+i,none⟩).run P w= .ok z w:=by
     unfold loadVar
     simp only[Sem.run_bind,run_isAgg' hg,Result.andThen_ok,Bool.false_eq_true,if_false]
     exact run_load_cell hcell
    rw[hu0,hm]at hu
    simp only[Wr.val,Option.getD_some]at hu
    unfold Yld
    simp only[execOp,ho,hu,Instr.loadAt,Instr.sureAddr,Sem.run_bind,Sem.run_pure,Result.andThen_ok,hl]
   ·cases hv
  ·cases hv
 ·rename_i d
  simp only[RepV]at rx
  obtain⟨b,off,u,hu,hF,hd,hb,hc⟩:=rx
  split at hv
  ·rename_i hg
   cases hv
   refine⟨u,?_,by simpa only[RepV]using hd⟩
   have hl:=run_loadVar_d (P:=P) (t:=t) (b:=b) (off:=off) hd hg.1 (fun _=>hg.2) hc
   unfold Yld
   simp only[execOp,ho,hu,Instr.loadAt,Instr.sureAddr,Sem.run_bind,Sem.run_pure,Result.andThen_ok,hl]
  ·cases hv
 ·cases hv
def loadF(P:Program)(s:St)(t:TypeId):AV→Option AV
 | .pel κ off=>match gt κ s.hp with
  |some (.row _ n xs _)=>if n≠0 then match xs[off / n]? with
    |some (.agg ds)=>match aggT P t with
     |some true=>match szT P t with
      |some k=>if off % n+k≤ds.length then some (.d (.agg ((ds.drop (off % n)).take k)))else none
      |none=>none
     |some false=>match ds[off % n]? with
      |some d=>if d.isAgg then none else some (.d d)
      |none=>none
     |none=>none
    |_=>none
   else none
  |_=>none
 |_=>none
theorem loadF_sound{P:Program}{c:Ctx}{m:Nat→Value}{s:St}{a:Act}{w:World}(h:SRep c m s a w){o:Oper}{t:TypeId}{x:Operand}{vx v:AV}
  (ho:o.op= .load t x)(hx:s.ev x=some vx)(hv:loadF P s t vx=some v): ∃u,Yld P o a w u∧RepV w (Forb c m s.hp) m v u:=by
 have rx:=h.ev hx
 unfold loadF at hv
 split at hv
 ·rename_i κ off
  simp only[RepV]at rx
  obtain⟨b,o,l,cap,hm,hu⟩:=rx
  split at hv
  ·rename_i e n xs cc hB
   obtain⟨vals,hown,_,hr⟩:=h.heap κ _ hB
   split at hv
   ·rename_i hn0
    split at hv
    ·rename_i ds hd
     obtain⟨hl,hget⟩:=RepRow_get hr
     obtain⟨u,h1,h2,h3⟩:=hget _ _ hd
     simp only[RepD]at h2
     obtain⟨us,rfl,hr2⟩:=h2
     rw[RepOnes_iff]at hr2
     have e1:off / n*n+off % n=off:=Nat.div_add_mod' off n
     have hcell: ∀(j:Nat) z,us[j]? =some z→w.cell? ⟨b,o+(off / n*n+j),none⟩=some z:=fun j z hz=>ownRow_cell hown hm (h3 j z (by simpa[Value.cells]using hz))
     split at hv
     ·rename_i hg
      split at hv
      ·rename_i k hk
       split at hv
       ·rename_i hle
        cases hv
        have hd':RepD w (Forb c m s.hp) (.agg ((ds.drop (off % n)).take k)) (.agg ((us.drop (off % n)).take k).toArray):=by
         simp only[RepD]
         refine⟨_,rfl,RepOnes_iff.2 ⟨by simp[hr2.1],fun j d hj=> ?_⟩⟩
         rw[List.getElem?_take]at hj ⊢
         split at hj
         ·rename_i hlt;rw[if_pos hlt,List.getElem?_drop];rw[List.getElem?_drop]at hj;exact hr2.2 _ d hj
         ·cases hj
        refine⟨_,?_,by simpa only[RepV]using hd'⟩
        have hl:=run_loadVar_d (P:=P) (t:=t) (b:=b) (off:=o+off) hd' (by rw[hg];rfl) (fun _=>by rw[hk];simp only[D.size,List.length_take,List.length_drop];congr 1;omega) (fun j z hz=>by
         have hz':((us.drop (off % n)).take k)[j]? =some z:=by simpa[Value.cells]using hz
         rw[List.getElem?_take]at hz'
         split at hz'
         ·rw[List.getElem?_drop]at hz'
          have:=hcell _ z hz'
          rw[←Nat.add_assoc (off / n*n),e1]at this
          rw[Nat.add_assoc];exact this
         ·cases hz')
        unfold Yld
        simp only[execOp,ho,hu,Instr.loadAt,Instr.sureAddr,Sem.run_bind,Sem.run_pure,Result.andThen_ok,hl]
       ·cases hv
      ·cases hv
     ·rename_i hg
      split at hv
      ·rename_i d hdd
       split at hv
       ·cases hv
       ·rename_i hna
        cases hv
        obtain⟨u,q1,q2,q3⟩:=hr2.2 _ d hdd
        have hna':d.isAgg=false:=by simpa using hna
        refine⟨u,?_,by simpa only[RepV]using q3⟩
        have hl:=run_loadVar_d (P:=P) (t:=t) (b:=b) (off:=o+off) q3 (by rw[hg,hna']) (fun hh=>by rw[hna']at hh;cases hh) (fun j z hz=>by
         rw[cells_one q2]at hz
         have hj:j=0∧z=u:=by
          cases j with
          |zero=>exact⟨rfl,by simpa using hz.symm⟩
          |succ j=>simp at hz
         obtain⟨rfl,rfl⟩:=hj
         have:=hcell _ _ q1
         rw[e1]at this
         exact this)
        unfold Yld
        simp only[execOp,ho,hu,Instr.loadAt,Instr.sureAddr,Sem.run_bind,Sem.run_pure,Result.andThen_ok,hl]
      ·cases hv
     ·cases hv
    ·cases hv
   ·cases hv
  ·cases hv
 ·cases hv
def loadV(P:Program)(s:St)(t:TypeId)(x:AV):Option AV:=match loadV0 P s t x with
 |some v=>some v
 |none=>loadF P s t x
theorem loadV_sound{P:Program}{c:Ctx}{m:Nat→Value}{s:St}{a:Act}{w:World}(h:SRep c m s a w){o:Oper}{t:TypeId}{x:Operand}{vx v:AV}
  (ho:o.op= .load t x)(hx:s.ev x=some vx)(hv:loadV P s t vx=some v): ∃u,Yld P o a w u∧RepV w (Forb c m s.hp) m v u:=by
 unfold loadV at hv
 split at hv
 ·rename_i v' h0;cases hv;exact loadV0_sound h ho hx h0
 ·exact loadF_sound h ho hx hv
def fieldAddrV(P:Program)(t:TypeId)(i:Nat):AV→Option AV
 | .ptr κ off=>omap (fieldT P t i) fun f=> .ptr κ (off+f.1)
 | .pel κ off=>omap (fieldT P t i) fun f=> .pel κ (off+f.1)
 | .eaddr (.agg ds)=>match fieldT P t i with
  |some (o,n,true)=>if o+n≤ds.length then some (.eaddr (.agg ((ds.drop o).take n)))else none
  |some (o,_,false)=>obind (ds[o]?) fun d=>if d.isAgg then none else some (.eaddr d)
  |none=>none
 |_=>none
theorem run_fieldAt{P:Program}{w:World}{t:TypeId}{i o n:Nat}{g:Bool}(h:fieldT P t i=some (o,n,g))(b off:Nat):(Instr.fieldAt t (.pointer (some ⟨b,off,none⟩)) i).run P w= .ok (.pointer (some ⟨b,off+o,none⟩)) w:=by
 obtain⟨fs,f,hu,hf,hn,hg,ho,hne⟩:=fieldT_parts h
 unfold Instr.fieldAt
 simp only[Sem.run_bind,run_underlying hu,Result.andThen_ok,hf,Sem.run_pure,Instr.sureAddr]
 unfold fieldPlace
 simp only[Sem.run_bind,run_sizeOf' hn,Result.andThen_ok,if_neg hne,Sem.run_pure,ho,Addr.add]
 split
 ·rename_i h0;subst h0;rfl
 ·rfl
theorem fieldAddrV_sound{P:Program}{c:Ctx}{m:Nat→Value}{s:St}{a:Act}{w:World}(h:SRep c m s a w){o:Oper}{t:TypeId}{i:Nat}{x:Operand}{vx v:AV}
  (ho:o.op= .fieldAddr t x i)(hx:s.ev x=some vx)(hv:fieldAddrV P t i vx=some v): ∃u,Yld P o a w u∧RepV w (Forb c m s.hp) m v u:=by
 have rx:=h.ev hx
 unfold fieldAddrV at hv
 split at hv
 ·rename_i κ off
  simp only[RepV]at rx
  obtain⟨b,hm,hu⟩:=rx
  obtain⟨⟨fo,n,g⟩,hf,rfl⟩:=Option.map_eq_some_iff.1 hv
  refine⟨_,?_,by simp only[RepV];exact⟨b,hm,rfl⟩⟩
  unfold Yld
  simp only[execOp,ho,hu,Sem.run_bind,run_fieldAt hf,Result.andThen_ok,Sem.run_pure]
 ·rename_i κ off
  simp only[RepV]at rx
  obtain⟨b,o,l,cap,hm,hu⟩:=rx
  obtain⟨⟨fo,n,g⟩,hf,rfl⟩:=Option.map_eq_some_iff.1 hv
  refine⟨.pointer (some ⟨b,o+off+fo,none⟩),?_,by simp only[RepV];exact⟨b,o,l,cap,hm,by rw[Nat.add_assoc]⟩⟩
  unfold Yld
  simp only[execOp,ho,hu,Sem.run_bind,run_fieldAt hf,Result.andThen_ok,Sem.run_pure]
 ·rename_i ds
  simp only[RepV,RepD]at rx
  obtain⟨b,off,u,hu,hF,⟨us,rfl,hr⟩,hb,hc⟩:=rx
  rw[RepOnes_iff]at hr
  split at hv
  ·rename_i fo n hf
   split at hv
   ·rename_i hle
    cases hv
    refine⟨.pointer (some ⟨b,off+fo,none⟩),?_,?_⟩
    ·unfold Yld
     simp only[execOp,ho,hu,Sem.run_bind,run_fieldAt hf,Result.andThen_ok,Sem.run_pure]
    ·simp only[RepV,RepD]
     refine⟨b,off+fo,.agg ((us.drop fo).take n).toArray,rfl,hF,⟨_,rfl,RepOnes_iff.2 ⟨by simp[hr.1],fun j d hj=> ?_⟩⟩,hb,fun j z hz=> ?_⟩
     ·rw[List.getElem?_take]at hj ⊢
      split at hj
      ·rename_i hlt;rw[if_pos hlt,List.getElem?_drop];rw[List.getElem?_drop]at hj;exact hr.2 _ d hj
      ·cases hj
     ·have hz':((us.drop fo).take n)[j]? =some z:=by simpa[Value.cells]using hz
      rw[List.getElem?_take]at hz'
      split at hz'
      ·rw[List.getElem?_drop]at hz'
       have:=hc (fo+j) z (by simpa[Value.cells]using hz')
       rw[Nat.add_assoc];exact this
      ·cases hz'
   ·cases hv
  ·rename_i fo n hf
   obtain⟨d,hd,hv⟩:=Option.bind_eq_some_iff.1 hv
   split at hv
   ·cases hv
   ·rename_i hna
    cases hv
    obtain⟨u,h1,h2,h3⟩:=hr.2 fo d hd
    refine⟨.pointer (some ⟨b,off+fo,none⟩),?_,?_⟩
    ·unfold Yld
     simp only[execOp,ho,hu,Sem.run_bind,run_fieldAt hf,Result.andThen_ok,Sem.run_pure]
    ·simp only[RepV]
     refine⟨b,off+fo,u,rfl,hF,h3,hb,fun j z hz=> ?_⟩
     rw[cells_one h2]at hz
     have hj:j=0:=by
      have:=(Array.getElem?_eq_some_iff.1 hz).1
      simp at this;exact this
     subst hj
     simp at hz;subst hz
     exact hc fo u (by simpa[Value.cells]using h1)
  ·cases hv
 ·cases hv
def fieldV(P:Program)(t:TypeId)(i:Nat)(x:AV):Option AV:=
 match x.fields with
 |some cs=>match fieldT P t i with
  |some (o,n,true)=>if o+n≤cs.length then some (mkAgg ((cs.drop o).take n))else none
  |some (o,_,false)=>cs[o]?
  |none=>none
 |none=>none
theorem fieldV_sound{P:Program}{c:Ctx}{m:Nat→Value}{s:St}{a:Act}{w:World}(h:SRep c m s a w){o:Oper}{t:TypeId}{i:Nat}{x:Operand}{vx v:AV}
  (ho:o.op= .field t x i)(hx:s.ev x=some vx)(hv:fieldV P t i vx=some v): ∃u,Yld P o a w u∧RepV w (Forb c m s.hp) m v u:=by
 have rx:=h.ev hx
 unfold fieldV at hv
 split at hv
 ·rename_i cs hcs
  obtain⟨us,hu,hr,h1⟩:=fields_rep rx hcs
  have hlen:=(RepVs_iff.1 hr).1
  split at hv
  ·rename_i fo n hf
   obtain⟨fs,f,hun,hff,hn,hg,hfo,hne⟩:=fieldT_parts hf
   split at hv
   ·rename_i hle
    cases hv
    refine⟨.agg ((us.drop fo).take n).toArray,?_,mkAgg_rep (RepVs_slice hr fo n) (fun z hz=>h1 z (List.mem_of_mem_drop (List.mem_of_mem_take hz)))⟩
    unfold Yld
    simp only[execOp,ho,hu,Instr.field,Sem.run_bind,run_underlying hun,Result.andThen_ok,hff,asAgg,Sem.run_pure,part,run_isAgg' hg,if_true,run_sizeOf' hn,hfo]
    congr 3
    apply Array.ext'
    simp
   ·cases hv
  ·rename_i fo n hf
   obtain⟨fs,f,hun,hff,hn,hg,hfo,hne⟩:=fieldT_parts hf
   obtain⟨u,h3,h4⟩:=(RepVs_iff.1 hr).2 fo v hv
   refine⟨u,?_,h4⟩
   have h5:us.toArray[fo]? =some u:=by simpa using h3
   unfold Yld
   simp only[execOp,ho,hu,Instr.field,Sem.run_bind,run_underlying hun,Result.andThen_ok,hff,asAgg,Sem.run_pure,part,run_isAgg' hg,Bool.false_eq_true,if_false,hfo,h5]
  ·cases hv
 ·cases hv
theorem addr_add(b off n:Nat):(⟨b,off,none⟩:Addr).add n=⟨b,off+n,none⟩:=by
 unfold Addr.add;split
 ·rename_i h;subst h;rfl
 ·rfl
def indexAddrV(P:Program)(s:St)(t:TypeId)(x:AV)(i:Int):Option AV:=
 if i<0 then none else
 match x with
 | .d (.ints k xs _)=>match elemT P t with
  |some (_,1,_)=>omap (xs[i.toNat]?) fun z=> .eaddr (.v (.int k z))
  |_=>none
 | .d (.sl n xs _)=>match elemT P t with
  |some (_,n',_)=>if n=n' then omap (xs[i.toNat]?) .eaddr else none
  |none=>none
 | .own κ=>match gt κ s.hp with
  |some (.ints _ _ xs _)=>match elemT P t with
   |some (_,1,_)=>if i.toNat<xs.length then some (.pel κ i.toNat)else none
   |_=>none
  |some (.row _ n xs _)=>match elemT P t with
   |some (_,n',_)=>if n=n'∧i.toNat<xs.length then some (.pel κ (i.toNat*n))else none
   |none=>none
  |_=>none
 | .wrap (.sl n) (.own κ)=>match gt κ s.hp with
  |some (.vrow _ _)=>match elemT P t with
   |some (_,1,_)=>if i.toNat<n then some (.wrap (.at_ i.toNat) (.own κ))else none
   |_=>none
  |_=>none
 | .ptr κ off=>match arrT P t with
  |some (l,_,n,_)=>if i.toNat<l then some (.ptr κ (off+i.toNat*n))else none
  |none=>none
 | .eaddr (.agg ds)=>match arrT P t with
  |some (l,_,1,false)=>if i.toNat<l then obind (ds[i.toNat]?) fun d=>if d.isAgg then none else some (.eaddr d)else none
  |_=>none
 |_=>none
theorem run_indexAt_slice{P:Program}{w:World}{t e n:Nat}{g:Bool}(h:elemT P t=some (e,n,g)){b off len cap:Nat}{k:IntKind}{i:Int}(h0:0≤i)(h1:i<len):
  (Instr.indexAt t (.slice (some ⟨b,off,none⟩) len cap) (.int k i)).run P w= .ok (.pointer (some ⟨b,off+i.toNat*n,none⟩)) w:=by
 obtain⟨hu,hn,hg,hne⟩:=elemT_parts h
 unfold Instr.indexAt
 simp only[asIntOf,Sem.run_bind,Sem.run_pure,Result.andThen_ok,run_underlying hu]
 simp only[h0,h1,and_self,if_true,Sem.run_bind,run_sizeOf' hn,Result.andThen_ok,Sem.run_pure,addr_add]
theorem run_indexAt_array{P:Program}{w:World}{t l e n:Nat}{g:Bool}(h:arrT P t=some (l,e,n,g)){b off:Nat}{k:IntKind}{i:Int}(h0:0≤i)(h1:i<l):
  (Instr.indexAt t (.pointer (some ⟨b,off,none⟩)) (.int k i)).run P w= .ok (.pointer (some ⟨b,off+i.toNat*n,none⟩)) w:=by
 obtain⟨hu,hn,hg,hne⟩:=arrT_parts h
 unfold Instr.indexAt
 simp only[asIntOf,Sem.run_bind,Sem.run_pure,Result.andThen_ok,run_underlying hu,Instr.sureAddr]
 simp only[h0,h1,and_self,if_true,Sem.run_bind,run_sizeOf' hn,Result.andThen_ok,Sem.run_pure,addr_add]
theorem indexAddrV_sound{P:Program}{c:Ctx}{m:Nat→Value}{s:St}{a:Act}{w:World}(h:SRep c m s a w){o:Oper}{t:TypeId}{x y:Operand}{vx v:AV}{k:IntKind}{i:Int}
  (ho:o.op= .indexAddr t x y)(hx:s.ev x=some vx)(hy:s.ev y=some (.d (.v (.int k i))))(hv:indexAddrV P s t vx i=some v): ∃u,Yld P o a w u∧RepV w (Forb c m s.hp) m v u:=by
 have rx:=h.ev hx
 have ry:=repV_v.1 (h.ev hy)
 unfold indexAddrV at hv
 split at hv
 ·cases hv
 ·rename_i hi0
  have h0:0≤i:=by omega
  have hin:(i.toNat:Int)=i:=Int.toNat_of_nonneg h0
  split at hv
  ·rename_i k' xs cc
   simp only[RepV,RepD]at rx
   obtain⟨ad,cap,hu,h1,h2,h3,_,h4⟩:=rx
   split at hv
   ·rename_i e g he
    obtain⟨z,hz,rfl⟩:=Option.map_eq_some_iff.1 hv
    have hlt:i.toNat<xs.length:=(List.getElem?_eq_some_iff.1 hz).1
    obtain⟨b,off,rfl,hF,hc⟩:=h4 (by intro e;rw[e]at hlt;simp at hlt)
    refine⟨.pointer (some ⟨b,off+i.toNat*1,none⟩),?_,?_⟩
    ·unfold Yld
     simp only[execOp,ho,hu,ry.1,Sem.run_bind,run_indexAt_slice he h0 (by omega:i<(xs.length:Int)),Result.andThen_ok,Sem.run_pure]
    ·simp only[RepV,RepD,Nat.mul_one]
     refine⟨b,off+i.toNat,.int k' z,rfl,hF,⟨rfl,rfl⟩,cell_lt (hc _ z hz),fun j zz hj=> ?_⟩
     cases j with
     |zero=>simp[Value.cells]at hj;subst hj;exact hc _ z hz
     |succ j=>simp[Value.cells]at hj
   ·cases hv
  ·rename_i n xs cc
   simp only[RepV,RepD]at rx
   obtain⟨ad,cap,vals,hu,h1,h2,h3,_,hr,h4⟩:=rx
   split at hv
   ·rename_i e n' g he
    split at hv
    ·rename_i hnn
     subst hnn
     obtain⟨d,hd,rfl⟩:=Option.map_eq_some_iff.1 hv
     have hlt:i.toNat<xs.length:=(List.getElem?_eq_some_iff.1 hd).1
     obtain⟨hl,hget⟩:=RepRow_get hr
     obtain⟨u,hu1,hu2,hu3⟩:=hget _ d hd
     have hn0:=(elemT_parts he).2.2.2
     have hne:vals≠ []:=by
      intro e
      rw[e]at hl
      rcases Nat.mul_eq_zero.1 hl.symm with hl|hl
      ·rw[hl]at hlt;simp at hlt
      ·exact hn0 hl
     obtain⟨b,off,rfl,hF,hc⟩:=h4 hne
     refine⟨.pointer (some ⟨b,off+i.toNat*n,none⟩),?_,?_⟩
     ·unfold Yld
      simp only[execOp,ho,hu,ry.1,Sem.run_bind,run_indexAt_slice he h0 (by omega:i<(xs.length:Int)),Result.andThen_ok,Sem.run_pure]
     ·simp only[RepV]
      have hb:b<w.heap.size:=by
       cases vals with
       |nil=>exact absurd rfl hne
       |cons z l=>exact cell_lt (hc 0 z rfl)
      refine⟨b,off+i.toNat*n,u,rfl,hF,hu2,hb,fun j zz hj=> ?_⟩
      have:=hc _ zz (hu3 j zz hj)
      rw[Nat.add_assoc];exact this
    ·cases hv
   ·cases hv
  ·rename_i κ
   simp only[RepV]at rx
   split at hv
   ·rename_i e' k' xs cc hB
    split at hv
    ·rename_i e g he
     split at hv
     ·rename_i hlt
      cases hv
      obtain⟨ad,cap,h1,h2,h3,h4,h5⟩:=(h.heap κ _ hB).1.cells
      obtain⟨b,o,rfl,_,_,_⟩:=h5 (by intro e;have:=congrArg List.length e;simp at this;rw[this]at hlt;simp at hlt)
      refine⟨.pointer (some ⟨b,o+i.toNat*1,none⟩),?_,?_⟩
      ·unfold Yld
       simp only[execOp,ho,rx.1,h1,ry.1,Sem.run_bind,run_indexAt_slice he h0 (by omega:i<(xs.length:Int)),Result.andThen_ok,Sem.run_pure]
      ·simp only[RepV,Nat.mul_one];exact⟨b,o,_,_,h1,rfl⟩
     ·cases hv
    ·cases hv
   ·rename_i e' n xs cc hB
    split at hv
    ·rename_i e n' g he
     split at hv
     ·rename_i hlt
      obtain⟨rfl,hlt⟩:=hlt
      cases hv
      obtain⟨vals,hown,_,hr⟩:=h.heap κ _ hB
      obtain⟨ad,cap,h1,h2,h3,h4,h5⟩:=hown.cells
      have hn0:=(elemT_parts he).2.2.2
      obtain⟨b,o,rfl,_,_,_⟩:=h5 (by
       intro e
       have hl:=hown.1
       rw[e]at hl
       rcases Nat.mul_eq_zero.1 hl.symm with hl|hl
       ·rw[hl]at hlt;simp at hlt
       ·exact hn0 hl)
      refine⟨.pointer (some ⟨b,o+i.toNat*n,none⟩),?_,?_⟩
      ·unfold Yld
       simp only[execOp,ho,rx.1,h1,ry.1,Sem.run_bind,run_indexAt_slice he h0 (by omega:i<(xs.length:Int)),Result.andThen_ok,Sem.run_pure]
      ·simp only[RepV];exact⟨b,o,_,_,h1,rfl⟩
     ·cases hv
    ·cases hv
   ·cases hv
  ·rename_i n κ
   simp only[RepV]at rx
   obtain⟨u0,hu,hu0,hone⟩:=rx
   split at hv
   ·rename_i e' xs hB
    split at hv
    ·rename_i e g he
     split at hv
     ·rename_i hlt
      cases hv
      obtain⟨vals,⟨b,o,cap,hm,hc0,hown⟩,hr,_⟩:=h.heap κ _ hB
      rw[hu0,hm]at hu
      simp only[Wr.val,Option.getD_some]at hu
      refine⟨.pointer (some ⟨b,o+i.toNat*1,none⟩),?_,?_⟩
      ·unfold Yld
       simp only[execOp,ho,hu,ry.1,Sem.run_bind,run_indexAt_slice he h0 (by omega:i<(n:Int)),Result.andThen_ok,Sem.run_pure]
      ·simp only[RepV,Nat.mul_one];exact⟨u0,by rw[hu0,hm];rfl,hu0,hone⟩
     ·cases hv
    ·cases hv
   ·cases hv
  ·rename_i κ off
   simp only[RepV]at rx
   obtain⟨b,hm,hu⟩:=rx
   split at hv
   ·rename_i l e n g he
    split at hv
    ·rename_i hlt
     cases hv
     refine⟨.pointer (some ⟨b,off+i.toNat*n,none⟩),?_,by simp only[RepV];exact⟨b,hm,rfl⟩⟩
     unfold Yld
     simp only[execOp,ho,hu,ry.1,Sem.run_bind,run_indexAt_array he h0 (by omega:i<(l:Int)),Result.andThen_ok,Sem.run_pure]
    ·cases hv
   ·cases hv
  ·rename_i ds
   simp only[RepV,RepD]at rx
   obtain⟨b,off,u,hu,hF,⟨us,rfl,hr⟩,hb,hc⟩:=rx
   rw[RepOnes_iff]at hr
   split at hv
   ·rename_i l e he
    split at hv
    ·rename_i hlt
     obtain⟨d,hd,hv⟩:=Option.bind_eq_some_iff.1 hv
     split at hv
     ·cases hv
     ·cases hv
      obtain⟨u,h1,h2,h3⟩:=hr.2 _ d hd
      refine⟨.pointer (some ⟨b,off+i.toNat*1,none⟩),?_,?_⟩
      ·unfold Yld
       simp only[execOp,ho,hu,ry.1,Sem.run_bind,run_indexAt_array he h0 (by omega:i<(l:Int)),Result.andThen_ok,Sem.run_pure]
      ·simp only[RepV,Nat.mul_one]
       refine⟨b,off+i.toNat,u,rfl,hF,h3,hb,fun j z hz=> ?_⟩
       rw[cells_one h2]at hz
       have hj:j=0:=by
        have:=(Array.getElem?_eq_some_iff.1 hz).1
        simp at this;exact this
       subst hj
       simp at hz;subst hz
       exact hc i.toNat u (by simpa[Value.cells]using h1)
    ·cases hv
   ·cases hv
  ·cases hv
def indexV(P:Program)(t:TypeId)(x:AV)(i:Int):Option AV:=
 if i<0 then none else
 match x with
 | .d (.v (.string s))=>match P.underlying t with
  |some .string=>omap (s[i.toNat]?) fun b=> .d (.v (.int .u8 b.toNat))
  |_=>none
 |x=>match x.fields with
  |some cs=>match arrT P t with
   |some (l,_,n,true)=>if i.toNat<l∧i.toNat*n+n≤cs.length then some (mkAgg ((cs.drop (i.toNat*n)).take n))else none
   |some (l,_,n,false)=>if i.toNat<l then cs[i.toNat*n]? else none
   |none=>none
  |none=>none
theorem indexV_sound{P:Program}{c:Ctx}{m:Nat→Value}{s:St}{a:Act}{w:World}(h:SRep c m s a w){o:Oper}{t:TypeId}{x y:Operand}{vx v:AV}{k:IntKind}{i:Int}
  (ho:o.op= .index t x y)(hx:s.ev x=some vx)(hy:s.ev y=some (.d (.v (.int k i))))(hv:indexV P t vx i=some v): ∃u,Yld P o a w u∧RepV w (Forb c m s.hp) m v u:=by
 have rx:=h.ev hx
 have ry:=repV_v.1 (h.ev hy)
 unfold indexV at hv
 split at hv
 ·cases hv
 ·rename_i hi0
  have h0:0≤i:=by omega
  split at hv
  ·rename_i str
   rw[repV_v]at rx
   split at hv
   ·rename_i hu
    obtain⟨b,hb,rfl⟩:=Option.map_eq_some_iff.1 hv
    refine⟨_,?_,repV_v.2 ⟨rfl,rfl⟩⟩
    unfold Yld
    simp only[execOp,ho,rx.1,ry.1,Instr.index,asIntOf,Sem.run_bind,Sem.run_pure,Result.andThen_ok,run_underlying hu,h0,if_true,hb]
   ·cases hv
  ·split at hv
   ·rename_i cs hcs
    obtain⟨us,hu,hr,h1⟩:=fields_rep rx hcs
    split at hv
    ·rename_i l e n he
     obtain⟨hun,hn,hg,hne⟩:=arrT_parts he
     split at hv
     ·rename_i hle
      cases hv
      have hil:i<(l:Int):=by omega
      refine⟨.agg ((us.drop (i.toNat*n)).take n).toArray,?_,mkAgg_rep (RepVs_slice hr _ n) (fun z hz=>h1 z (List.mem_of_mem_drop (List.mem_of_mem_take hz)))⟩
      unfold Yld
      simp only[execOp,ho,hu,ry.1,Instr.index,asIntOf,Sem.run_bind,Sem.run_pure,Result.andThen_ok,run_underlying hun,h0,hil,and_self,if_true,run_sizeOf' hn,part,run_isAgg' hg]
      congr 3
      apply Array.ext'
      simp
     ·cases hv
    ·rename_i l e n he
     obtain⟨hun,hn,hg,hne⟩:=arrT_parts he
     split at hv
     ·rename_i hlt
      obtain⟨u,h3,h4⟩:=(RepVs_iff.1 hr).2 _ v hv
      have hil:i<(l:Int):=by omega
      refine⟨u,?_,h4⟩
      have h5:us.toArray[i.toNat*n]? =some u:=by simpa using h3
      unfold Yld
      simp only[execOp,ho,hu,ry.1,Instr.index,asIntOf,Sem.run_bind,Sem.run_pure,Result.andThen_ok,run_underlying hun,h0,hil,and_self,if_true,run_sizeOf' hn,part,run_isAgg' hg,Bool.false_eq_true,if_false,h5]
     ·cases hv
    ·cases hv
   ·cases hv
def lenV(P:Program)(s:St)(t:TypeId):AV→Option Int
 | .d (.ints _ xs _)=>if(elemT P t).isSome then some xs.length else none
 | .d (.sl _ xs _)=>if(elemT P t).isSome then some xs.length else none
 | .d (.v (.slice none 0 0))=>if(elemT P t).isSome then some 0 else none
 | .d (.v (.string x))=>match P.underlying t with|some .string=>some x.size|_=>none
 | .own κ=>if(elemT P t).isSome then match gt κ s.hp with
  |some (.ints _ _ xs _)=>some xs.length
  |some (.row _ _ xs _)=>some xs.length
  |_=>none else none
 | .wrap (.sl n) (.own κ)=>if(elemT P t).isSome then match gt κ s.hp with
  |some (.vrow _ _)=>some n
  |_=>none else none
 |_=>none
def capV(P:Program)(s:St)(t:TypeId):AV→Option Int
 | .d (.ints _ xs (some c))=>if(elemT P t).isSome then some c else none
 | .d (.sl _ xs (some c))=>if(elemT P t).isSome then some c else none
 | .d (.v (.slice none 0 0))=>if(elemT P t).isSome then some 0 else none
 | .own κ=>if(elemT P t).isSome then match gt κ s.hp with
  |some (.ints _ _ xs (some c))=>some c
  |some (.row _ _ xs (some c))=>some c
  |_=>none else none
 |_=>none
theorem elemT_some{P:Program}{t:TypeId}(h:(elemT P t).isSome=true): ∃e,P.underlying t=some (.slice e):=by
 obtain⟨⟨e,n,g⟩,he⟩:=Option.isSome_iff_exists.1 h
 exact⟨e,(elemT_parts he).1⟩
theorem run_len_slice{P:Program}{w:World}{t e ty:TypeId}(hu:P.underlying t=some (.slice e))(a:Option Addr)(n cap:Nat):(Builtin.len_ #[t] ty #[.slice a n cap]).run P w= .ok (.int .i64 n) w:=by
 simp[Builtin.len_,run_underlying hu,goInt]
theorem run_cap_slice{P:Program}{w:World}{t e ty:TypeId}(hu:P.underlying t=some (.slice e))(a:Option Addr)(n cap:Nat):(Builtin.cap_ #[t] ty #[.slice a n cap]).run P w= .ok (.int .i64 cap) w:=by
 simp[Builtin.cap_,run_underlying hu,goInt]
theorem run_len_string{P:Program}{w:World}{t ty:TypeId}(hu:P.underlying t=some .string)(x:ByteArray):(Builtin.len_ #[t] ty #[.string x]).run P w= .ok (.int .i64 x.size) w:=by
 simp[Builtin.len_,run_underlying hu,goInt]
theorem lenV_sound{P:Program}{c:Ctx}{m:Nat→Value}{s:St}{a:Act}{w:World}(h:SRep c m s a w){o:Oper}{t:TypeId}{x:Operand}{vx:AV}{n:Int}
  (ho:o.op= .call {callee:= .builtin .len,args:= #[x],argTypes:= #[t]})(hx:s.ev x=some vx)(hv:lenV P s t vx=some n):Yld P o a w (.int .i64 n):=by
 have rx:=h.ev hx
 have key: ∀u,a.eval x=u→(Builtin.len_ #[t] o.type #[u]).run P w= .ok (.int .i64 n) w→Yld P o a w (.int .i64 n):=by
  intro u hu hr
  unfold Yld
  simp only[execOp,ho,resolve,invoke,builtin,Sem.run_bind,Sem.run_pure,Result.andThen_ok,List.map_toArray,List.map_cons,List.map_nil,hu,hr]
 unfold lenV at hv
 split at hv
 ·simp only[RepV,RepD]at rx
  obtain⟨ad,cap,hu,_⟩:=rx
  split at hv
  ·rename_i he;obtain⟨e,he⟩:=elemT_some he
   cases hv;exact key _ hu (run_len_slice he _ _ _)
  ·cases hv
 ·simp only[RepV,RepD]at rx
  obtain⟨ad,cap,vals,hu,_⟩:=rx
  split at hv
  ·rename_i he;obtain⟨e,he⟩:=elemT_some he
   cases hv;exact key _ hu (run_len_slice he _ _ _)
  ·cases hv
 ·split at hv
  ·rename_i he;obtain⟨e,he⟩:=elemT_some he
   cases hv;exact key _ (repV_v.1 rx).1 (run_len_slice he _ _ _)
  ·cases hv
 ·split at hv
  ·rename_i hu
   cases hv;exact key _ (repV_v.1 rx).1 (run_len_string hu _)
  ·cases hv
 ·simp only[RepV]at rx
  split at hv
  ·rename_i he;obtain⟨e,he⟩:=elemT_some he
   split at hv
   ·rename_i hB
    cases hv
    obtain⟨ad,cap,h1,_⟩:=(h.heap _ _ hB).1.cells
    exact key _ (rx.1.trans h1) (run_len_slice he _ _ _)
   ·rename_i hB
    cases hv
    obtain⟨vals,hown,_⟩:=h.heap _ _ hB
    obtain⟨ad,cap,h1,_⟩:=hown.cells
    exact key _ (rx.1.trans h1) (run_len_slice he _ _ _)
   ·cases hv
  ·cases hv
 ·rename_i n κ
  simp only[RepV]at rx
  obtain⟨u0,hu,hu0,_⟩:=rx
  split at hv
  ·rename_i he;obtain⟨e,he⟩:=elemT_some he
   split at hv
   ·rename_i e' xs hB
    cases hv
    obtain⟨vals,⟨b,o,cap,hm,hc0,hown⟩,hr,_⟩:=h.heap _ _ hB
    rw[hu0,hm]at hu
    simp only[Wr.val,Option.getD_some]at hu
    exact key _ hu (run_len_slice he _ _ _)
   ·cases hv
  ·cases hv
 ·cases hv
theorem capV_sound{P:Program}{c:Ctx}{m:Nat→Value}{s:St}{a:Act}{w:World}(h:SRep c m s a w){o:Oper}{t:TypeId}{x:Operand}{vx:AV}{n:Int}
  (ho:o.op= .call {callee:= .builtin .cap,args:= #[x],argTypes:= #[t]})(hx:s.ev x=some vx)(hv:capV P s t vx=some n):Yld P o a w (.int .i64 n):=by
 have rx:=h.ev hx
 have key: ∀u,a.eval x=u→(Builtin.cap_ #[t] o.type #[u]).run P w= .ok (.int .i64 n) w→Yld P o a w (.int .i64 n):=by
  intro u hu hr
  unfold Yld
  simp only[execOp,ho,resolve,invoke,builtin,Sem.run_bind,Sem.run_pure,Result.andThen_ok,List.map_toArray,List.map_cons,List.map_nil,hu,hr]
 unfold capV at hv
 split at hv
 ·simp only[RepV,RepD]at rx
  obtain⟨ad,cap,hu,_,_,_,hc,_⟩:=rx
  split at hv
  ·rename_i he;obtain⟨e,he⟩:=elemT_some he
   cases hv
   have:=hc _ rfl;subst this
   exact key _ hu (run_cap_slice he _ _ _)
  ·cases hv
 ·simp only[RepV,RepD]at rx
  obtain⟨ad,cap,vals,hu,_,_,_,hc,_⟩:=rx
  split at hv
  ·rename_i he;obtain⟨e,he⟩:=elemT_some he
   cases hv
   have:=hc _ rfl;subst this
   exact key _ hu (run_cap_slice he _ _ _)
  ·cases hv
 ·split at hv
  ·rename_i he;obtain⟨e,he⟩:=elemT_some he
   cases hv;exact key _ (repV_v.1 rx).1 (run_cap_slice he _ _ _)
  ·cases hv
 ·simp only[RepV]at rx
  split at hv
  ·rename_i he;obtain⟨e,he⟩:=elemT_some he
   split at hv
   ·rename_i hB
    cases hv
    obtain⟨ad,l,h1⟩:=(h.heap _ _ hB).2 _ rfl
    exact key _ (rx.1.trans h1) (run_cap_slice he _ _ _)
   ·rename_i hB
    cases hv
    obtain⟨vals,hown,hcap,_⟩:=h.heap _ _ hB
    obtain⟨ad,l,h1⟩:=hcap _ rfl
    exact key _ (rx.1.trans h1) (run_cap_slice he _ _ _)
   ·cases hv
  ·cases hv
 ·cases hv
structure Cut3 where
 l:Nat
 h:Nat
 m:Option Nat
def cutB(n:Nat)(lo hi mx:Option Int):Option Cut3:=
 let h:=(hi.getD n).toNat
 let l:=(lo.getD 0).toNat
 if 0≤hi.getD n∧0≤lo.getD 0∧l≤h∧h≤n then
  match mx with
  |none=>some ⟨l,h,none⟩
  |some m=>if 0≤m∧h≤m.toNat∧m.toNat≤n∧hi.isSome then some ⟨l,h,some m.toNat⟩else none
 else none
def capC(c:Option Nat)(b:Cut3):Option Nat:=
 match b.m with
 |some m=>some (m - b.l)
 |none=>c.map (· - b.l)
def intsOf(k:IntKind):List D→Option (List Int)
 | []=>some []
 | .v (.int k' x)::l=>if k=k' then omap (intsOf k l) (x:: ·)else none
 |_::_=>none
theorem intsOf_cells{w:World}{F:Nat→Prop}{k:IntKind}: ∀ {ds:List D} {xs:List Int} {us:List Value},intsOf k ds=some xs→RepRow w F (fun v=>v.oneCell'=true) ds us→us=xs.map (.int k)
 | [],xs,us,h,hr=>by
  simp only[intsOf,Option.some.injEq]at h;subst h
  simp only[RepRow]at hr;subst hr;rfl
 |d::ds,xs,us,h,hr=>by
  unfold intsOf at h
  split at h
  ·rename_i heq;cases heq
  ·rename_i k' x l heq
   cases heq
   split at h
   ·rename_i hk
    subst hk
    obtain⟨r,hr1,rfl⟩:=Option.map_eq_some_iff.1 h
    simp only[RepRow,RepD]at hr
    obtain⟨v,rest,rfl,_,⟨rfl,_⟩,h3⟩:=hr
    rw[intsOf_cells hr1 h3]
    simp[Value.cells]
   ·cases h
  ·cases h
def sliceV(P:Program)(t:TypeId)(x:AV)(lo hi mx:Option Int):Option AV:=
 match x with
 | .d (.ints k xs c)=>match elemT P t with
  |some (_,1,_)=>omap (cutB xs.length lo hi mx) fun b=> .d (.ints k ((xs.take b.h).drop b.l) (capC c b))
  |_=>none
 | .d (.sl n xs c)=>match elemT P t with
  |some (_,n',_)=>if n=n' then omap (cutB xs.length lo hi mx) fun b=> .d (.sl n ((xs.take b.h).drop b.l) (capC c b))else none
  |none=>none
 | .d (.v (.slice none 0 0))=>match elemT P t with
  |some _=>omap (cutB 0 lo hi mx) fun _=> .d (.v (.slice none 0 0))
  |none=>none
 | .d (.v (.string s))=>match P.underlying t with
  |some .string=>if mx.isSome then none else omap (cutB s.size lo hi none) fun b=> .d (.v (.string (s.extract b.l b.h)))
  |_=>none
 | .eaddr (.agg ds)=>match arrT P t with
  |some (l,e,1,_)=>match intT P e with
   |some k=>match intsOf k ds with
    |some xs=>if xs.length=l∧l≤1000000 then omap (cutB l lo hi mx) fun b=> .d (.ints k ((xs.take b.h).drop b.l) (capC (some l) b))else none
    |none=>none
   |none=>none
  |_=>none
 |_=>none
def opI:Option Int→Option Value→Prop
 |none,none=>True
 |some i,some v=> ∃k,v= .int k i
 |_,_=>False
theorem run_sliceBound{P:Program}{w:World}{k:IntKind}{i:Int}{y:Nat}{code:BoundsCode}(h0:0≤i)(h1:i.toNat≤y):(Instr.sliceBound (.int k i) y code).run P w= .ok i.toNat w:=by
 have:i≤(y:Int):=by omega
 simp[Instr.sliceBound,asIntOf,h0,this]
theorem run_sliceBounds{P:Program}{w:World}{b:Bool}{n cap:Nat}{lo hi mx:Option Int}{vl vh vm:Option Value}{r:Cut3}(hl:opI lo vl)(hh:opI hi vh)(hm:opI mx vm)(hb:cutB n lo hi mx=some r)(hc:n≤cap):
  (Instr.sliceBounds b n cap vl vh vm).run P w= .ok (r.l,r.h,r.m.getD cap) w∧r.l≤r.h∧r.h≤n∧ ∀m,r.m=some m→r.h≤m∧m≤n:=by
 unfold cutB at hb
 simp only at hb
 split at hb
 ·rename_i hcond
  obtain⟨h1,h2,h3,h4⟩:=hcond
  cases mx with
  |none=>
   cases vm with
   |some v=>exact hm.elim
   |none=>
    simp only[Option.some.injEq]at hb;subst hb
    refine⟨?_,h3,h4,by simp⟩
    cases hi with
    |none=>
     cases vh with
     |some v=>exact hh.elim
     |none=>
      cases lo with
      |none=>
       cases vl with
       |some v=>exact hl.elim
       |none=>simp[Instr.sliceBounds]
      |some l=>
       cases vl with
       |none=>exact hl.elim
       |some v=>
        obtain⟨k,rfl⟩:=hl
        simp only[Option.getD_some,Option.getD_none]at h1 h2 h3 h4 ⊢
        simp only[Instr.sliceBounds,Sem.run_bind,Sem.run_pure,Result.andThen_ok]
        rw[run_sliceBound h2 (by simpa using h3)];simp
    |some h=>
     cases vh with
     |none=>exact hh.elim
     |some v=>
      obtain⟨k,rfl⟩:=hh
      simp only[Option.getD_some,Option.getD_none]at h1 h2 h3 h4 ⊢
      cases lo with
      |none=>
       cases vl with
       |some v=>exact hl.elim
       |none=>
        simp only[Instr.sliceBounds,Sem.run_bind,Sem.run_pure,Result.andThen_ok]
        rw[run_sliceBound h1 (by omega)];simp
      |some l=>
       cases vl with
       |none=>exact hl.elim
       |some v=>
        obtain⟨k',rfl⟩:=hl
        simp only[Option.getD_some]at h2 h3 ⊢
        simp only[Instr.sliceBounds,Sem.run_bind,Sem.run_pure,Result.andThen_ok]
        rw[run_sliceBound h1 (by omega)]
        simp only[Result.andThen_ok]
        rw[run_sliceBound h2 h3];simp
  |some m=>
   cases vm with
   |none=>exact hm.elim
   |some v=>
    obtain⟨km,rfl⟩:=hm
    simp only at hb
    split at hb
    ·rename_i hcm
     obtain⟨h5,h6,h7,h8⟩:=hcm
     simp only[Option.some.injEq]at hb;subst hb
     refine⟨?_,h3,h4,by simp;omega⟩
     cases hi with
     |none=>simp at h8
     |some h=>
      cases vh with
      |none=>exact hh.elim
      |some v=>
       obtain⟨k,rfl⟩:=hh
       simp only[Option.getD_some]at h1 h2 h3 h4 h6 ⊢
       cases lo with
       |none=>
        cases vl with
        |some v=>exact hl.elim
        |none=>
         simp only[Instr.sliceBounds,Sem.run_bind,Sem.run_pure,Result.andThen_ok]
         rw[run_sliceBound h5 (by omega)]
         simp only[Result.andThen_ok]
         rw[run_sliceBound h1 h6];simp
       |some l=>
        cases vl with
        |none=>exact hl.elim
        |some v=>
         obtain⟨k',rfl⟩:=hl
         simp only[Option.getD_some]at h2 h3 ⊢
         simp only[Instr.sliceBounds,Sem.run_bind,Sem.run_pure]
         rw[run_sliceBound h5 (by omega)]
         simp only[Result.andThen_ok]
         rw[run_sliceBound h1 h6]
         simp only[Result.andThen_ok]
         rw[run_sliceBound h2 h3];simp
    ·cases hb
 ·cases hb
theorem run_slice_slice{P:Program}{w:World}{t e n:Nat}{g:Bool}(he:elemT P t=some (e,n,g)){a:Option Addr}{len cap:Nat}{lo hi mx:Option Int}{vl vh vm:Option Value}{r:Cut3}(hl:opI lo vl)(hh:opI hi vh)(hm:opI mx vm)(hb:cutB len lo hi mx=some r)(hc:len≤cap):
  (Instr.sliceAt t (.slice a len cap) vl vh vm).run P w= .ok (.slice (if r.m.getD cap=r.l then a else a.map (·.add (r.l*n))) (r.h - r.l) (r.m.getD cap - r.l)) w:=by
 obtain⟨hu,hn,hg,hne⟩:=elemT_parts he
 have hs:=(run_sliceBounds (P:=P) (w:=w) (b:=true) hl hh hm hb hc).1
 unfold Instr.sliceAt Instr.slice
 simp only[Sem.run_bind,run_underlying hu,Result.andThen_ok,hs,run_sizeOf' hn,Sem.run_pure]
theorem RepRow_slice{w:World}{F:Nat→Prop}{n:Nat}: ∀ {ds:List D} {vals:List Value} (i k:Nat),RepRow w F (fun v=>v.cells.size=n) ds vals→RepRow w F (fun v=>v.cells.size=n) ((ds.take k).drop i) ((vals.take (k*n)).drop (i*n))
 |ds,vals,i,0,h=>by simp[RepRow]
 | [],vals,i,k+1,h=>by
  simp only[RepRow]at h;subst h;simp[RepRow]
 |d::ds,vals,i,k+1,h=>by
  simp only[RepRow]at h
  obtain⟨v,rest,rfl,h0,h1,h2⟩:=h
  have hl:v.cells.toList.length=n:=by simpa using h0
  have e1:(v.cells.toList++rest).take ((k+1)*n)=v.cells.toList++rest.take (k*n):=by
   rw[List.take_append,hl,List.take_of_length_le (by rw[hl,Nat.add_mul];omega)]
   congr 1
   rw[Nat.add_mul];simp
  rw[e1]
  cases i with
  |zero=>
   simp only[List.drop_zero,Nat.zero_mul,List.take_succ_cons]
   simp only[RepRow]
   refine⟨v,_,rfl,h0,h1,?_⟩
   simpa using RepRow_slice 0 k h2
  |succ i=>
   have e2:(v.cells.toList++rest.take (k*n)).drop ((i+1)*n)=(rest.take (k*n)).drop (i*n):=by
    rw[show(i+1)*n=v.cells.toList.length+i*n by rw[hl,Nat.add_mul];omega,List.drop_append,List.drop_eq_nil_of_le (Nat.le_add_right _ _),List.nil_append,Nat.add_sub_cancel_left]
   rw[e2]
   simpa using RepRow_slice i k h2
def St.evI(s:St):Option Operand→Option (Option Int)
 |none=>some none
 |some x=>match s.ev x with
  |some (.d (.v (.int _ i)))=>some (some i)
  |_=>none
theorem evI_opI{c:Ctx}{m:Nat→Value}{s:St}{a:Act}{w:World}(h:SRep c m s a w){x:Option Operand}{i:Option Int}(hx:s.evI x=some i):opI i (x.map a.eval):=by
 cases x with
 |none=>simp only[St.evI,Option.some.injEq]at hx;subst hx;trivial
 |some x=>
  simp only[St.evI]at hx
  split at hx
  ·rename_i k j hk
   cases hx
   exact⟨k,(repV_v.1 (h.ev hk)).1⟩
  ·cases hx
theorem sliceV_sound{P:Program}{c:Ctx}{m:Nat→Value}{s:St}{a:Act}{w:World}(h:SRep c m s a w){o:Oper}{t:TypeId}{x:Operand}{xl xh xm:Option Operand}{lo hi mx:Option Int}{vx v:AV}
  (ho:o.op= .slice t x xl xh xm)(hx:s.ev x=some vx)(hl:s.evI xl=some lo)(hh:s.evI xh=some hi)(hm:s.evI xm=some mx)(hv:sliceV P t vx lo hi mx=some v): ∃u,Yld P o a w u∧RepV w (Forb c m s.hp) m v u:=by
 have rx:=h.ev hx
 have ol:=evI_opI h hl
 have oh:=evI_opI h hh
 have om:=evI_opI h hm
 have key: ∀u u',a.eval x=u→(Instr.sliceAt t u (xl.map a.eval) (xh.map a.eval) (xm.map a.eval)).run P w= .ok u' w→Yld P o a w u':=by
  intro u u' hu hr
  unfold Yld
  simp only[execOp,ho,hu,Sem.run_bind,hr,Result.andThen_ok,Sem.run_pure]
 have capP: ∀(cc:Option Nat) (cap len:Nat) (b:Cut3),(∀n,cc=some n→cap=n)→ ∀n,capC cc b=some n→b.m.getD cap - b.l=n:=by
  intro cc cap len b hcc n hn
  unfold capC at hn
  split at hn
  ·rename_i mm hmm;rw[hmm];simpa using hn
  ·rename_i hmm
   obtain⟨n',h1,h2⟩:=Option.map_eq_some_iff.1 hn
   rw[hmm,Option.getD_none,hcc n' h1];exact h2
 unfold sliceV at hv
 split at hv
 ·rename_i k xs cc
  simp only[RepV,RepD]at rx
  obtain⟨ad,cap,hu,h1,h2,h3,hcc,h4⟩:=rx
  split at hv
  ·rename_i e g he
   obtain⟨b,hb,rfl⟩:=Option.map_eq_some_iff.1 hv
   obtain⟨_,b1,b2,b3⟩:=run_sliceBounds (P:=P) (w:=w) (b:=true) ol oh om hb h1
   refine⟨_,key _ _ hu (run_slice_slice he ol oh om hb h1),?_⟩
   simp only[RepV,RepD]
   have hmcap:b.h≤b.m.getD cap:=by
    cases hbm:b.m with
    |none=>simp;omega
    |some mm=>have:=b3 mm hbm;simp;omega
   have hmle:b.m.getD cap≤cap:=by
    cases hbm:b.m with
    |none=>simp
    |some mm=>have:=b3 mm hbm;simp;omega
   have hlen:((xs.take b.h).drop b.l).length=b.h - b.l:=by simp;omega
   refine⟨_,_,by rw[hlen],by rw[hlen];omega,by omega,?_,capP cc cap xs.length b hcc,fun hne=> ?_⟩
   ·intro hnone
    split at hnone
    ·omega
    ·have:=h3 (by simpa using hnone);omega
   ·have hlt:b.l<b.h:=by
     rcases Nat.lt_or_ge b.l b.h with h'|h'
     ·exact h'
     ·exact absurd (List.eq_nil_of_length_eq_zero (by rw[hlen];omega)) hne
    obtain⟨bb,off,rfl,hF,hc⟩:=h4 (by intro e;rw[e]at b2;simp at b2;omega)
    refine⟨bb,off+b.l,?_,hF,fun i z hz=> ?_⟩
    ·rw[if_neg (by omega)];simp[addr_add]
    ·rw[List.getElem?_drop,List.getElem?_take]at hz
     split at hz
     ·rw[Nat.add_assoc];exact hc _ z hz
     ·cases hz
  ·cases hv
 ·rename_i n xs cc
  simp only[RepV,RepD]at rx
  obtain⟨ad,cap,vals,hu,h1,h2,h3,hcc,hr,h4⟩:=rx
  split at hv
  ·rename_i e n' g he
   split at hv
   ·rename_i hnn
    subst hnn
    obtain⟨b,hb,rfl⟩:=Option.map_eq_some_iff.1 hv
    obtain⟨_,b1,b2,b3⟩:=run_sliceBounds (P:=P) (w:=w) (b:=true) ol oh om hb h1
    refine⟨_,key _ _ hu (run_slice_slice he ol oh om hb h1),?_⟩
    simp only[RepV,RepD]
    have hmcap:b.h≤b.m.getD cap:=by
     cases hbm:b.m with
     |none=>simp;omega
     |some mm=>have:=b3 mm hbm;simp;omega
    have hmle:b.m.getD cap≤cap:=by
     cases hbm:b.m with
     |none=>simp
     |some mm=>have:=b3 mm hbm;simp;omega
    have hlen:((xs.take b.h).drop b.l).length=b.h - b.l:=by simp;omega
    refine⟨_,_,_,by rw[hlen],by rw[hlen];omega,by omega,?_,capP cc cap xs.length b hcc,RepRow_slice b.l b.h hr,fun hne=> ?_⟩
    ·intro hnone
     split at hnone
     ·omega
     ·have:=h3 (by simpa using hnone);omega
    ·have hne':vals≠ []:=by
      intro e;rw[e]at hne;simp at hne
     have hlt:b.l<b.h:=by
      rcases Nat.lt_or_ge b.l b.h with h'|h'
      ·exact h'
      ·refine absurd ?_ hne
       apply List.drop_eq_nil_of_le
       rw[List.length_take]
       have:=Nat.mul_le_mul_right n h'
       omega
     obtain⟨bb,off,rfl,hF,hc⟩:=h4 hne'
     refine⟨bb,off+b.l*n,?_,hF,fun i z hz=> ?_⟩
     ·rw[if_neg (by omega)];simp[addr_add]
     ·rw[List.getElem?_drop,List.getElem?_take]at hz
      split at hz
      ·rw[Nat.add_assoc];exact hc _ z hz
      ·cases hz
   ·cases hv
  ·cases hv
 ·rw[repV_v]at rx
  split at hv
  ·rename_i e3 he
   obtain⟨b,hb,rfl⟩:=Option.map_eq_some_iff.1 hv
   obtain⟨e,n,g⟩:=e3
   obtain⟨_,b1,b2,b3⟩:=run_sliceBounds (P:=P) (w:=w) (b:=true) (cap:=0) ol oh om hb (Nat.le_refl _)
   refine⟨_,key _ _ rx.1 (run_slice_slice he ol oh om hb (Nat.le_refl _)),repV_v.2 ⟨?_,rfl⟩⟩
   have e1:b.h - b.l=0:=by omega
   have e2:b.m.getD 0 - b.l=0:=by
    cases hbm:b.m with
    |none=>simp
    |some mm=>have:=b3 mm hbm;simp;omega
   rw[e1,e2];simp
  ·cases hv
 ·rename_i str
  rw[repV_v]at rx
  split at hv
  ·rename_i hu
   split at hv
   ·cases hv
   ·rename_i hmx
    obtain⟨b,hb,rfl⟩:=Option.map_eq_some_iff.1 hv
    have hmx':mx=none:=by cases mx<;>simp at hmx ⊢
    subst hmx'
    cases xm with
    |some y=>exact om.elim
    |none=>
     have hs:=(run_sliceBounds (P:=P) (w:=w) (b:=false) (mx:=none) (vm:=none) ol oh om hb (Nat.le_refl _)).1
     refine⟨_,key _ _ rx.1 ?_,repV_v.2 ⟨rfl,rfl⟩⟩
     unfold Instr.sliceAt Instr.slice
     simp only[Sem.run_bind,run_underlying hu,Result.andThen_ok,Option.map_none,Option.isSome_none,Bool.false_eq_true,if_false,hs,Sem.run_pure]
  ·cases hv
 ·rename_i ds
  simp only[RepV,RepD]at rx
  obtain⟨b0,off,u,hu,hF,⟨us,rfl,hr⟩,hb0,hc⟩:=rx
  split at hv
  ·rename_i l e g he
   obtain⟨hun,hn,hg,hne⟩:=arrT_parts he
   split at hv
   ·rename_i k hk
    split at hv
    ·rename_i xs hxs
     split at hv
     ·rename_i hlen
      obtain⟨hlen,hbig⟩:=hlen
      obtain⟨b,hb,rfl⟩:=Option.map_eq_some_iff.1 hv
      have hus:=intsOf_cells hxs hr
      obtain⟨hs,b1,b2,b3⟩:=run_sliceBounds (P:=P) (w:=w) (b:=false) ol oh om hb (Nat.le_refl _)
      have hmcap:b.h≤b.m.getD l:=by
       cases hbm:b.m with
       |none=>simp;omega
       |some mm=>have:=b3 mm hbm;simp;omega
      have hmle:b.m.getD l≤l:=by
       cases hbm:b.m with
       |none=>simp
       |some mm=>have:=b3 mm hbm;simp;omega
      refine⟨.slice (some (if b.m.getD l=b.l then⟨b0,off,none⟩else⟨b0,off+b.l,none⟩)) (b.h - b.l) (b.m.getD l - b.l),key _ _ hu ?_,?_⟩
      ·unfold Instr.sliceAt
       simp only[Sem.run_bind,run_underlying hun,Result.andThen_ok,Instr.sureAddr,Sem.run_pure,hs,run_sizeOf' hn,Nat.mul_one,addr_add]
      ·simp only[RepV,RepD]
       have hll:((xs.take b.h).drop b.l).length=b.h - b.l:=by simp;omega
       refine⟨_,_,by rw[hll],by rw[hll];omega,by unfold maxLen;omega,by simp,capP (some l) l l b (by simp),fun hne'=> ?_⟩
       have hlt:b.l<b.h:=by
        rcases Nat.lt_or_ge b.l b.h with h'|h'
        ·exact h'
        ·exact absurd (List.eq_nil_of_length_eq_zero (by rw[hll];omega)) hne'
       refine⟨b0,off+b.l,by rw[if_neg (by omega)],hF,fun i z hz=> ?_⟩
       rw[List.getElem?_drop,List.getElem?_take]at hz
       split at hz
       ·have:=hc (b.l+i) (.int k z) (by rw[hus];simp[Value.cells,hz])
        rw[Nat.add_assoc];exact this
       ·cases hz
     ·cases hv
    ·cases hv
   ·cases hv
  ·cases hv
 ·cases hv
def AV.parts:AV→Option (List AV)
 | .agg cs=>some cs
 | .d (.agg ds)=>some (ds.map .d)
 | .tup _=>none
 | .bot=>none
 |v=>some [v]
theorem repV_one{w:World}{F:Nat→Prop}{m:Nat→Value}{v:AV}{u:Value}(h:RepV w F m v u)(h1:v.fields=none)(h2: ∀vs,v≠ .tup vs)(h3:v≠ .bot):u.oneCell'=true:=by
 cases v with
 |d x=>
  simp only[RepV]at h
  refine repD_notAgg h ?_
  cases x<;>first|rfl|simp[AV.fields]at h1
 |ptr κ off=>simp only[RepV]at h;obtain⟨b,_,rfl⟩:=h;rfl
 |own κ=>simp only[RepV]at h;exact h.2
 |pel κ off=>simp only[RepV]at h;obtain⟨b,_,_,_,_,rfl⟩:=h;rfl
 |eaddr x=>simp only[RepV]at h;obtain⟨b,_,_,rfl,_⟩:=h;rfl
 |agg cs=>simp[AV.fields]at h1
 |tup vs=>exact absurd rfl (h2 vs)
 |clos f caps=>simp only[RepV]at h;obtain⟨us,rfl,_⟩:=h;rfl
 |wrap k v=>simp only[RepV]at h;obtain⟨u0,rfl,_⟩:=h;exact k.one u0
 |bot=>exact absurd rfl h3
theorem parts_rep{w:World}{F:Nat→Prop}{m:Nat→Value}{v:AV}{u:Value}{cs:List AV}(h:RepV w F m v u)(hp:v.parts=some cs):RepVs w F m cs u.cells.toList∧ ∀z∈u.cells.toList,z.oneCell'=true:=by
 by_cases hf: ∃l,v.fields=some l
 ·obtain⟨l,hf⟩:=hf
  have:l=cs:=by
   cases v with
   |agg l'=>simp[AV.fields,AV.parts]at hf hp;rw[←hf,hp]
   |d x=>cases x<;>simp[AV.fields,AV.parts]at hf hp;rw[←hf,hp]
   |_=>simp[AV.fields]at hf
  subst this
  obtain⟨us,rfl,hr,h1⟩:=fields_rep h hf
  exact⟨by simpa[Value.cells]using hr,by simpa[Value.cells]using h1⟩
 ·have hn:v.fields=none:=by
   cases hv:v.fields with
   |none=>rfl
   |some l=>exact absurd ⟨l,hv⟩ hf
  have h2: ∀vs,v≠ .tup vs:=by rintro vs rfl;simp[AV.parts]at hp
  have h3:v≠ .bot:=by rintro rfl;simp[AV.parts]at hp
  have h0:=repV_one h hn h2 h3
  have:cs= [v]:=by
   cases v with
   |d x=>cases x<;>simp[AV.parts,AV.fields]at hp hn ⊢ <;>exact hp.symm
   |agg l=>simp[AV.fields]at hn
   |tup vs=>exact absurd rfl (h2 vs)
   |bot=>exact absurd rfl h3
   |_=>simp[AV.parts]at hp;exact hp.symm
  subst this
  rw[cells_one h0]
  simp only[RepVs]
  exact⟨⟨u,[],by simp,h,rfl⟩,by simpa using h0⟩
def layA(place:Nat→Option (Nat×Nat)):List AV→List (Nat×AV)→Option (List AV)
 |cs,[]=>some cs
 |cs,(i,v)::rest=>match place i,v.parts with
  |some (off,n),some ps=>if ps.length=n∧off+n≤cs.length then layA place (cs.take off++ps++cs.drop (off+n)) rest else none
  |_,_=>none
theorem fold_set(vs:List Value): ∀(i:Nat) (off:Nat) (cs:Array Value),off+i+vs.length≤cs.size→((vs.zipIdx i).foldl (fun(cs:Array Value) (p:Value×Nat)=>cs.setIfInBounds (off+p.2) p.1) cs).toList=cs.toList.take (off+i)++vs++cs.toList.drop (off+i+vs.length):=by
 induction vs with
 |nil=>intro i off cs h;simp
 |cons v vs ih=>
  intro i off cs h
  simp only[List.length_cons]at h
  rw[List.zipIdx_cons,List.foldl_cons]
  rw[ih (i+1) off (cs.setIfInBounds (off+i) v) (by simp;omega)]
  simp only[Array.toList_setIfInBounds]
  have e1:(cs.toList.set (off+i) v).take (off+(i+1))=cs.toList.take (off+i)++ [v]:=by
   rw[show off+(i+1)=off+i+1 by omega,List.take_add_one]
   have hlt:off+i<cs.toList.length:=by simp;omega
   rw[List.getElem?_set_self hlt,List.take_set,List.set_eq_of_length_le (by rw[List.length_take];omega)]
   rfl
  have e2:(cs.toList.set (off+i) v).drop (off+(i+1)+vs.length)=cs.toList.drop (off+i+(vs.length+1)):=by
   rw[List.drop_set_of_lt (by omega)]
   congr 1;omega
  rw[e1,e2]
  simp
theorem layA_rep{w:World}{F:Nat→Prop}{m:Nat→Value}{place:Nat→Option (Nat×Nat)}: ∀ {ps:List (Nat×AV)} {us:List (Nat×Value)} {cs cs':List AV} {zs:Array Value},
  layA place cs ps=some cs'→ps.length=us.length→(∀(j:Nat) i v,ps[j]? =some (i,v)→ ∃u,us[j]? =some (i,u)∧RepV w F m v u)→RepVs w F m cs zs.toList→(∀z∈zs.toList,z.oneCell'=true)→
  ∃zs',Instr.fill place zs us=some zs'∧RepVs w F m cs' zs'.toList∧ ∀z∈zs'.toList,z.oneCell'=true
 | [],us,cs,cs',zs,h,hl,hu,hr,h1=>by
  simp only[layA,Option.some.injEq]at h;subst h
  have:us= []:=List.eq_nil_of_length_eq_zero hl.symm
  subst this
  exact⟨zs,rfl,hr,h1⟩
 |(i,v)::rest,us,cs,cs',zs,h,hl,hu,hr,h1=>by
  simp only[layA]at h
  split at h
  ·rename_i off n qs hpl hpa
   split at h
   ·rename_i hcond
    obtain⟨hc1,hc2⟩:=hcond
    obtain⟨u,hu0,hru⟩:=hu 0 i v rfl
    cases us with
    |nil=>simp at hu0
    |cons p us=>
     simp at hu0;subst hu0
     obtain⟨hq,hq1⟩:=parts_rep hru hpa
     have hql:=(RepVs_iff.1 hq).1
     have hrl:=(RepVs_iff.1 hr).1
     have hsz:u.cells.size=n:=by
      have:u.cells.toList.length=n:=by omega
      simpa using this
     have hzl:zs.size=cs.length:=by rw[hrl];simp
     have hfold:=fold_set u.cells.toList 0 off zs (by simp;omega)
     have hfill:Instr.fill place zs ((i,u)::us)=Instr.fill place (u.cells.zipIdx.foldl (fun cs (c,j)=>cs.setIfInBounds (off+j) c) zs) us:=by
      rw[Instr.fill,hpl]
      have hb:(u.cells.size≠n||decide (off+u.cells.size>zs.size))=false:=by
       simp;omega
      simp only[hb]
      rfl
     have hset:(u.cells.zipIdx.foldl (fun cs (c,j)=>cs.setIfInBounds (off+j) c) zs).toList=zs.toList.take off++u.cells.toList++zs.toList.drop (off+n):=by
      have e:u.cells.zipIdx.foldl (fun cs (c,j)=>cs.setIfInBounds (off+j) c) zs=(u.cells.toList.zipIdx 0).foldl (fun(cs:Array Value) (p:Value×Nat)=>cs.setIfInBounds (off+p.2) p.1) zs:=by
       rw[←Array.foldl_toList,Array.toList_zipIdx]
      rw[e,hfold]
      simp[hsz]
     rw[hfill]
     refine layA_rep (zs:=u.cells.zipIdx.foldl (fun cs (c,j)=>cs.setIfInBounds (off+j) c) zs) h (by simpa using hl) (fun j i' v' hj=>by
      obtain⟨u',h3,h4⟩:=hu (j+1) i' v' (by simpa using hj)
      exact⟨u',by simpa using h3,h4⟩) ?_ ?_
     ·rw[hset,RepVs_iff]
      rw[RepVs_iff]at hr hq
      refine⟨by simp[hq.1,hr.1],fun j x hj=> ?_⟩
      have ht:(cs.take off).length=(zs.toList.take off).length:=by simp[hr.1]
      rw[List.append_assoc]at hj ⊢
      rw[List.getElem?_append]at hj ⊢
      rw[ht]at hj
      split at hj
      ·rename_i hlt
       rw[if_pos hlt]
       rw[List.getElem?_take]at hj ⊢
       split at hj
       ·rename_i h5;rw[if_pos h5];exact hr.2 j x hj
       ·cases hj
      ·rename_i hge
       rw[if_neg hge]
       rw[List.getElem?_append]at hj ⊢
       rw[hq.1]at hj
       split at hj
       ·rename_i hlt;rw[if_pos hlt];exact hq.2 _ x hj
       ·rename_i hge2
        rw[if_neg hge2]
        rw[List.getElem?_drop]at hj ⊢
        exact hr.2 _ x hj
     ·rw[hset]
      intro z hz
      rcases List.mem_append.1 hz with hz|hz
      ·rcases List.mem_append.1 hz with hz|hz
       ·exact h1 z (List.mem_of_mem_take hz)
       ·exact hq1 z hz
      ·exact h1 z (List.mem_of_mem_drop hz)
   ·cases h
  ·cases h
def St.evP(s:St):List (Nat×Operand)→Option (List (Nat×AV))
 | []=>some []
 |(i,x)::l=>match s.ev x,s.evP l with
  |some v,some r=>some ((i,v)::r)
  |_,_=>none
theorem evP_rep{c:Ctx}{m:Nat→Value}{s:St}{a:Act}{w:World}(h:SRep c m s a w): ∀ {l:List (Nat×Operand)} {ps:List (Nat×AV)},s.evP l=some ps→ps.length=(l.map fun p=>(p.1,a.eval p.2)).length∧ ∀(j:Nat) i v,ps[j]? =some (i,v)→ ∃u,(l.map fun p=>(p.1,a.eval p.2))[j]? =some (i,u)∧RepV w (Forb c m s.hp) m v u
 | [],ps,hp=>by simp only[St.evP,Option.some.injEq]at hp;subst hp;simp
 |(i,x)::l,ps,hp=>by
  simp only[St.evP]at hp
  split at hp
  ·rename_i v r hv hr
   cases hp
   obtain⟨h1,h2⟩:=evP_rep h hr
   refine⟨by simp at h1 ⊢;exact h1,fun j i' v' hj=> ?_⟩
   cases j with
   |zero=>simp at hj;obtain⟨rfl,rfl⟩:=hj;exact⟨_,by simp,h.ev hv⟩
   |succ j=>simp at hj;obtain⟨u,h3,h4⟩:=h2 j i' v' hj;exact⟨u,by simpa using h3,h4⟩
  ·cases hp
def zeroT(P:Program)(t:TypeId):Option (List Value):=
 match(P.info? t).bind (·.zero)with
 |some z=>if z.cells.toList.all (·.oneCell')then some z.cells.toList else none
 |none=>none
theorem zeroT_run{P:Program}{t:TypeId}{zs:List Value}(h:zeroT P t=some zs)(w:World): ∃z,(zeroValue t).run P w= .ok z w∧z.cells.toList=zs∧ ∀u∈zs,u.oneCell'=true:=by
 unfold zeroT at h
 split at h
 ·rename_i z hz
  obtain⟨i,hi,hz⟩:=Option.bind_eq_some_iff.1 hz
  split at h
  ·rename_i hall
   cases h
   refine⟨z,by simp[zeroValue,typeInfo,hi,hz],rfl,fun u hu=>List.all_eq_true.1 hall u hu⟩
  ·cases h
 ·cases h
theorem zeros_rep{w:World}{F:Nat→Prop}{m:Nat→Value}{zs:List Value}(h: ∀u∈zs,u.oneCell'=true):RepVs w F m (zs.map fun z=> .d (.v z)) zs:=by
 rw[RepVs_iff]
 refine⟨by simp,fun i v hi=> ?_⟩
 rw[List.getElem?_map]at hi
 obtain⟨z,hz,rfl⟩:=Option.map_eq_some_iff.1 hi
 exact⟨z,hz,repV_v.2 ⟨rfl,h z (List.mem_of_getElem? hz)⟩⟩
def placeT(P:Program)(t:TypeId):Option (Nat→Option (Nat×Nat)):=
 match P.underlying t with
 |some (.struct fs)=>(fs.toList.mapM (fun f=>(P.info? f.type).map fun i=>(f.offset,i.size))).map fun pl=>fun i=>pl.toArray[i]?
 |some (.array _ e)=>(P.info? e).map fun ie=>fun i=>some (i*ie.size,ie.size)
 |_=>none
def buildV(P:Program)(t:TypeId)(ps:List (Nat×AV)):Option AV:=
 match placeT P t,zeroT P t with
 |some place,some zs=>omap (layA place (zs.map fun z=> .d (.v z)) ps) mkAgg
 |_,_=>none
theorem built_of{P:Program}{t:TypeId}{place:Nat→Option (Nat×Nat)}{z:Value}{ti:TypeInfo}(hp:placeT P t=some place)(hi:P.info? t=some ti)(hz:ti.zero=some z)(us:List (Nat×Value)):P.built t us=Instr.fill place z.cells us:=by
 unfold placeT at hp
 unfold Program.built
 split at hp
 ·rename_i fs hu
  obtain⟨pl,hpl,rfl⟩:=Option.map_eq_some_iff.1 hp
  simp only[hi,hu,hz,hpl]
 ·rename_i n e hu
  obtain⟨ie,hie,rfl⟩:=Option.map_eq_some_iff.1 hp
  simp only[hi,hu,hz,hie]
 ·cases hp
theorem buildV_sound{P:Program}{c:Ctx}{m:Nat→Value}{s:St}{a:Act}{w:World}(h:SRep c m s a w){o:Oper}{t:TypeId}{l:Array (Nat×Operand)}{ps:List (Nat×AV)}{v:AV}
  (ho:o.op= .build t l)(hp:s.evP l.toList=some ps)(hv:buildV P t ps=some v): ∃u,Yld P o a w u∧RepV w (Forb c m s.hp) m v u:=by
 obtain⟨e1,e2⟩:=evP_rep h hp
 unfold buildV at hv
 split at hv
 ·rename_i place zs hpl hz
  obtain⟨cs',hlay,rfl⟩:=Option.map_eq_some_iff.1 hv
  unfold zeroT at hz
  split at hz
  ·rename_i z hz0
   obtain⟨ti,hi,hz0⟩:=Option.bind_eq_some_iff.1 hz0
   split at hz
   ·rename_i hall
    cases hz
    have hz3: ∀u∈z.cells.toList,u.oneCell'=true:=fun u hu=>List.all_eq_true.1 hall u hu
    obtain⟨zs',hf1,hf2,hf3⟩:=layA_rep (zs:=z.cells) hlay e1 e2 (zeros_rep hz3) hz3
    refine⟨.agg zs',?_,by simpa using mkAgg_rep hf2 hf3⟩
    have hb:=run_build (P:=P) w t (l.map fun p=>(p.1,a.eval p.2)) zs' (by rw[built_of hpl hi hz0];simpa using hf1)
    unfold Yld
    simp only[execOp,ho,Sem.run_bind]
    rw[hb];rfl
   ·cases hz
  ·cases hz
 ·cases hv
def minI:List AV→Option AV
 | [.d (.v (.int k a)),.d (.v (.int k' b))]=>if k=k' then some (.d (.v (.int k (if b<a then b else a))))else none
 |_=>none
def St.evL(s:St):List Operand→Option (List AV)
 | []=>some []
 |x::l=>match s.ev x,s.evL l with
  |some v,some r=>some (v::r)
  |_,_=>none
theorem evL_rep{c:Ctx}{m:Nat→Value}{s:St}{a:Act}{w:World}(h:SRep c m s a w): ∀ {l:List Operand} {vs:List AV},s.evL l=some vs→RepVs w (Forb c m s.hp) m vs (l.map a.eval)
 | [],vs,hp=>by simp only[St.evL,Option.some.injEq]at hp;subst hp;simp[RepVs]
 |x::l,vs,hp=>by
  simp only[St.evL]at hp
  split at hp
  ·rename_i v r hv hr
   cases hp
   simp only[RepVs,List.map_cons]
   exact⟨_,_,rfl,h.ev hv,evL_rep h hr⟩
  ·cases hp
def St.asD(s:St):AV→AV
 | .own κ=>match obind (gt κ s.hp) Blk.data with
  |some d=> .d d
  |none=> .own κ
 |v=>v
theorem asD_any{w:World}{F:Nat→Prop}{m:Nat→Value}{v:AV}{u:Value}(h:RepV w F m v u):RepV w (fun _=>False) m v u:=RepV.kept (fun b _ _=>⟨fun h=>h,rfl⟩) (Nat.le_refl _) v u h
theorem asD_rep{c:Ctx}{m:Nat→Value}{s:St}{a:Act}{w:World}(h:SRep c m s a w){v:AV}{u:Value}(hv:RepV w (Forb c m s.hp) m v u):RepV w (fun _=>False) m (s.asD v) u:=by
 unfold St.asD
 split
 ·rename_i κ
  split
  ·rename_i d hd
   obtain⟨B,hB,hd⟩:=Option.bind_eq_some_iff.1 hd
   simp only[RepV]at hv ⊢
   rw[hv.1]
   exact RepB.data (h.heap κ B hB) hd (fun b _ _=>⟨fun h=>h,rfl⟩) (fun b _ h=>h)
  ·exact asD_any hv
 ·exact asD_any hv
def methA(P:Program)(t:TypeId)(n:String):Option FuncId:=
 match P.info? t with
 |some i=>match i.methods.find? (·.name==n)with
  |some mt=>if mt.path.isEmpty then
    (match mt.func with
    |some (f,pr)=>match P.underlying t with
     |some (.pointer _)=>if pr then some f else none
     |some _=>if pr then none else some f
     |none=>none
    |none=>none)else none
  |none=>none
 |none=>none
theorem methA_run{P:Program}{t:TypeId}{n:String}{f:FuncId}(h:methA P t n=some f)(k:Nat)(v:Value)(w:World):(method (k+1) t v n).run P w= .ok (f,v) w:=by
 unfold methA at h
 split at h
 ·rename_i i hi
  split at h
  ·rename_i mt hm
   split at h
   ·rename_i hp
    have hp':mt.path.toList= []:=by
     have:mt.path= #[]:=by simpa using hp
     rw[this]
    split at h
    ·rename_i f' pr hf
     split at h
     ·rename_i e hu
      split at h
      ·rename_i hpr
       cases h
       subst hpr
       simp[method,typeInfo,hi,hm,hp',follow,hf,receiverAt,run_underlying hu,Place.get]
      ·cases h
     ·rename_i d hne hu
      split at h
      ·cases h
      ·rename_i hpr
       cases h
       have hpr:pr=false:=by simpa using hpr
       subst hpr
       cases d<;>first|exact absurd rfl (hne _)|simp[method,typeInfo,hi,hm,hp',follow,hf,receiverAt,run_underlying hu,Place.get]
     ·cases h
    ·cases h
   ·cases h
  ·cases h
 ·cases h
def nilOk(P:Program)(t:TypeId)(n:String):Bool:=
 match P.info? t with
 |some i=>match i.methods.find? (·.name==n)with
  |some mt=>if mt.path.isEmpty then
    (match mt.func with
    |some (_,true)=>true
    |some (_,false)=>(match P.underlying t with
     |some (.pointer _)=>false
     |some _=>true
     |none=>false)
    |none=>false)else false
  |none=>false
 |none=>false
theorem nilOk_run{P:Program}{t:TypeId}{n:String}(h:nilOk P t n=true)(k:Nat)(v:Value)(w:World):(nilAhead (k+Made.depth) t v n).run P w= .ok (some false) w:=by
 obtain⟨k',hk⟩: ∃k',k+Made.depth=k'+1:=⟨k+Made.depth - 1,by unfold Made.depth;omega⟩
 rw[hk]
 unfold nilOk at h
 split at h
 ·rename_i i hi
  split at h
  ·rename_i mt hm
   split at h
   ·rename_i hp
    have hp':mt.path.toList= []:=by
     have:mt.path= #[]:=by simpa using hp
     rw[this]
    split at h
    ·rename_i f hf
     simp[nilAhead,typeInfo,hi,hm,hp',followBlind,hf]
    ·rename_i f hf
     split at h
     ·cases h
     ·rename_i d hu hne
      cases d<;>first|exact(hu _ rfl).elim|simp[nilAhead,typeInfo,hi,hm,hp',followBlind,hf,run_underlying hne]
     ·cases h
    ·cases h
   ·cases h
  ·cases h
 ·cases h
def valOp(P:Program)(s:St)(op:Op):Option AV:=
 match op with
 | .move x=>s.ev x
 | .assign x=>s.ev x
 | .pick cc x y=>match s.ev cc with
  |some (.d (.v (.bool b)))=>match s.ev x,s.ev y with
   |some (.d (.v (.bool p))),some (.d (.v (.bool q)))=>some (.d (.v (.bool (if b then p else q))))
   |p,q=>if b then p else q
  |_=>none
 | .binOp op t x y _=>match s.ev x,s.ev y with
  |some vx,some vy=>match binV P op t vx vy with
   |some v=>some v
   |none=>match nilV P op t (s.asD vx) (s.asD vy)with
    |some v=>some v
    |none=>match nilI P op t y vx with
     |some v=>some v
     |none=>structV P op t vx vy
  |_,_=>none
 | .unOp op _ x=>obind (s.ev x) (unV op)
 | .convert a b x=>match s.ev x with
  |some (.own κ)=>obind (obind (gt κ s.hp) Blk.data) fun d=>cvtV P a b (.d d)
  |some v=>cvtV P a b v
  |none=>none
 | .load t x=>obind (s.ev x) (loadV P s t)
 | .fieldAddr t x i=>obind (s.ev x) (fieldAddrV P t i)
 | .field t x i=>obind (s.ev x) (fieldV P t i)
 | .indexAddr t x y=>match s.ev x,s.ev y with
  |some vx,some (.d (.v (.int _ i)))=>indexAddrV P s t vx i
  |_,_=>none
 | .index t x y=>match s.ev x,s.ev y with
  |some vx,some (.d (.v (.int _ i)))=>indexV P t vx i
  |_,_=>none
 | .slice t x l h mx=>match s.ev x,s.evI l,s.evI h,s.evI mx with
  |some vx,some il,some ih,some im=>sliceV P t vx il ih im
  |_,_,_,_=>none
 | .extract x i=>match s.ev x with
  |some (.tup vs)=>vs[i]?
  |_=>none
 | .build t l=>obind (s.evP l.toList) (buildV P t)
 | .nilCheck x=>match s.ev x with
  |some (.ptr κ off)=>some (.ptr κ off)
  |some (.pel κ off)=>some (.pel κ off)
  |some (.eaddr d)=>some (.eaddr d)
  |some (.clos f cs)=>some (.clos f cs)
  |some (.d (.v (.func (.func f) p q)))=>some (.d (.v (.func (.func f) p q)))
  |some (.wrap (.ifc t) v)=>some (.wrap (.ifc t) v)
  |some (.wrap (.mth n) (.wrap (.ifc t) v))=>if nilOk P t n=true then some (.wrap (.mth n) (.wrap (.ifc t) v))else none
  |_=>none
 | .makeFunc (.func f) first caps=>if first.toList.isEmpty then(if caps.toList.isEmpty then some (.d (.v (.func (.func f) #[] #[])))else omap (s.evL caps.toList) (.clos f))else none
 | .makeFunc (.method n) first caps=>match first.toList,caps.toList with
  | [x],[]=>omap (s.ev x) (.wrap (.mth n))
  |_,_=>none
 | .makeInterface t x=>if ifaceT P t=true then none else match P.underlying t with
  |some _=>omap (s.ev x) (.wrap (.ifc t))
  |none=>none
 | .call c=>match c.callee with
  | .builtin .len=>match c.args.toList,c.argTypes.toList with
   | [x],[t]=>omap (obind (s.ev x) (lenV P s t)) fun n=> .d (.v (.int .i64 n))
   |_,_=>none
  | .builtin .cap=>match c.args.toList,c.argTypes.toList with
   | [x],[t]=>omap (obind (s.ev x) (capV P s t)) fun n=> .d (.v (.int .i64 n))
   |_,_=>none
  | .builtin .min=>match c.args.toList with
   | [x,y]=>obind (s.evL [x,y]) minI
   |_=>none
  |_=>none
 |_=>none
theorem valOp_sound{P:Program}{c:Ctx}{m:Nat→Value}{s:St}{a:Act}{w:World}(h:SRep c m s a w){o:Oper}{v:AV}(hv:valOp P s o.op=some v): ∃u,Yld P o a w u∧RepV w (Forb c m s.hp) m v u:=by
 unfold valOp at hv
 split at hv
 ·rename_i x ho
  exact⟨a.eval x,by unfold Yld;simp only[execOp,ho];rfl,h.ev hv⟩
 ·rename_i x ho
  exact⟨a.eval x,by unfold Yld;simp only[execOp,ho];rfl,h.ev hv⟩
 ·rename_i cc x y ho
  split at hv
  ·rename_i b hb
   have rb:=(repV_v.1 (h.ev hb)).1
   have key: ∀v,(if b then s.ev x else s.ev y)=some v→ ∃u,Yld P o a w u∧RepV w (Forb c m s.hp) m v u:=by
    intro v hv
    refine⟨if b then a.eval x else a.eval y,?_,?_⟩
    ·unfold Yld;simp only[execOp,ho,rb,asBool,Sem.run_bind,Sem.run_pure,Result.andThen_ok]
    ·cases b with
     |true=>exact h.ev hv
     |false=>exact h.ev hv
   split at hv
   ·rename_i p q hp hq
    apply key
    rw[hp,hq,←hv]
    cases b<;>rfl
   ·exact key v hv
  ·cases hv
 ·rename_i op t x y t' ho
  split at hv
  ·rename_i vx vy hx hy
   split at hv
   ·rename_i v' hb;cases hv;exact binV_sound h ho hx hy hb
   ·split at hv
    ·rename_i v' hb;cases hv;exact nilV_sound ho (asD_rep h (h.ev hx)) (asD_rep h (h.ev hy)) hb
    ·split at hv
     ·rename_i v' hb;cases hv;exact nilI_sound ho (h.ev hx) hb
     ·exact structV_sound ho (h.ev hx) (h.ev hy) hv
  ·cases hv
 ·rename_i op t x ho
  obtain⟨vx,hx,hv⟩:=Option.bind_eq_some_iff.1 hv
  exact unV_sound h ho hx hv
 ·rename_i p q x ho
  have fin: ∀ {u:Value},a.eval x=u→(∃z,(convert p q u).run P w= .ok z w∧RepV w (Forb c m s.hp) m v z)→ ∃u,Yld P o a w u∧RepV w (Forb c m s.hp) m v u:=by
   rintro u hu ⟨z,h1,h2⟩
   refine⟨z,?_,h2⟩
   unfold Yld
   simp only[execOp,ho,hu,Sem.run_bind,h1];rfl
  split at hv
  ·rename_i κ hx
   obtain⟨d,hd,hv⟩:=Option.bind_eq_some_iff.1 hv
   obtain⟨B,hB,hd⟩:=Option.bind_eq_some_iff.1 hd
   have rx:=h.ev hx
   simp only[RepV]at rx
   have hdat:RepV w (fun _=>False) m (.d d) (m κ):=by
    simp only[RepV]
    exact RepB.data (h.heap κ B hB) hd (fun b _ _=>⟨fun h=>h,rfl⟩) (fun b _ h=>h)
   exact fin rx.1 (cvtV_run hdat hv)
  ·rename_i vx _ hx
   exact fin rfl (cvtV_run (h.ev hx) hv)
  ·cases hv
 ·rename_i t x ho
  obtain⟨vx,hx,hv⟩:=Option.bind_eq_some_iff.1 hv
  exact loadV_sound h ho hx hv
 ·rename_i t x i ho
  obtain⟨vx,hx,hv⟩:=Option.bind_eq_some_iff.1 hv
  exact fieldAddrV_sound h ho hx hv
 ·rename_i t x i ho
  obtain⟨vx,hx,hv⟩:=Option.bind_eq_some_iff.1 hv
  exact fieldV_sound h ho hx hv
 ·rename_i t x y ho
  split at hv
  ·rename_i vx k i hx hy;exact indexAddrV_sound h ho hx hy hv
  ·cases hv
 ·rename_i t x y ho
  split at hv
  ·rename_i vx k i hx hy;exact indexV_sound h ho hx hy hv
  ·cases hv
 ·rename_i t x l hh mx ho
  split at hv
  ·rename_i vx il ih im hx h1 h2 h3;exact sliceV_sound h ho hx h1 h2 h3 hv
  ·cases hv
 ·rename_i x i ho
  split at hv
  ·rename_i vs hx
   have rx:=h.ev hx
   simp only[RepV]at rx
   obtain⟨us,hu,hr⟩:=rx
   obtain⟨u,h1,h2⟩:=(RepVs_iff.1 hr).2 i v hv
   refine⟨u,?_,h2⟩
   have h3:us.toArray[i]? =some u:=by simpa using h1
   unfold Yld;simp only[execOp,ho,hu,Instr.extract,h3,Sem.run_bind,Sem.run_pure,Result.andThen_ok]
  ·cases hv
 ·rename_i t l ho
  obtain⟨ps,hp,hv⟩:=Option.bind_eq_some_iff.1 hv
  exact buildV_sound h ho hp hv
 ·rename_i x ho
  split at hv
  ·rename_i κ off hx
   cases hv
   have rx:=h.ev hx
   refine⟨a.eval x,?_,rx⟩
   simp only[RepV]at rx
   obtain⟨b,_,hu⟩:=rx
   unfold Yld;simp only[execOp,ho,hu];rfl
  ·rename_i κ off hx
   cases hv
   have rx:=h.ev hx
   refine⟨a.eval x,?_,rx⟩
   simp only[RepV]at rx
   obtain⟨b,_,_,_,hu⟩:=rx
   unfold Yld;simp only[execOp,ho,hu];rfl
  ·rename_i d hx
   cases hv
   have rx:=h.ev hx
   refine⟨a.eval x,?_,rx⟩
   simp only[RepV]at rx
   obtain⟨b,_,_,hu,_⟩:=rx
   unfold Yld;simp only[execOp,ho,hu];rfl
  ·rename_i f cs hx
   cases hv
   have rx:=h.ev hx
   refine⟨a.eval x,?_,rx⟩
   simp only[RepV]at rx
   obtain⟨us,hu,_⟩:=rx
   unfold Yld;simp only[execOp,ho,hu];rfl
  ·rename_i f p q hx
   cases hv
   have rx:=h.ev hx
   refine⟨a.eval x,?_,rx⟩
   have hu:=(repV_v.1 rx).1
   unfold Yld;simp only[execOp,ho,hu];rfl
  ·rename_i t vx hx
   cases hv
   have rx:=h.ev hx
   refine⟨a.eval x,?_,rx⟩
   simp only[RepV]at rx
   obtain⟨u0,hu,_⟩:=rx
   unfold Yld;simp only[execOp,ho,hu,Wr.val];rfl
  ·rename_i n t vx hx
   split at hv
   ·rename_i hok
    cases hv
    have rx:=h.ev hx
    refine⟨a.eval x,?_,rx⟩
    simp only[RepV]at rx
    obtain⟨u1,hu,u0,rfl,_⟩:=rx
    unfold Yld
    simp only[execOp,ho,hu,Wr.val]
    have:=nilOk_run hok P.types.size u0 w
    simp[this]
   ·cases hv
  ·cases hv
 ·rename_i f first caps ho
  split at hv
  ·rename_i hfirst
   have hf:first= #[]:=by simpa using hfirst
   subst hf
   split at hv
   ·rename_i hcaps
    cases hv
    have hc:caps= #[]:=by simpa using hcaps
    subst hc
    refine⟨.func (.func f) #[] #[],?_,repV_v.2 ⟨rfl,rfl⟩⟩
    unfold Yld;simp only[execOp,ho,Instr.makeFunc];simp
   ·obtain⟨vs,hvs,rfl⟩:=Option.map_eq_some_iff.1 hv
    have:=evL_rep h hvs
    refine⟨.func (.func f) #[] (caps.map a.eval),?_,?_⟩
    ·unfold Yld;simp only[execOp,ho,Instr.makeFunc];simp
    ·simp only[RepV];exact⟨_,by rw[←Array.toArray_toList (xs:=caps.map a.eval)],by simpa using this⟩
  ·cases hv
 ·rename_i n first caps ho
  split at hv
  ·rename_i x hf hc
   obtain⟨vx,hx,rfl⟩:=Option.map_eq_some_iff.1 hv
   have hf:first= #[x]:=by rw[←Array.toArray_toList (xs:=first),hf]
   have hc:caps= #[]:=by rw[←Array.toArray_toList (xs:=caps),hc]
   subst hf hc
   refine⟨.func (.method n) #[a.eval x] #[],?_,?_⟩
   ·unfold Yld;simp only[execOp,ho,Instr.makeFunc];simp
   ·simp only[RepV,Wr.val];exact⟨_,rfl,h.ev hx⟩
  ·cases hv
 ·rename_i t x ho
  split at hv
  ·cases hv
  ·rename_i hni
   split at hv
   ·rename_i d hd
    obtain⟨vx,hx,rfl⟩:=Option.map_eq_some_iff.1 hv
    refine⟨.iface t (a.eval x),?_,?_⟩
    ·unfold Yld
     simp only[execOp,ho,Instr.makeInterface,Sem.run_bind,run_underlying hd,Result.andThen_ok]
     unfold ifaceT at hni
     rw[hd]at hni
     cases d<;>first|rfl|exact absurd rfl hni
    ·simp only[RepV,Wr.val];exact⟨_,rfl,h.ev hx⟩
   ·cases hv
 ·rename_i cl ho
  obtain⟨cal,args,tys⟩:=cl
  simp only at hv
  split at hv
  ·split at hv
   ·rename_i x t hx ht
    have hx:args= #[x]:=by rw[←Array.toArray_toList (xs:=args),hx]
    have ht:tys= #[t]:=by rw[←Array.toArray_toList (xs:=tys),ht]
    subst hx ht
    obtain⟨n,hn,rfl⟩:=Option.map_eq_some_iff.1 hv
    obtain⟨vx,hx,hn⟩:=Option.bind_eq_some_iff.1 hn
    exact⟨_,lenV_sound h ho hx hn,repV_v.2 ⟨rfl,rfl⟩⟩
   ·cases hv
  ·split at hv
   ·rename_i x t hx ht
    have hx:args= #[x]:=by rw[←Array.toArray_toList (xs:=args),hx]
    have ht:tys= #[t]:=by rw[←Array.toArray_toList (xs:=tys),ht]
    subst hx ht
    obtain⟨n,hn,rfl⟩:=Option.map_eq_some_iff.1 hv
    obtain⟨vx,hx,hn⟩:=Option.bind_eq_some_iff.1 hn
    exact⟨_,capV_sound h ho hx hn,repV_v.2 ⟨rfl,rfl⟩⟩
   ·cases hv
  ·split at hv
   ·rename_i x y hx
    have hx:args= #[x,y]:=by rw[←Array.toArray_toList (xs:=args),hx]
    subst hx
    obtain⟨vs,hvs,hv⟩:=Option.bind_eq_some_iff.1 hv
    have hr:=evL_rep h hvs
    unfold minI at hv
    split at hv
    ·rename_i k p k' q
     split at hv
     ·rename_i hkk
      subst hkk
      cases hv
      simp only[RepVs,List.map_cons,List.map_nil]at hr
      obtain⟨u1,r1,e1,h1,u2,r2,e2,h2,e3⟩:=hr
      rw[repV_v]at h1 h2
      simp only[List.cons.injEq]at e1
      obtain⟨e1,e1'⟩:=e1
      rw[←e1']at e2
      simp only[List.cons.injEq]at e2
      have hx:a.eval x= .int k p:=e1.trans h1.1
      have hy:a.eval y= .int k q:=e2.1.trans h2.1
      refine⟨_,?_,repV_v.2 ⟨rfl,rfl⟩⟩
      unfold Yld
      simp only[execOp,ho,resolve,invoke,builtin,Sem.run_bind,Sem.run_pure,Result.andThen_ok,List.map_toArray,List.map_cons,List.map_nil,hx,hy,Builtin.min_,List.foldlM,Builtin.min2]
     ·cases hv
    ·cases hv
   ·cases hv
  ·cases hv
 ·cases hv
theorem SRep.fix{c:Ctx}{m:Nat→Value}{s:St}{a:Act}{w:World}(h:SRep c m s a w){κ:Nat}{e:TypeId}{cs:List AV}{ds:List D}(hB:gt κ s.hp=some (.box e cs))(hds:allD cs=some ds):SRep c m (s.fix κ (.agg ds)) a w:=by
 have hdom: ∀j B',gt j (s.fix κ (.agg ds)).hp=some B'→j≠κ∧ ∃B0,gt j s.hp=some B0∧B'=fixB κ (.agg ds) B0:=by
  intro j B' hj
  obtain⟨B0,h1,h2⟩:=gt_some_mapv (f:=fixB κ (.agg ds)) hj
  rw[gt_del]at h1
  split at h1
  ·cases h1
  ·rename_i hne;exact⟨hne,B0,h1,h2⟩
 have hF: ∀b,Forb c m (s.fix κ (.agg ds)).hp b→Forb c m s.hp b:=by
  rintro b (hX|⟨j,B',h1,h2⟩)
  ·exact .inl hX
  ·obtain⟨_,B0,h3,_⟩:=hdom j B' h1
   exact .inr ⟨j,B0,h3,h2⟩
 have hk:Kept w (Forb c m s.hp) w (Forb c m (s.fix κ (.agg ds)).hp):=fun b _ hb=>⟨fun h'=>hb (hF b h'),rfl⟩
 obtain⟨b,cells,h1,h2,h3,h4⟩:=h.heap κ _ hB
 have hx: ∀u,RepV w (Forb c m (s.fix κ (.agg ds)).hp) m (.ptr κ 0) u→RepV w (Forb c m (s.fix κ (.agg ds)).hp) m (.eaddr (.agg ds)) u:=by
  intro u hu
  simp only[RepV]at hu
  obtain⟨b',h5,rfl⟩:=hu
  rw[h1]at h5;simp at h5;subst h5
  simp only[RepV,RepD]
  refine⟨b,0,.agg cells,rfl,?_,⟨cells.toList,by simp,allD_rep hds (RepVs.kept hk (Nat.le_refl _) _ _ h3) (by simpa using h4)⟩,(Array.getElem?_eq_some_iff.1 h2).1,fun i z hz=> ?_⟩
  ·rintro(hX|⟨j,B',h6,h7⟩)
   ·exact h.nox κ _ b hB (by rw[h1];rfl) hX
   ·obtain⟨hne,B0,h8,_⟩:=hdom j B' h6
    exact h.sep j κ B0 _ b h8 hB hne h7 (by rw[h1];rfl)
  ·rw[Nat.zero_add,cell_of_row w b i cells e (0,0) h2];simpa[Value.cells]using hz
 refine⟨h.defers,h.nt,fun t v ht=> ?_,fun j B' hj=> ?_,?_,?_,?_,h.fr,h.xlt,h.pin,h.pinp,h.gl⟩
 ·obtain⟨v0,k1,rfl⟩:=gt_some_mapv (f:=fixV κ (.agg ds)) ht
  exact RepV.fix hx v0 _ (RepV.kept hk (Nat.le_refl _) v0 _ (h.slot t v0 k1))
 ·obtain⟨hne,B0,k1,rfl⟩:=hdom j B' hj
  have:=RepB.kept hk (Nat.le_refl _) (fun _ _ _=>rfl) (h.heap j B0 k1)
  cases B0 with
  |box e' cs'=>
   obtain⟨b',c',k2,k3,k4,k5⟩:=this
   exact⟨b',c',k2,k3,RepVs.fix hx _ _ k4,k5⟩
  |ints e' k xs cc=>exact this
  |row e' n xs cc=>exact this
  |map kvs=>
   obtain⟨b',es,ck,k2,k3,k4⟩:=this
   exact⟨b',es,ck,k2,k3,RepVs.fix hx _ _ k4⟩
  |vrow e' xs=>
   obtain⟨vals,k2,k3,k4⟩:=this
   exact⟨vals,k2,RepVs.fix hx _ _ k3,k4⟩
 ·intro j j' B1 B2 b' k1 k2
  obtain⟨_,B3,k3,_⟩:=hdom j B1 k1
  obtain⟨_,B4,k4,_⟩:=hdom j' B2 k2
  exact h.sep j j' B3 B4 b' k3 k4
 ·intro j B1 b' k1
  obtain⟨_,B3,k3,_⟩:=hdom j B1 k1
  exact h.nox j B3 b' k3
 ·intro j B1 b' k1
  obtain⟨_,B3,k3,_⟩:=hdom j B1 k1
  exact h.old j B3 b' k3
def Did(P:Program)(o:Oper)(a:Act)(w:World)(u:Value)(w':World):Prop:=
 (execOp a.eval o).run P w= .ok (.value u) w'∨(u=undef∧(execOp a.eval o).run P w= .ok .skip w')
def appT(P:Program)(t:TypeId):Option (TypeId×Nat×Nat):=
 match P.underlying t with
 |some (.slice e)=>match P.info? e with
  |some i=>match i.zero with
   |some z=>if z.cells.size=i.size∧i.size≠0 then some (e,i.size,i.bytes)else none
   |none=>none
  |none=>none
 |_=>none
theorem appT_parts{P:Program}{t e n by':Nat}(h:appT P t=some (e,n,by')): ∃i z,P.underlying t=some (.slice e)∧P.info? e=some i∧i.zero=some z∧z.cells.size=n∧i.size=n∧i.bytes=by'∧0<n:=by
 unfold appT at h
 split at h
 ·rename_i e' hu
  split at h
  ·rename_i i hi
   split at h
   ·rename_i z hz
    split at h
    ·rename_i hc
     simp only[Option.some.injEq,Prod.mk.injEq]at h
     obtain⟨rfl,rfl,rfl⟩:=h
     exact⟨i,z,hu,hi,hz,hc.1,rfl,rfl,by omega⟩
    ·cases h
   ·cases h
  ·cases h
 ·cases h
theorem ownRow_of{w:World}{e:TypeId}{size:Nat}{v:Value}{n:Nat}{xs:List Value}(h:w.ownsRow 0 e size v n xs):OwnRow w e size v n xs:=by
 refine⟨h.1,?_⟩
 rcases h.2 with⟨rfl,rfl⟩|⟨g,cap,cur,rfl,_,hg,hn,hm,hs,ht⟩
 ·exact .inl ⟨rfl,none,rfl⟩
 ·by_cases hc:cap=0
  ·subst hc
   have:n=0:=by omega
   subst this
   exact .inl ⟨rfl,_,rfl⟩
  ·exact .inr ⟨g,0,cap,cur,rfl,by omega,hg,hn,hm,by rw[Nat.zero_add];exact Nat.le_of_eq hs.symm,by simpa using ht⟩
theorem run_append_zero{P:Program}{w:World}{t ty e n by':Nat}(hT:appT P t=some (e,n,by')){base:Option Addr}{len cap:Nat}{a:Option Addr}{c:Nat}(h:len≤cap):
  (Builtin.append_ #[t,t] ty #[.slice base len cap,.slice a 0 c]).run P w= .ok (.slice base len cap) w:=by
 obtain⟨i,z,hu,hi,hz,h1,h2,h3,h4⟩:=appT_parts hT
 cases a<;>cases base<;>simp[Builtin.append_,run_underlying hu,sizeOf,typeInfo,hi,Builtin.lenOf,h,Builtin.firstCells,loadCells,loadCellsFrom,storeCells]
theorem run_append_roomO{P:Program}(w:World)(t ty e:TypeId)(i:TypeInfo)(ht:P.underlying t=some (.slice e))(hi:P.info? e=some i)
  (g o sLen sCap:Nat)(cur:Array Value)(hg:w.heap[g]? =some (.cells cur e (0,0)))
  (a:Addr)(m c:Nat)(news:List Value)(hl:news.length=m*i.size)(hnews: ∀j u,news[j]? =some u→w.cell? (a.add j)=some u)(h1: ∀u∈news,u.oneCell'=true)
  (hroom:sLen+m≤sCap)(hfit:o+sLen*i.size+news.length≤cur.size):
  (Builtin.append_ #[t,t] ty #[.slice (some ⟨g,o,none⟩) sLen sCap,.slice (some a) m c]).run P w=
   .ok (.slice (some ⟨g,o,none⟩) (sLen+m) sCap) (w.setRow g (cur.toList.take (o+sLen*i.size)++news++cur.toList.drop (o+sLen*i.size+news.length)).toArray):=by
 have hf:=run_firstCells_some (P:=P) w i.size m a m c news hl hnews
 have hst:=run_storeCells_at P g (o+sLen*i.size) e news 0 cur w hg (by simpa using hfit) h1
 simp only[Nat.add_zero]at hst
 simp[Builtin.append_,run_underlying ht,sizeOf,typeInfo,hi,Builtin.lenOf,hroom,hf,addr_add,hst]
theorem drop_take_mid{α:Type}(A N:List α)(o l k:Nat)(hN:N.length=k)(h:o+l≤A.length):((A.take (o+l)++N++A.drop (o+l+k)).drop o).take (l+k)=(A.drop o).take l++N:=by
 have h1:(A.take (o+l)).length=o+l:=by simp;omega
 rw[List.append_assoc,List.drop_append_of_le_length (by omega),←List.append_assoc]
 have h2:(A.take (o+l)).drop o=(A.drop o).take l:=by rw[List.drop_take];congr 1;omega
 rw[h2]
 have h3:((A.drop o).take l++N).length=l+k:=by simp[hN];omega
 rw[←h3]
 exact List.take_left
theorem run_appendA{P:Program}{w:World}{t ty e n by':Nat}(hT:appT P t=some (e,n,by')){v:Value}{l:Nat}{xs:List Value}(hown:OwnRow w e n v l xs)
  {a:Option Addr}{k c:Nat}{news:List Value}(hl:news.length=k*n)(ha:news≠ []→ ∃b off,a=some ⟨b,off,none⟩∧ ∀(i:Nat) x,news[i]? =some x→w.cell? ⟨b,off+i,none⟩=some x)(h1: ∀u∈news,u.oneCell'=true)
  (hm:l+k≤maxLen)(hb:(l+k)*by'≤140737488355328):
  ∃v' w',(Builtin.append_ #[t,t] ty #[v,.slice a k c]).run P w= .ok v' w'∧OwnRow w' e n v' (l+k) (xs++news)∧Fr (fun b=>blkOf v=some b) w w'∧(∀b,blkOf v'=some b→blkOf v=some b∨w.heap.size≤b)∧
   (∀a0 l0 cap,v= .slice a0 l0 cap→l+k≤cap→ ∃a1,v'= .slice a1 (l+k) cap):=by
 obtain⟨i,z,hu,hi,hz,hzs,hs,hby,hn⟩:=appT_parts hT
 by_cases hk:k=0
 ·subst hk
  have hnews:news= []:=List.eq_nil_of_length_eq_zero (by omega)
  subst hnews
  obtain⟨a0,cap,rfl,hcap,_⟩:=hown.cells
  refine⟨_,w,run_append_zero hT hcap,by simpa using hown,Fr.refl _ _,fun b hb=> .inl hb,fun a1 l0 cap' h _=> ?_⟩
  simp at h
  obtain⟨rfl,_,rfl⟩:=h
  exact⟨a0,by simp⟩
 ·have hne:news≠ []:=by
   intro e;rw[e]at hl
   rcases Nat.mul_eq_zero.1 hl.symm with h|h
   ·exact hk h
   ·omega
  obtain⟨b,off,rfl,hc⟩:=ha hne
  have hc': ∀j u,news[j]? =some u→w.cell? ((⟨b,off,none⟩:Addr).add j)=some u:=fun j u hj=>by rw[addr_add];exact hc j u hj
  rcases hown.2 with⟨rfl,a0,rfl⟩|⟨g,o,cap,cur,rfl,h0,hg,hnc,hcm,hcs,ht⟩
  ·have hxs:xs= []:=List.eq_nil_of_length_eq_zero (by rw[hown.1];simp)
   subst hxs
   cases a0 with
   |none=>
    obtain⟨v',w',r1,r2,r3,r4⟩:=run_append_own (P:=P) w 0 t ty e i z n by' hu hi hz hs hby hzs hn (.slice none 0 0) 0 [] (World.ownsRow_nil w 0 e n) ⟨b,off,none⟩ k c news hl hc' h1 hm hb (Nat.zero_le _)
    refine⟨v',w',r1,by simpa using ownRow_of r2,Fr.ofGrown r3 (fun k hk=>by cases hk),fun b' hb'=> ?_,?_⟩
    ·right
     rcases r2.2 with⟨rfl,_⟩|⟨g,cap,cur,rfl,_,hg,_⟩
     ·simp[blkOf]at hb'
     ·simp only[blkOf]at hb'
      split at hb'
      ·cases hb'
      ·simp at hb';subst hb'
       rcases Nat.lt_or_ge g w.heap.size with hlt|hge
       ·exfalso
        have hr:=run_append_nil (P:=P) w t ty e i z hu hi hz ⟨b,off,none⟩ k c news (by rw[hs];exact hl) hc' (by omega) (by unfold maxLen at hm;omega) (by rw[hby];simp only[Nat.zero_add]at hb;omega)
        rw[hr]at r1
        simp at r1
       ·exact hge
    ·intro a1 l0 cap h hh
     simp at h
     obtain⟨_,_,rfl⟩:=h
     omega
   |some ad=>
    have hr:=run_append_grow (P:=P) w t ty e i z hu hi hz ad 0 0 [] (by simp) (by simp) ⟨b,off,none⟩ k c news (by rw[hs];exact hl) hc' (by omega) (by unfold maxLen at hm;omega) (by rw[hby];exact growslice_fits (by omega) hb)
    simp only[Nat.zero_add]at hr hm hb ⊢
    have hge:=grownCap_ge w k 0 e
    have hcm:=grownCap_le_maxLen w k 0 e hm
    refine⟨_,_,hr,⟨by simp[hl],.inr ⟨w.heap.size,0,_,_,rfl,by omega,heap_alloc_new w.drew _,hge,hcm,?_,?_⟩⟩,?_,fun b' hb'=> ?_,?_⟩
    ·rw[Nat.zero_add]
     refine Nat.le_of_eq (Eq.symm ?_)
     simp only[Array.size_append,List.size_toArray,size_zeroCells,hzs,hl,List.length_nil,Nat.zero_add,←Nat.add_mul]
     congr 1;omega
    ·simp only[Array.toList_append,List.nil_append,List.drop_zero]
     rw[←hl]
     exact List.take_left
    ·exact⟨rfl,rfl,rfl,by simp,fun j hj _=>Below.heap_alloc w.drew _ j hj⟩
    ·right
     simp only[blkOf]at hb'
     split at hb'
     ·cases hb'
     ·simp at hb';omega
    ·intro a1 l0 cap h hh
     simp at h
     obtain⟨_,_,rfl⟩:=h
     omega
  ·have hc0:cap≠0:=by omega
   by_cases hroom:l+k≤cap
   ·have hfit:o+l*i.size+news.length≤cur.size:=by
     have h9:(l+k)*n≤cap*n:=Nat.mul_le_mul_right _ hroom
     rw[Nat.add_mul]at h9
     rw[hl,hs];omega
    have hr:=run_append_roomO (P:=P) w t ty e i hu hi g o l cap cur hg ⟨b,off,none⟩ k c news (by rw[hs];exact hl) hc' h1 hroom hfit
    refine⟨_,_,hr,⟨by rw[List.length_append,hown.1,hl,Nat.add_mul],.inr ⟨g,o,cap,_,rfl,h0,setRow_heap w g cur _ e _ hg,hroom,hcm,?_,?_⟩⟩,?_,fun b' hb'=> .inl hb',?_⟩
    ·simp only[List.size_toArray,List.length_append,List.length_take,List.length_drop,Array.length_toList]
     rw[hs]at hfit ⊢
     omega
    ·rw[hs,hl,Nat.add_mul,←ht]
     exact drop_take_mid _ _ _ _ _ hl (by rw[hs]at hfit;simp;omega)
    ·exact⟨rfl,rfl,rfl,by simp,fun j _ hj=>setRow_other w g j _ (fun e=>hj (by rw[e];simp[blkOf,hc0]))⟩
    ·intro a1 l0 cap' h _
     simp at h
     obtain⟨_,_,rfl⟩:=h
     exact⟨_,rfl⟩
   ·have holds: ∀j u,xs[j]? =some u→w.cell? ((⟨g,o,none⟩:Addr).add j)=some u:=fun j u hj=>by rw[addr_add];exact ownRow_cell hown rfl hj
    have hr:=run_append_grow (P:=P) w t ty e i z hu hi hz ⟨g,o,none⟩ l cap xs (by rw[hs];exact hown.1) holds ⟨b,off,none⟩ k c news (by rw[hs];exact hl) hc' (by omega) (by unfold maxLen at hm;omega) (by rw[hby];exact growslice_fits (by omega) hb)
    have hge:=grownCap_ge w (l+k) cap e
    have hcm:=grownCap_le_maxLen w (l+k) cap e hm
    refine⟨_,_,hr,⟨by rw[List.length_append,hown.1,hl,Nat.add_mul],.inr ⟨w.heap.size,0,_,_,rfl,by omega,heap_alloc_new w.drew _,hge,hcm,?_,?_⟩⟩,?_,fun b' hb'=> ?_,?_⟩
    ·rw[Nat.zero_add]
     refine Nat.le_of_eq (Eq.symm ?_)
     simp only[Array.size_append,List.size_toArray,size_zeroCells,hzs,hown.1,hl,←Nat.add_mul]
     congr 1;omega
    ·simp only[Array.toList_append,List.append_assoc,List.drop_zero]
     rw[←List.append_assoc,show(l+k)*n=(xs++news).length by rw[List.length_append,hown.1,hl,Nat.add_mul]]
     exact List.take_left
    ·exact⟨rfl,rfl,rfl,by simp,fun j hj _=>Below.heap_alloc w.drew _ j hj⟩
    ·right
     simp only[blkOf]at hb'
     split at hb'
     ·cases hb'
     ·simp at hb';omega
    ·intro a1 l0 cap' h hh
     simp at h
     obtain⟨_,_,rfl⟩:=h
     omega
theorem run_appendD{P:Program}{w:World}{t ty e n by':Nat}(hT:appT P t=some (e,n,by')){a0:Option Addr}{l cap:Nat}{xs:List Value}(hxl:xs.length=l*n)(hxs:xs≠ []→ ∃b off,a0=some ⟨b,off,none⟩∧ ∀(i:Nat) x,xs[i]? =some x→w.cell? ⟨b,off+i,none⟩=some x)(hl0:0<l)
  {a:Option Addr}{k c:Nat}{news:List Value}(hl:news.length=k*n)(ha:news≠ []→ ∃b off,a=some ⟨b,off,none⟩∧ ∀(i:Nat) x,news[i]? =some x→w.cell? ⟨b,off+i,none⟩=some x)
  (hle:l≤cap)(hlt:cap<l+k)(hm:l+k≤maxLen)(hb:(l+k)*by'≤140737488355328):
  ∃v' w',(Builtin.append_ #[t,t] ty #[.slice a0 l cap,.slice a k c]).run P w= .ok v' w'∧OwnRow w' e n v' (l+k) (xs++news)∧Fr (fun _=>False) w w'∧(∀b,blkOf v'=some b→w.heap.size≤b):=by
 obtain⟨i,z,hu,hi,hz,hzs,hs,hby,hn⟩:=appT_parts hT
 have hne:news≠ []:=by
  intro e;rw[e]at hl
  rcases Nat.mul_eq_zero.1 hl.symm with h|h
  ·omega
  ·omega
 have hne0:xs≠ []:=by
  intro e;rw[e]at hxl
  rcases Nat.mul_eq_zero.1 hxl.symm with h|h
  ·omega
  ·omega
 obtain⟨b,off,rfl,hc⟩:=ha hne
 obtain⟨g,off0,rfl,hc0⟩:=hxs hne0
 have hc': ∀j u,news[j]? =some u→w.cell? ((⟨b,off,none⟩:Addr).add j)=some u:=fun j u hj=>by rw[addr_add];exact hc j u hj
 have holds: ∀j u,xs[j]? =some u→w.cell? ((⟨g,off0,none⟩:Addr).add j)=some u:=fun j u hj=>by rw[addr_add];exact hc0 j u hj
 have hr:=run_append_grow (P:=P) w t ty e i z hu hi hz ⟨g,off0,none⟩ l cap xs (by rw[hs];exact hxl) holds ⟨b,off,none⟩ k c news (by rw[hs];exact hl) hc' (by omega) (by unfold maxLen at hm;omega) (by rw[hby];exact growslice_fits (by omega) hb)
 have hge:=grownCap_ge w (l+k) cap e
 have hcm:=grownCap_le_maxLen w (l+k) cap e hm
 refine⟨_,_,hr,⟨by rw[List.length_append,hxl,hl,Nat.add_mul],.inr ⟨w.heap.size,0,_,_,rfl,by omega,heap_alloc_new w.drew _,hge,hcm,?_,?_⟩⟩,?_,fun b' hb'=> ?_⟩
 ·rw[Nat.zero_add]
  refine Nat.le_of_eq (Eq.symm ?_)
  simp only[Array.size_append,List.size_toArray,size_zeroCells,hzs,hxl,hl,←Nat.add_mul]
  congr 1;omega
 ·simp only[Array.toList_append,List.append_assoc,List.drop_zero]
  rw[←List.append_assoc,show(l+k)*n=(xs++news).length by rw[List.length_append,hxl,hl,Nat.add_mul]]
  exact List.take_left
 ·exact⟨rfl,rfl,rfl,by simp,fun j hj _=>Below.heap_alloc w.drew _ j hj⟩
 ·simp only[blkOf]at hb'
  split at hb'
  ·cases hb'
  ·simp at hb';omega
def kL(d:Nat):Nat:=d+16
theorem SRep.newBox{c:Ctx}{m:Nat→Value}{s:St}{a:Act}{w:World}(h:SRep c m s a w)(κ:Nat)(h16:16≤κ)(e:TypeId){cs:List AV}{us:Array Value}(hr:RepVs w (Forb c m s.hp) m cs us.toList)(h1: ∀u∈us.toList,u.oneCell'=true):
  SRep c (upm m κ (.pointer (some ⟨w.heap.size,0,none⟩))) (s.setB true κ (.box e (killVs κ cs))) a (w.alloc (.cells us e)):=by
 have hfr:Fr (fun b=> ∃B0,gt κ s.hp=some B0∧blkOf (m κ)=some b) w (w.alloc (.cells us e)):=Fr.alloc _ _ _
 have hblk: ∀b,blkOf (.pointer (some (⟨w.heap.size,0,none⟩:Addr)))=some b→(∃B0,gt κ s.hp=some B0∧blkOf (m κ)=some b)∨w.heap.size≤b:=fun b hb=>by
  simp[blkOf]at hb;right;omega
 have hk:=h.setB_kept true κ (.box e (killVs κ cs)) _ hfr hblk
 refine(h.setB true κ _ _ (.inl rfl) (.inl (h.nopin h16)) hfr hblk ?_).1
 simp only[RepB,upm_same]
 exact⟨w.heap.size,us,rfl,heap_alloc_new w _,RepVs.kill (fun j hj=>upm_ne _ _ hj) _ _ (RepVs.kept hk hfr.size _ _ hr),by simpa using h1⟩
theorem SRep.newRow{c:Ctx}{m:Nat→Value}{s:St}{a:Act}{w w':World}(h:SRep c m s a w)(κ:Nat)(h16:16≤κ)(B:Blk)(u:Value)(hfr:Fr (fun _=>False) w w')(hu: ∀b,blkOf u=some b→w.heap.size≤b)
  (hB:(∃e k xs cc,B= .ints e k xs cc∧OwnRow w' e 1 u xs.length (xs.map (.int k))∧CapIs cc u)∨(∃e n xs cc vals,B= .row e n xs cc∧OwnRow w' e n u xs.length vals∧CapIs cc u∧RepRow w (Forb c m s.hp) (fun v=>v.cells.size=n) xs vals)):
  SRep c (upm m κ u) (s.setB true κ B) a w':=by
 have hfr':Fr (fun b=> ∃B0,gt κ s.hp=some B0∧blkOf (m κ)=some b) w w':=hfr.mono (fun _ _ h=>h.elim)
 have hblk: ∀b,blkOf u=some b→(∃B0,gt κ s.hp=some B0∧blkOf (m κ)=some b)∨w.heap.size≤b:=fun b hb=> .inr (hu b hb)
 have hk:=h.setB_kept true κ B u hfr' hblk
 refine(h.setB true κ B u (.inl rfl) (.inl (h.nopin h16)) hfr' hblk ?_).1
 rcases hB with⟨e,k,xs,cc,rfl,h1,h2⟩|⟨e,n,xs,cc,vals,rfl,h1,h2,h3⟩
 ·simp only[RepB,upm_same];exact⟨h1,h2⟩
 ·simp only[RepB,upm_same];exact⟨vals,h1,h2,RepRow.kept hk _ _ h3⟩
def AV.toD:AV→Option D
 | .d x=>some x
 | .agg cs=>match mkAgg cs with| .d x=>some x|_=>none
 |_=>none
theorem toD_rep{w:World}{F:Nat→Prop}{m:Nat→Value}{v:AV}{u:Value}{x:D}(h:RepV w F m v u)(hx:v.toD=some x):RepD w F x u:=by
 cases v with
 |d y=>simp only[AV.toD,Option.some.injEq]at hx;subst hx;simpa only[RepV]using h
 |agg cs=>
  simp only[AV.toD]at hx
  simp only[RepV]at h
  obtain⟨us,rfl,hr,h1⟩:=h
  have:=mkAgg_rep hr h1
  split at hx
  ·rename_i y hy;cases hx;rw[hy]at this;simpa only[RepV]using this
  ·cases hx
 |_=>simp[AV.toD]at hx
end Go.Proofs.Ytngghkoghbpceaa
