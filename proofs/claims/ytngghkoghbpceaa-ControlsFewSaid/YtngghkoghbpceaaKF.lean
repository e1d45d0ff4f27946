/-
  The abstract view of the machine: arguments of laws.
  Conditions: none; nothing here speaks of one program.
-/
import Derived.Test.YtngghkoghbpceaaKA
import Derived.ProofKit
import Derived.OpenShut
import Derived.ShutString
import Derived.ChangeOld
import Derived.Below
import Derived.Deep.Slices
import Derived.Test.YtngghkoghbpceaaKB2
import Derived.Test.YtngghkoghbpceaaKE
namespace Go.Proofs.Ytngghkoghbpceaa
open Go.ChangeShapes Go.WideShapes Go.ChangeAt Go.RowKit
set_option linter.unusedVariables false
def Tr(P:Program)(W:World)(t:TypeId)(cs:List Value):Prop:=
 ∃(H:Type) (enc:TypeId×Value→H) (fuel:Nat) (x:DataW H×List MemPlace),DataW.trod enc P W 0 (fun _=>true) true fuel t cs=some x
theorem Tr.of{H:Type}{enc:TypeId×Value→H}{P:Program}{W:World}{t:TypeId}{v:Value}{d:DataW H}{p:List MemPlace}(h:DataW.Trod enc P W 0 (fun _=>true) true t v d p):Tr P W t v.cells.toList:=by
 obtain⟨fuel,hf⟩:=h
 exact⟨H,enc,fuel,_,hf⟩
theorem Tr.int{P:Program}{W:World}{t:TypeId}{cs:List Value}{k:IntKind}(hu:P.underlying t=some (.int k))(h:Tr P W t cs): ∃n,cs= [.int k n]∧(Lit.int k n).wf=true:=by
 obtain⟨H,enc,fuel,x,hf⟩:=h
 obtain⟨n,h1,_,h2⟩:=DataW.trod_int hu hf
 exact⟨n,h1,h2⟩
theorem Tr.bool{P:Program}{W:World}{t:TypeId}{cs:List Value}(hu:P.underlying t=some .bool)(h:Tr P W t cs): ∃b,cs= [.bool b]:=by
 obtain⟨H,enc,fuel,x,hf⟩:=h
 cases fuel with
 |zero=>simp[DataW.trod]at hf
 |succ n=>
  unfold DataW.trod at hf
  rw[hu]at hf
  split at hf<;>simp_all
theorem cells?_get{w:World}{a:Addr}{n:Nat}{cs:List Value}(h:w.cells? 0 a n=some cs):cs.length=n∧ ∀i,i<n→w.cell? (a.add i)=cs[i]? :=by
 unfold World.cells? at h
 rw[if_pos (Nat.zero_le _)]at h
 refine⟨by simpa using mapM_some_length h,fun i hi=> ?_⟩
 have:=mapM_some_get h i i (by simp[hi])
 exact this
theorem addr_add_spot{w:World}{a:Addr}{v:Value}(h:w.cell? a=some v):a.spot=none:=World.cell?_spot h
theorem Tr.slice{P:Program}{W:World}{t e:TypeId}{m:Nat}{cs:List Value}(hu:P.underlying t=some (.slice e))(hc:P.cellsOf e=m)(hm:0<m)(h:Tr P W t cs):
  ∃(a:Option Addr) (rows:List (List Value)) (cap:Nat),cs= [.slice a rows.length cap]∧rows.length≤cap∧cap≤maxLen∧(a=none→cap=0)∧Cells W a rows.flatten∧ ∀r∈rows,r.length=m∧Tr P W e r:=by
 obtain⟨H,enc,fuel,x,hf⟩:=h
 rcases DataW.trod_slice hu hf with⟨rfl,_⟩|⟨a,len,cap,elems,rest,n,_,rfl,_,_,hl,hcap,hlen,hel,_,_⟩
 ·exact⟨none,[],0,rfl,Nat.le_refl _,Nat.zero_le _,fun _=>rfl,Cells.nil _ _,by simp⟩
 ·rw[hc]at hel
  have hrow: ∀i,i<len→ ∃r,W.cells? 0 (a.add (i*m)) m=some r∧Tr P W e r:=by
   intro i hi
   have h1:=hel i hi
   have h2:(elems[i]?).isSome=true:=by
    have:i<elems.length:=by omega
    simp[this]
   rw[←h1]at h2
   obtain⟨y,hy⟩:=Option.isSome_iff_exists.1 h2
   obtain⟨r,hr,hr2⟩:=Option.bind_eq_some_iff.1 hy
   exact⟨r,hr,H,enc,n,y,hr2⟩
  obtain⟨R,hR⟩:=Go.Deep.choose_lt (α:=List Value) (p:=fun i r=>W.cells? 0 (a.add (i*m)) m=some r∧Tr P W e r) hrow
  refine⟨some a,(List.range len).map R,cap,by simp,by simpa using hl,hcap,by simp,?_,?_⟩
  ·intro hne
   have hlenpos:0<len:=by
    rcases Nat.eq_zero_or_pos len with h0|h0
    ·subst h0;simp at hne
    ·exact h0
   have h0:=cells?_get (hR 0 hlenpos).1
   have hsp:a.spot=none:=by
    have h1:=h0.2 0 hm
    obtain⟨v,hv⟩: ∃v,(R 0)[0]? =some v:=by
     have:0<(R 0).length:=by rw[h0.1];exact hm
     exact⟨(R 0)[0],by simp[this]⟩
    rw[hv]at h1
    simpa[Addr.add]using addr_add_spot h1
   obtain⟨b,off,spot⟩:=a
   simp only at hsp
   subst hsp
   refine⟨b,off,rfl,fun i v hv=> ?_⟩
   have hflat: ∀(l:List (List Value)),(∀r∈l,r.length=m)→ ∀i v,l.flatten[i]? =some v→ ∃r,l[i / m]? =some r∧r[i % m]? =some v:=by
    intro l
    induction l with
    |nil=>intro _ i v hv;simp at hv
    |cons r l ih=>
     intro hl i v hv
     have hr:r.length=m:=hl r (by simp)
     rw[List.flatten_cons,List.getElem?_append]at hv
     split at hv
     ·rename_i hlt
      rw[hr]at hlt
      refine⟨r,by rw[Nat.div_eq_of_lt hlt];rfl,by rw[Nat.mod_eq_of_lt hlt];exact hv⟩
     ·rename_i hge
      rw[hr]at hge hv
      obtain⟨r',h1,h2⟩:=ih (fun r hr=>hl r (by simp[hr])) (i - m) v hv
      have e1:i / m=(i - m) / m+1:=by
       have:i=(i - m)+m:=by omega
       rw[this,Nat.add_div_right _ hm];simp
      have e2:i % m=(i - m) % m:=by
       have:i=(i - m)+m:=by omega
       rw[this,Nat.add_mod_right];simp
      exact⟨r',by rw[e1];simpa using h1,by rw[e2];exact h2⟩
   obtain⟨r,h1,h2⟩:=hflat _ (by
    intro r hr
    obtain⟨j,hj,rfl⟩:=List.mem_map.1 hr
    exact(cells?_get (hR j (by simpa using hj)).1).1) i v hv
   have hj:i / m<len:=by
    have:=(List.getElem?_eq_some_iff.1 h1).1
    simpa using this
   have hr:r=R (i / m):=by simpa[hj]using h1.symm
   subst hr
   have h3:=(cells?_get (hR _ hj).1).2 (i % m) (Nat.mod_lt _ hm)
   rw[h2]at h3
   have e3:((⟨b,off,none⟩:Addr).add (i / m*m)).add (i % m)=⟨b,off+i,none⟩:=by
    have hdm:i / m*m+i % m=i:=Nat.div_add_mod' i m
    unfold Addr.add
    split<;>split<;>simp_all<;>omega
   rw[e3]at h3
   exact h3
  ·intro r hr
   obtain⟨j,hj,rfl⟩:=List.mem_map.1 hr
   have hj':j<len:=by simpa using hj
   exact⟨(cells?_get (hR j hj').1).1,(hR j hj').2⟩
theorem Tr.slice1{P:Program}{W:World}{t e:TypeId}{cs:List Value}(hu:P.underlying t=some (.slice e))(hc:P.cellsOf e=1)(h:Tr P W t cs):
  ∃(a:Option Addr) (xs:List Value) (cap:Nat),cs= [.slice a xs.length cap]∧xs.length≤cap∧cap≤maxLen∧(a=none→cap=0)∧Cells W a xs∧ ∀v∈xs,Tr P W e [v]:=by
 obtain⟨a,rows,cap,rfl,h1,h2,h3,h4,h5⟩:=h.slice hu hc (by decide)
 have hrows:rows=rows.flatten.map fun v=> [v]:=by
  have: ∀l:List (List Value),(∀r∈l,r.length=1)→l=l.flatten.map fun v=> [v]:=by
   intro l
   induction l with
   |nil=>intro _;rfl
   |cons r l ih=>
    intro hl
    obtain⟨v,rfl⟩:=List.length_eq_one_iff.1 (hl r (by simp))
    rw[List.flatten_cons,List.map_append,←ih (fun r hr=>hl r (by simp[hr]))]
    rfl
  exact this rows fun r hr=>(h5 r hr).1
 have hlen:rows.length=rows.flatten.length:=by
  have:=congrArg List.length hrows
  rw[List.length_map]at this;exact this
 refine⟨a,rows.flatten,cap,by rw[hlen],by rw[←hlen];exact h1,h2,h3,h4,fun v hv=> ?_⟩
 have: [v]∈rows:=by rw[hrows];exact List.mem_map.2 ⟨v,hv,rfl⟩
 exact(h5 _ this).2
theorem Tr.ints{P:Program}{W:World}{t e:TypeId}{k:IntKind}{cs:List Value}(hu:P.underlying t=some (.slice e))(he:P.underlying e=some (.int k))(hc:P.cellsOf e=1)(h:Tr P W t cs):
  ∃(a:Option Addr) (zs:List Int) (cap:Nat),cs= [.slice a zs.length cap]∧zs.length≤cap∧cap≤maxLen∧(a=none→cap=0)∧Cells W a (zs.map (.int k))∧ ∀z∈zs,(Lit.int k z).wf=true:=by
 obtain⟨a,xs,cap,rfl,h1,h2,h3,h4,h5⟩:=h.slice1 hu hc
 have: ∀xs:List Value,(∀v∈xs,Tr P W e [v])→ ∃zs:List Int,xs=zs.map (.int k)∧ ∀z∈zs,(Lit.int k z).wf=true:=by
  intro xs
  induction xs with
  |nil=>intro _;exact⟨[],rfl,by simp⟩
  |cons v xs ih=>
   intro hx
   obtain⟨zs,rfl,hz⟩:=ih fun u hu=>hx u (by simp[hu])
   obtain⟨n,hn,hw⟩:=(hx v (by simp)).int he
   simp only[List.cons.injEq,and_true]at hn
   subst hn
   refine⟨n::zs,rfl,fun z hz'=> ?_⟩
   rcases List.mem_cons.1 hz' with h'|h'
   ·rw[h'];exact hw
   ·exact hz z h'
 obtain⟨zs,rfl,hz⟩:=this xs h5
 exact⟨a,zs,cap,by simp,by simpa using h1,h2,h3,h4,hz⟩
theorem Tr.struct{P:Program}{W:World}{t:TypeId}{fs:Array Field}{cs:List Value}(hu:P.underlying t=some (.struct fs))(h:Tr P W t cs):
  cs.length=P.cellsOf t∧ ∀(i:Nat) (f:Field),fs[i]? =some f→Tr P W f.type ((cs.drop f.offset).take (P.cellsOf f.type)):=by
 obtain⟨H,enc,fuel,x,hf⟩:=h
 obtain⟨xs,n,_,_,hl,hxs,hx⟩:=DataW.trod_struct hu hf
 refine⟨hl,fun i f hi=> ?_⟩
 have h1:=hx i f hi
 have hi':i<xs.length:=by rw[hxs];exact(Array.getElem?_eq_some_iff.1 hi).1
 exact⟨H,enc,n,xs[i],by rw[h1];simp[hi']⟩
theorem Tr.field{P:Program}{W:World}{t e:TypeId}{fs:Array Field}{f:Field}{cs:List Value}{i off m:Nat}(hu:P.underlying t=some (.struct fs))(hi:fs[i]? =some f)(ho:f.offset=off)(he:f.type=e)(hm:P.cellsOf e=m)(h:Tr P W t cs):
  Tr P W e ((cs.drop off).take m):=by
 have:=(h.struct hu).2 i f hi
 rw[ho,he,hm]at this
 exact this
theorem len2{l:List Value}(h:l.length=2): ∃c0 c1,l= [c0,c1]:=by
 match l,h with| [c0,c1],_=>exact⟨c0,c1,rfl⟩
theorem Tr.agg{P:Program}{W:World}{r:Reach}{b0:Nat}{t:TypeId}{v:Value}{fs:Array Field}{n:Nat}(hu:P.underlying t=some (.struct fs))(hn:P.cellsOf t=n)(ho:Value.okWide P W r b0 t v)(h:Tr P W t v.cells.toList):
  ∃l:List Value,v= .agg l.toArray∧l.length=n∧Tr P W t l:=by
 obtain⟨cs,rfl,hsz⟩:=okWide_struct hu ho
 exact⟨cs.toList,by simp,by simpa using hsz.trans hn,h⟩
theorem Tr.elem{P:Program}{W:World}{t e:TypeId}{cs:List Value}{k n m:Nat}(hu:P.underlying t=some (.array n e))(hm:P.cellsOf e=m)(hk:k<n)(h:Tr P W t cs):Tr P W e ((cs.drop (k*m)).take m):=by
 obtain⟨H,enc,fuel,x,hf⟩:=h
 cases fuel with
 |zero=>simp[DataW.trod]at hf
 |succ f=>
  unfold DataW.trod at hf
  rw[hu]at hf
  simp only at hf
  split at hf
  ·obtain⟨xs,hxs,-⟩:=Option.map_eq_some_iff.1 hf
   have h1:=mapM_some_get hxs k k (by simp[hk])
   have hl:k<xs.length:=by
    have:=mapM_some_length hxs
    simp at this;omega
   rw[hm]at h1
   exact⟨H,enc,f,xs[k],by rw[h1];simp[hl]⟩
  ·cases hf
end Go.Proofs.Ytngghkoghbpceaa
namespace Go.Proofs.Ytngghkoghbpceaa
open Go.RowKit
set_option linter.unusedVariables false
def nobody:Nat→Prop:=fun _=>False
def ctx0(w:World):Ctx:= {w0:=w,S:=nobody,X:=nobody,pin:=fun _=>none}
theorem afun_calls{P:Program}{f:FuncId}{ds:List D}{x:Value}{us:List Value}{w:World}(h:AFun P f ds (.v x))(hr:RepVs w nobody (fun _=>undef) (ds.map .d) us)(hG:GTok w:=by intro b cs h;simp[gTab]at h):
  Calls P f us.toArray w fun e w'=>e= .returned x∧Below w.heap.size w w':=by
 have hF: ∀b,¬Forb (ctx0 w) (fun _=>undef) (hpFrom 0 []) b:=by
  rintro b (hX|⟨j,B',h1,h2⟩)
  ·exact hX
  ·simp[hpFrom,gt]at h1
 have hk:Kept w nobody w (Forb (ctx0 w) (fun _=>undef) (hpFrom 0 [])):=fun b _ hb=>⟨hF b,rfl⟩
 have hS:SRep (ctx0 w) (fun _=>undef) (St.bare []) Act.none0 w:=by
  refine⟨Marks.nil _ _,rfl,by simp[St.bare,gt],by simp[St.bare,hpFrom,gt],by simp[St.bare,hpFrom,gt],by simp[St.bare,hpFrom,gt],by simp[St.bare,hpFrom,gt],Fr.refl _ _,fun b hb=>hb.elim,fun κ v hv=>(by cases hv),fun κ v hv=>(by cases hv),hG,fun b cs _ h=>h⟩
 refine(h (ctx0 w) (fun _=>undef) us w hS (RepVs.kept hk (Nat.le_refl _) _ _ hr) (fun κ v hv=>by cases hv)).mono ?_
 rintro e w' ⟨u,m',r,hs',rfl,⟨rfl,rfl⟩,_,h4,h5⟩
 have h6:=(repV_v.1 h5).1
 subst h6
 refine⟨rfl,?_⟩
 have hf:=h4.fr
 exact⟨hf.os,hf.tape,hf.output,hf.size,fun k hk=>hf.block k hk (fun h=>h)⟩
theorem repVs_nil{w:World}{m:Nat→Value}:RepVs w nobody m [] []:=by simp only[RepVs]
theorem repVs_cons{w:World}{m:Nat→Value}{d:D}{u:Value}{ds:List D}{us:List Value}(h:RepD w nobody d u)(hr:RepVs w nobody m (ds.map .d) us):RepVs w nobody m ((d::ds).map .d) (u::us):=by
 simp only[List.map_cons,RepVs,RepV]
 exact⟨u,us,rfl,h,hr⟩
theorem repD_cells{w:World}{k:IntKind}{a:Option Addr}{zs:List Int}{cap:Nat}(h1:zs.length≤cap)(h2:cap≤maxLen)(h3:a=none→cap=0)(h4:Cells w a (zs.map (.int k))):RepD w nobody (.ints k zs none) (.slice a zs.length cap):=by
 simp only[RepD]
 refine⟨a,cap,rfl,h1,h2,h3,by simp,fun hne=> ?_⟩
 obtain⟨b,off,h5,h6⟩:=h4 (by simpa using hne)
 exact⟨b,off,h5,fun h=>h,fun i x hi=>h6 i _ (by rw[List.getElem?_map,hi];rfl)⟩
theorem repD_int{w:World}{k:IntKind}{x:Int}:RepD w nobody (.v (.int k x)) (.int k x):=by simp only[RepD];first|exact⟨rfl,rfl⟩|exact⟨trivial,rfl⟩
theorem repD_bool{w:World}{b:Bool}:RepD w nobody (.v (.bool b)) (.bool b):=by simp only[RepD];first|exact⟨rfl,rfl⟩|exact⟨trivial,rfl⟩
theorem okWide_array{P:Program}{w:World}{r:Reach}{base:Nat}{t e:TypeId}{n:Nat}{v:Value}(ht:P.underlying t=some (.array n e))(h:Value.okWide P w r base t v): ∃cs,v= .agg cs∧cs.size=P.cellsOf t:=by
 simp only[Value.okWide,ht]at h
 obtain⟨cs,h1,h2,_⟩:=h
 exact⟨cs,h1,h2⟩
theorem Tr.int2{P:Program}{W:World}{r:Reach}{base:Nat}{t e:TypeId}{k:IntKind}{v:Value}(hu:P.underlying t=some (.array 2 e))(he:P.underlying e=some (.int k))(hc:P.cellsOf e=1)(hn:P.cellsOf t=2)(ho:Value.okWide P W r base t v)(h:Tr P W t v.cells.toList):
  ∃a b,v= .agg #[.int k a,.int k b]∧(Lit.int k a).wf=true∧(Lit.int k b).wf=true:=by
 obtain⟨cs,rfl,hs⟩:=okWide_array hu ho
 rw[hn]at hs
 obtain⟨c0,c1,hl⟩:=len2 (l:=cs.toList) (by simpa using hs)
 have hcs:cs= #[c0,c1]:=by rw[←Array.toArray_toList (xs:=cs),hl]
 subst hcs
 obtain⟨a,ha,wa⟩:=Tr.int he (Tr.elem (k:=0) (n:=2) (m:=1) hu hc (by decide) h)
 obtain⟨b,hb,wb⟩:=Tr.int he (Tr.elem (k:=1) (n:=2) (m:=1) hu hc (by decide) h)
 simp[Value.cells]at ha hb
 subst ha hb
 exact⟨a,b,rfl,wa,wb⟩
theorem repD_int2{w:World}{k:IntKind}{a b:Int}:RepD w nobody (.agg [.v (.int k a),.v (.int k b)]) (.agg #[.int k a,.int k b]):=by
 simp only[RepD,RepRow]
 exact⟨[.int k a,.int k b],rfl,_,[.int k b],rfl,rfl,⟨rfl,rfl⟩,_,[],rfl,rfl,⟨rfl,rfl⟩,rfl⟩
set_option linter.constructorNameAsVariable false
def argD(l:List ((s:Sh)×s.T)):List D:=l.map fun a=>a.1.toD a.2
def argSV(l:List ((s:Sh)×s.T)):List SV:=l.map fun a=>a.1.sv a.2
theorem args_le: ∀ {l:List ((s:Sh)×s.T)},l.all (fun a=>a.1.ok)=true→RepsLe ((argD l).map .d) (SV.toAVs (argSV l))
 | [],_=>fun w F m us hr=>hr
 |a::l,h=>by
  simp only[List.all_cons,Bool.and_eq_true]at h
  intro w F m us hr
  simp only[argD,argSV,List.map_cons,SV.toAVs,RepVs]at hr ⊢
  obtain⟨u,rest,e,r1,r2⟩:=hr
  exact⟨u,rest,e,a.1.sv_le a.2 h.1 w F m u r1,args_le h.2 w F m rest r2⟩
theorem afun_con{P:Program}{f:FuncId}{A:Con}(h:ConOk P f A)(l:List ((s:Sh)×s.T))(hk:l.all (fun a=>a.1.ok)=true)(x:A.X)(b:A.B)(y:A.Y)(hx:A.inV.put x=argSV l)(hb:A.inB.put b= [])(hF:A.F x b=some y)
  (ho:A.outs.put (SV×List SB) y (fun v BS=>some (v,BS))=some (.b true,[])):AFun P f (argD l) (.v (.bool true)):=by
 obtain⟨v,BS,h1,h2,h3⟩:=h x b y hF (SV×List SB) (fun v BS=>some (v,BS)) _ ho
 simp only[Option.some.injEq,Prod.mk.injEq]at h3
 obtain⟨rfl,rfl⟩:=h3
 rw[hx,hb]at h2
 have:=h2.le (args_le hk) (BsLe.refl _)
 exact this
open Go.ChangeShapes Go.WideShapes Go.ChangeAt
def Sh.wf:(s:Sh)→s.T→Prop
 | .i k,x=>k.min≤x∧x≤k.max
 | .b,_=>True
 | .s,_=>True
 | .ints k,xs=>xs.length≤9223372036854775807∧ ∀x∈xs,k.min≤x∧x≤k.max
 | .intc _,_=>False
 | .row e,xs=>xs.length≤9223372036854775807∧ ∀x∈xs,e.wf x
 | .nil,_=>True
 | .cons h t,x=>h.wf x.1∧t.wf x.2
def Sh.cd(s:Sh)(x:s.T):List D:=if s.agg then(s.toD2 x).2 else [s.toD x]
theorem Sh.cd_agg{s:Sh}(x:s.T)(h:s.agg=true):s.cd x=(s.toD2 x).2:=by simp[Sh.cd,h]
theorem Sh.cd_one{s:Sh}(x:s.T)(h:s.agg=false):s.cd x= [s.toD x]:=by simp[Sh.cd,h]
theorem Sh.size_agg{s:Sh}(h:s.agg=true):s.size=s.len:=by cases s<;>first|rfl|(simp[Sh.agg]at h)
theorem Sh.size_one{s:Sh}(h:s.agg=false):s.size=1:=by cases s<;>first|rfl|(simp[Sh.agg]at h)
def joinT:(s r:Sh)→s.T→r.T→(s.join r).T
 | .cons h t,r,x,y=>(x.1,joinT t r x.2 y)
 | .nil,_,_,y=>y
 | .i _,_,_,y=>y
 | .b,_,_,y=>y
 | .s,_,_,y=>y
 | .ints _,_,_,y=>y
 | .intc _,_,_,y=>y
 | .row _,_,_,y=>y
theorem joinT_cells: ∀(s r:Sh) (x:s.T) (y:r.T),((s.join r).toD2 (joinT s r x y)).2=(s.toD2 x).2++(r.toD2 y).2
 | .cons h t,r,x,y=>by simp only[Sh.join,joinT,Sh.toD2,List.cons_append,joinT_cells t r x.2 y]
 | .nil,_,_,y=>rfl
 | .i _,_,_,y=>rfl
 | .b,_,_,y=>rfl
 | .s,_,_,y=>rfl
 | .ints _,_,_,y=>rfl
 | .intc _,_,_,y=>rfl
 | .row _,_,_,y=>rfl
theorem joinT_wf: ∀(s r:Sh) (x:s.T) (y:r.T),s.wf x→r.wf y→(s.join r).wf (joinT s r x y)
 | .cons h t,r,x,y,h1,h2=>⟨h1.1,joinT_wf t r x.2 y h1.2 h2⟩
 | .nil,_,_,y,_,h2=>h2
 | .i _,_,_,y,_,h2=>h2
 | .b,_,_,y,_,h2=>h2
 | .s,_,_,y,_,h2=>h2
 | .ints _,_,_,y,_,h2=>h2
 | .intc _,_,_,y,_,h2=>h2
 | .row _,_,_,y,_,h2=>h2
theorem join_len: ∀(s r:Sh),(s.join r).len=s.len+r.len
 | .cons h t,r=>by simp only[Sh.join,Sh.len,join_len t r];omega
 | .nil,_=>by simp[Sh.join,Sh.len]
 | .i _,_=>by simp[Sh.join,Sh.len]
 | .b,_=>by simp[Sh.join,Sh.len]
 | .s,_=>by simp[Sh.join,Sh.len]
 | .ints _,_=>by simp[Sh.join,Sh.len]
 | .intc _,_=>by simp[Sh.join,Sh.len]
 | .row _,_=>by simp[Sh.join,Sh.len]
theorem join_agg{s r:Sh}(h:s.agg=true)(hr:r.agg=true):(s.join r).agg=true:=by
 cases s<;>first|rfl|exact hr|(simp[Sh.agg]at h)
def okFs(P:Program)(f:TypeId→Bool)(g:TypeId→Option Sh):List Field→Nat→Bool
 | [],_=>true
 |x::l,off=>decide (x.offset=off)&&(f x.type&&(match g x.type with
   |some s=>decide (P.cellsOf x.type=s.size)&&okFs P f g l (off+s.size)
   |none=>false))
def okN(P:Program):Nat→TypeId→Bool
 |0,_=>false
 |n+1,t=>match P.underlying t with
  |some (.int _)=>true
  |some .bool=>true
  |some (.slice e)=>match intT P e with
   |some _=>decide (P.cellsOf e=1)
   |none=>okN P n e&&(match shN P n e with
    |some s=>decide (P.cellsOf e=s.size)&&decide (0<s.size)
    |none=>false)
  |some (.struct fs)=>okFs P (okN P n) (shN P n) fs.toList 0
  |_=>false
theorem wf_lit{k:IntKind}{n:Int}(h:(Lit.int k n).wf=true):k.min≤n∧n≤k.max:=by simpa[Lit.wf]using h
theorem one_row{W:World}{d:D}{u:Value}(h1:u.oneCell'=true)(h:RepD W nobody d u):RepRow W nobody (fun v=>v.oneCell'=true) [d] [u]:=by
 simp only[RepRow]
 exact⟨u,[],by rw[cells_one h1];rfl,h1,h,rfl⟩
theorem rows_shape{P:Program}{W:World}{e:TypeId}{s:Sh}(ih: ∀cs,Tr P W e cs→cs.length=s.size→ ∃x:s.T,s.wf x∧RepRow W nobody (fun v=>v.oneCell'=true) (s.cd x) cs):
  ∀rows:List (List Value),(∀r∈rows,r.length=s.size∧Tr P W e r)→ ∃ys:List s.T,ys.length=rows.length∧(∀y∈ys,s.wf y)∧RepRow W nobody (fun v=>v.cells.size=s.size) (ys.map s.toD) rows.flatten
 | [],_=>⟨[],rfl,by simp,by simp only[List.map_nil,List.flatten_nil,RepRow]⟩
 |r::rows,h=>by
  obtain⟨h1,h2⟩:=h r (by simp)
  obtain⟨x,hx,hr⟩:=ih r h2 h1
  obtain⟨ys,e1,e2,e3⟩:=rows_shape ih rows (fun q hq=>h q (by simp[hq]))
  refine⟨x::ys,by simp[e1],?_,?_⟩
  ·intro y hy
   rcases List.mem_cons.1 hy with rfl|hy
   ·exact hx
   ·exact e2 y hy
  ·simp only[List.map_cons,List.flatten_cons,RepRow]
   cases hg:s.agg with
   |true=>
    rw[Sh.cd_agg x hg]at hr
    refine⟨.agg r.toArray,rows.flatten,by simp[Value.cells],by simp[Value.cells,h1],?_,e3⟩
    have e0:=(s.toD2_agg x hg).1
    show RepD W nobody (s.toD2 x).1 _
    rw[e0]
    simp only[RepD]
    exact⟨r,rfl,hr⟩
   |false=>
    rw[Sh.cd_one x hg]at hr
    simp only[RepRow]at hr
    obtain⟨v,rest,q1,q2,q3,rfl⟩:=hr
    rw[List.append_nil]at q1
    exact⟨v,rows.flatten,by rw[q1],by rw[cells_one q2,Sh.size_one hg];rfl,q3,e3⟩
theorem struct_shape{P:Program}{W:World}{n:Nat}(ih: ∀t s cs,shN P n t=some s→okN P n t=true→Tr P W t cs→cs.length=s.size→ ∃x:s.T,s.wf x∧RepRow W nobody (fun v=>v.oneCell'=true) (s.cd x) cs){cs:List Value}:
  ∀(l:List Field) (off:Nat) (r:Sh),joinAll (shN P n) l=some r→okFs P (okN P n) (shN P n) l off=true→(∀f∈l,Tr P W f.type ((cs.drop f.offset).take (P.cellsOf f.type)))→cs.length=off+r.len→
   r.agg=true∧ ∃y:r.T,r.wf y∧RepRow W nobody (fun v=>v.oneCell'=true) (r.toD2 y).2 (cs.drop off)
 | [],off,r,hj,hk,ht,hl=>by
  simp only[joinAll,Option.some.injEq]at hj
  subst hj
  refine⟨rfl,(),trivial,?_⟩
  have:cs.drop off= []:=List.drop_eq_nil_of_le (by simp only[Sh.len]at hl;omega)
  rw[this];simp only[Sh.toD2,RepRow]
 |f::l,off,r,hj,hk,ht,hl=>by
  simp only[joinAll]at hj
  split at hj
  ·rename_i s r' h1 h2
   simp only[okFs,h1,Bool.and_eq_true,decide_eq_true_eq]at hk
   obtain⟨k1,k2,k3,k4⟩:=hk
   simp only[Option.some.injEq]at hj
   have hlen:r.len=s.size+r'.len:=by
    subst hj
    cases hg:s.agg with
    |true=>simp only[if_true,join_len,Sh.size_agg hg]
    |false=>simp only[Bool.false_eq_true,if_false,Sh.len,Sh.size_one hg];omega
   have hf:=ht f (by simp)
   rw[k1,k3]at hf
   obtain⟨x,hx,hr⟩:=ih f.type s _ h1 k2 hf (by rw[List.length_take,List.length_drop];omega)
   obtain⟨ga,y,hy,hr'⟩:=struct_shape ih l (off+s.size) r' h2 k4 (fun g hg=>ht g (by simp[hg])) (by omega)
   have hcs:cs.drop off=(cs.drop off).take s.size++cs.drop (off+s.size):=by
    rw[←List.drop_drop,List.take_append_drop]
   cases hg:s.agg with
   |true=>
    rw[if_pos hg]at hj
    subst hj
    refine⟨join_agg hg ga,joinT s r' x y,joinT_wf s r' x y hx hy,?_⟩
    rw[joinT_cells,hcs]
    rw[Sh.cd_agg x hg]at hr
    exact RepRow_append hr hr'
   |false=>
    rw[if_neg (by simp[hg])]at hj
    subst hj
    refine⟨rfl,(x,y),⟨hx,hy⟩,?_⟩
    rw[hcs]
    rw[Sh.cd_one x hg]at hr
    exact RepRow_append (xs:= [s.toD x]) hr hr'
  ·cases hj
theorem tr_shape{P:Program}{W:World}: ∀(n:Nat) (t:TypeId) (s:Sh) (cs:List Value),shN P n t=some s→okN P n t=true→Tr P W t cs→cs.length=s.size→ ∃x:s.T,s.wf x∧RepRow W nobody (fun v=>v.oneCell'=true) (s.cd x) cs
 |0,t,s,cs,h,_,_,_=>by simp[shN]at h
 |n+1,t,s,cs,h,hk,ht,hl=>by
  simp only[shN]at h
  simp only[okN]at hk
  split at h
  ·rename_i k hu
   cases h
   obtain⟨z,rfl,hw⟩:=Tr.int hu ht
   exact⟨z,wf_lit hw,one_row rfl repD_int⟩
  ·rename_i hu
   cases h
   obtain⟨z,rfl⟩:=Tr.bool hu ht
   exact⟨z,trivial,one_row rfl repD_bool⟩
  ·rename_i hu
   rw[hu]at hk;cases hk
  ·rename_i e hu
   rw[hu]at hk
   simp only at hk
   split at h
   ·rename_i k hi
    cases h
    rw[hi]at hk
    simp only[decide_eq_true_eq]at hk
    obtain⟨a,zs,cap,rfl,h1,h2,h3,h4,h5⟩:=Tr.ints hu (intT_und hi) hk ht
    refine⟨zs,⟨by unfold maxLen at h2;omega,fun z hz=>wf_lit (h5 z hz)⟩,one_row rfl (repD_cells h1 h2 h3 h4)⟩
   ·rename_i hi
    rw[hi]at hk
    simp only[Bool.and_eq_true]at hk
    split at h
    ·rename_i s' hs
     cases h
     rw[hs]at hk
     simp only[Bool.and_eq_true,decide_eq_true_eq]at hk
     obtain⟨k1,k2,k3⟩:=hk
     obtain⟨a,rows,cap,rfl,h1,h2,h3,h4,h5⟩:=Tr.slice hu k2 k3 ht
     obtain⟨ys,e1,e2,e3⟩:=rows_shape (s:=s') (fun cs h hl=>tr_shape n e s' cs hs k1 h hl) rows h5
     refine⟨ys,⟨by unfold maxLen at h2;omega,e2⟩,one_row rfl ?_⟩
     show RepD W nobody (.sl s'.size (ys.map s'.toD) none) _
     simp only[RepD]
     refine⟨a,cap,rows.flatten,by simp[e1],by simp[e1];exact h1,h2,h3,by simp,e3,fun hne=> ?_⟩
     obtain⟨b,off,h6,h7⟩:=h4 hne
     exact⟨b,off,h6,fun h=>h,h7⟩
    ·cases h
  ·rename_i fs hu
   rw[hu]at hk
   simp only at hk
   have hst:=(ht.struct hu).2
   have hlen:s.agg=true→cs.length=0+s.len:=fun hg=>by rw[hl,Sh.size_agg hg];omega
   have hag:s.agg=true:=by
    cases hl':fs.toList with
    |nil=>rw[hl']at h;simp only[joinAll,Option.some.injEq]at h;subst h;rfl
    |cons f l=>
     have: ∀(l:List Field) r,joinAll (shN P n) l=some r→r.agg=true:=by
      intro l
      induction l with
      |nil=>intro r h;simp only[joinAll,Option.some.injEq]at h;subst h;rfl
      |cons f l ih=>
       intro r h
       simp only[joinAll]at h
       split at h
       ·rename_i s1 r1 _ h2
        simp only[Option.some.injEq]at h
        subst h
        have:=ih r1 h2
        split
        ·rename_i hg;exact join_agg hg this
        ·rfl
       ·cases h
     exact this _ _ h
   obtain⟨_,y,hy,hr⟩:=struct_shape (fun t s cs h1 h2 h3 h4=>tr_shape n t s cs h1 h2 h3 h4) fs.toList 0 s h hk (by
    intro f hf
    obtain⟨i,hi⟩:=List.getElem?_of_mem hf
    exact hst i f (by simpa using hi)) (hlen hag)
   rw[List.drop_zero]at hr
   exact⟨y,hy,by rw[Sh.cd_agg y hag];exact hr⟩
  ·cases h
theorem arg_shape{P:Program}{W:World}{r:Reach}{base:Nat}{t:TypeId}{s:Sh}{v:Value}(hs:shT P t=some s)(hk:okN P 8 t=true)(hc:P.cellsOf t=s.size)(ho:Value.okWide P W r base t v)(h:Tr P W t v.cells.toList): ∃x:s.T,s.wf x∧RepD W nobody (s.toD x) v:=by
 have key:(s.agg=true→ ∃l:List Value,v= .agg l.toArray∧l.length=s.size)∧(s.agg=false→v.oneCell'=true):=by
  have hk0:=hk
  unfold shT shN at hs
  unfold okN at hk0
  split at hs
  ·rename_i k hu
   cases hs
   refine⟨fun h=>by simp[Sh.agg]at h,fun _=> ?_⟩
   simp only[Value.okWide,hu,Cell.okWide]at ho
   cases v<;>simp_all[Cell.ok,Value.oneCell']
  ·rename_i hu
   cases hs
   refine⟨fun h=>by simp[Sh.agg]at h,fun _=> ?_⟩
   simp only[Value.okWide,hu,Cell.okWide]at ho
   cases v<;>simp_all[Cell.ok,Value.oneCell']
  ·rename_i hu;rw[hu]at hk0;cases hk0
  ·rename_i e hu
   obtain⟨a,l,c,rfl⟩:=okWide_slice hu ho
   refine⟨fun h=> ?_,fun _=>rfl⟩
   split at hs
   ·cases hs;simp[Sh.agg]at h
   ·split at hs
    ·cases hs;simp[Sh.agg]at h
    ·cases hs
  ·rename_i fs hu
   obtain⟨cs,rfl,hsz⟩:=okWide_struct hu ho
   refine⟨fun _=>⟨cs.toList,by simp,by simpa using hsz.trans hc⟩,fun hg=> ?_⟩
   exfalso
   have: ∀(l:List Field) r,joinAll (shN P 7) l=some r→r.agg=true:=by
    intro l
    induction l with
    |nil=>intro r h;simp only[joinAll,Option.some.injEq]at h;subst h;rfl
    |cons f l ih=>
     intro r h
     simp only[joinAll]at h
     split at h
     ·rename_i s1 r1 _ h2
      simp only[Option.some.injEq]at h
      subst h
      have:=ih r1 h2
      split
      ·rename_i hg;exact join_agg hg this
      ·rfl
     ·cases h
   rw[this _ _ hs]at hg
   cases hg
  ·cases hs
 cases hg:s.agg with
 |true=>
  obtain⟨l,rfl,hl⟩:=key.1 hg
  obtain⟨x,hx,hr⟩:=tr_shape 8 t s _ hs hk h (by simpa[Value.cells]using hl)
  refine⟨x,hx,?_⟩
  rw[Sh.cd_agg x hg]at hr
  show RepD W nobody (s.toD2 x).1 _
  rw[(s.toD2_agg x hg).1]
  simp only[RepD]
  exact⟨l,rfl,by simpa[Value.cells]using hr⟩
 |false=>
  have h1:=key.2 hg
  obtain⟨x,hx,hr⟩:=tr_shape 8 t s _ hs hk h (by rw[cells_one h1,Sh.size_one hg];rfl)
  refine⟨x,hx,?_⟩
  rw[Sh.cd_one x hg]at hr
  simp only[RepRow]at hr
  obtain⟨u,rest,q1,q2,q3,rfl⟩:=hr
  rw[cells_one h1,cells_one q2]at q1
  simp only[List.append_nil]at q1
  have:v=u:=by simpa using q1
  rw[this];exact q3
end Go.Proofs.Ytngghkoghbpceaa
namespace Go.Proofs.Ytngghkoghbpceaa
set_option linter.unusedVariables false
theorem dT{p:Prop}[Decidable p](h:p):decide p=true:=decide_eq_true h
theorem dF{p:Prop}[Decidable p](h: ¬p):decide p=false:=decide_eq_false h
theorem inT{i:Int}{n:Nat}(h0:0≤i)(h1:i<n):inB i n=true:=inB_iff.2 ⟨h0,by omega⟩
theorem growT{b n:Nat}(h:n*b≤140737488355328)(h2:n≤9223372036854775807):growOb b n=true:=growOb_iff.2 ⟨h,by unfold maxLen;omega⟩
theorem bns{A B:Type}(a:A)(f:A→Option B):bnd (some a) f=f a:=rfl
theorem sumK_l{A B C:Type}(a:A)(f:A→C)(g:B→C):sumK (.inl a) f g=f a:=rfl
theorem sumK_r{A B C:Type}(b:B)(f:A→C)(g:B→C):sumK (.inr b) f g=g b:=rfl
theorem toNatC(n:Nat):Int.toNat (n:Int)=n:=Int.toNat_natCast n
theorem getD_lt{α:Type}{l:List α}{i:Nat}{d:α}(h:i<l.length):l.getD i d=l[i]:=by
 rw[List.getD_eq_getElem?_getD,List.getElem?_eq_getElem h];rfl
theorem drop_get{α:Type}{l:List α}{i:Nat}(h:i<l.length):l.drop i=l[i]::l.drop (i+1):=List.drop_eq_getElem_cons h
end Go.Proofs.Ytngghkoghbpceaa
