/-
  The abstract view of the machine: walks that the kernel reckons out.
  Conditions: none; nothing here speaks of one program.
-/
import Derived.Test.YtngghkoghbpceaaKD
import Derived.WideKeyRuns
import Derived.MapKept
namespace Go.Proofs.Ytngghkoghbpceaa
open Go.RowKit
set_option linter.unusedVariables false
set_option linter.constructorNameAsVariable false
inductive Gh where
 |fz (t:Nat)
 |fzk (κ:Nat)
 |fzc (κb i:Nat)
 |mat (t κ:Nat) (B:SB)
 |matc (κb i κ:Nat) (B:SB)
 |mata (t i κ:Nat) (B:SB)
def emptySB:SB→Bool
 | .ints _ _ [] (some 0)=>true
 | .row _ _ [] (some 0)=>true
 |_=>false
def rowAt(s:SSt)(κ:Nat):Bool:=match gt κ s.hp with
 |some (.ints _ _ _ _)=>true
 |_=>false
theorem rowAt_img{s:SSt}{κ:Nat}(h:rowAt s κ=true): ∃e k xs c0,gt κ s.toSt.hp=some (.ints e k xs c0):=by
 unfold rowAt at h
 split at h
 ·rename_i e k xs c hg;exact⟨e,k,xs,c,by simpa only[SB.toB]using gt_hp hg⟩
 ·cases h
def Gh.run:Gh→SSt→SSt
 | .fz t,s=>match gt t s.tm with
  |some (.own κ)=>match s.freeze κ with
   |some s'=>s'
   |none=>s
  |_=>s
 | .fzk κ,s=>match s.freeze κ with
  |some s'=>s'
  |none=>s
 | .fzc κb i,s=>match gt κb s.hp with
  |some (.box _ cs)=>match cs[i]? with
   |some (.own κ)=>match s.freeze κ with
    |some s'=>s'
    |none=>s
   |_=>s
  |_=>s
 | .matc κb i κ B,s=>match gt κb s.hp with
  |some (.box e cs)=>match cs[i]? with
   |some (.d x)=>if isEmptyA (.d x)=true∧emptySB B=true∧(16≤κ∨rowAt s κ=true)∧κb≠κ then {s.setB true κ B with hp:=ins κb (.box e ((killSs κ cs).set i (.own κ))) (s.setB true κ B).hp}else s
   |_=>s
  |_=>s
 | .mata t i κ B,s=>match gt t s.tm with
  |some (.agg cs)=>match cs[i]? with
   |some (.d x)=>if isEmptyA (.d x)=true∧emptySB B=true∧16≤κ∧t<s.n then(s.setB true κ B).put (some t) (.agg ((killSs κ cs).set i (.own κ)))else s
   |_=>s
  |_=>s
 | .mat t κ B,s=>match gt t s.tm with
  |some (.d x)=>if isEmptyA (.d x)=true∧emptySB B=true∧16≤κ∧t<s.n then(s.setB true κ B).put (some t) (.own κ)else s
  |_=>s
def GSt(s' s:St):Prop:= ∀(c:Ctx) (m:Nat→Value) (a:Act) (w:World),SRep c m s a w→ ∃m',SRep c m' s' a w
theorem LeSt.gst{s' s:St}(h:LeSt s' s):GSt s' s:=fun c m a w hr=>⟨m,h c m a w hr⟩
theorem GSt.trans{a b c:St}(h:GSt a b)(h':GSt b c):GSt a c:=fun cx m ac w hr=>by
 obtain⟨m',h1⟩:=h' cx m ac w hr
 exact h cx m' ac w h1
theorem gst_mat{s:St}{t κ:Nat}{B:Blk}{v:AV}(ht:gt t s.tm=some v)(he:isEmptyA v=true)(h16:16≤κ)(htn:t<s.n)(hB:(∃e k,B= .ints e k [] (some 0))∨(∃e n,B= .row e n [] (some 0))):GSt (s.mat t κ B) s:=by
 intro cx m a w hr
 have hv:=hr.slot t v ht
 obtain⟨ad,had⟩:=isEmptyA_val hv he
 obtain⟨h1,_⟩:=hr.mat κ B ad (.inl h16) hB
 have h2:=h1.put (dst:=some t) (v:= .own κ) (u:= .slice ad 0 0) (by simp only[St.okDst,St.setB];simpa using htn) (by simp only[RepV,upm_same];exact⟨trivial,rfl⟩)
 have e:a.put (some t) (.slice ad 0 0)=a:=by
  have hlt:t<a.tmps.size:=by rw[hr.nt];exact htn
  have:a.tmps.setIfInBounds t (.slice ad 0 0)=a.tmps:=by
   apply Array.ext_getElem?
   intro i
   by_cases e:t=i
   ·subst e
    have had':a.tmps[t]= .slice ad 0 0:=by rw[Array.getD_eq_getD_getElem?,Array.getElem?_eq_getElem hlt]at had;exact had
    rw[Array.getElem?_eq_getElem hlt,had']
    simp[hlt]
   ·rw[Array.getElem?_setIfInBounds_ne e]
  simp only[Act.put,this]
 rw[e]at h2
 exact⟨_,h2⟩
theorem gst_matc{s:St}{κb i κ:Nat}{e:TypeId}{cs:List AV}{B:Blk}{v:AV}(hb:gt κb s.hp=some (.box e cs))(hi:cs[i]? =some v)(he:isEmptyA v=true)(h16:16≤κ∨ ∃e k xs c0,gt κ s.hp=some (.ints e k xs c0))(hne:κb≠κ)(hB:(∃e k,B= .ints e k [] (some 0))∨(∃e n,B= .row e n [] (some 0))):
  GSt {s.setB true κ B with hp:=ins κb (.box e ((killVs κ cs).set i (.own κ))) (s.setB true κ B).hp} s:=by
 intro cx m a w hr
 obtain⟨b,c,h1,h2,h3,h4⟩:=hr.heap κb _ hb
 obtain⟨u,hu,hv⟩:=(RepVs_iff.1 h3).2 i v hi
 obtain⟨ad,had⟩:=isEmptyA_val hv he
 obtain⟨r1,_⟩:=hr.mat κ B ad h16 hB
 have hg:gt κb (s.setB true κ B).hp=some (.box e (killVs κ cs)):=by
  rw[gt_setB,if_neg hne,hb];rfl
 refine⟨upm m κ (.slice ad 0 0),?_⟩
 have hF: ∀B',Forb cx (upm m κ (.slice ad 0 0)) (ins κb B' (s.setB true κ B).hp)=Forb cx (upm m κ (.slice ad 0 0)) (s.setB true κ B).hp:=by
  intro B'
  funext z
  simp only[Forb]
  congr 1
  refine propext ⟨?_,?_⟩
  ·rintro⟨j,C,hC,hz⟩
   rw[gt_ins]at hC
   split at hC
   ·rename_i ej;subst ej;exact⟨_,_,hg,hz⟩
   ·exact⟨j,C,hC,hz⟩
  ·rintro⟨j,C,hC,hz⟩
   by_cases ej:j=κb
   ·exact⟨j,B',by rw[gt_ins,if_pos ej],hz⟩
   ·exact⟨j,C,by rw[gt_ins,if_neg ej];exact hC,hz⟩
 refine {r1 with slot:= ?_,heap:= ?_,sep:= ?_,nox:= ?_,old:= ?_}
 ·intro t x hx
  show RepV w (Forb cx _ (ins κb _ (s.setB true κ B).hp)) _ x _
  rw[hF];exact r1.slot t x hx
 ·intro j C hC
  show RepB w (Forb cx _ (ins κb _ (s.setB true κ B).hp)) _ j C
  rw[hF]
  replace hC:gt j (ins κb _ (s.setB true κ B).hp)=some C:=hC
  rw[gt_ins]at hC
  split at hC
  ·rename_i ej
   subst ej
   simp only[Option.some.injEq]at hC
   subst hC
   obtain⟨b',c',q1,q2,q3,q4⟩:=r1.heap _ _ hg
   refine⟨b',c',q1,q2,?_,q4⟩
   have hbb:b'=b∧c'=c:=by
    have e1:upm m κ (.slice ad 0 0) j=m j:=upm_ne m _ hne
    rw[e1,h1]at q1
    have:b'=b:=by simpa using q1.symm
    subst this
    rw[h2]at q2
    simp only[Option.some.injEq,Obj.cells.injEq]at q2
    exact⟨rfl,q2.1.symm⟩
   obtain⟨rfl,rfl⟩:=hbb
   obtain⟨hl,hget⟩:=RepVs_iff.1 q3
   refine RepVs_iff.2 ⟨by rw[List.length_set];exact hl,fun k x hx=> ?_⟩
   rw[List.getElem?_set]at hx
   split at hx
   ·rename_i ek
    subst ek
    split at hx
    ·simp only[Option.some.injEq]at hx
     subst hx
     refine⟨u,hu,?_⟩
     simp only[RepV,upm_same]
     exact⟨had,by rw[had];rfl⟩
    ·cases hx
   ·exact hget k x hx
  ·exact r1.heap j C hC
 ·intro j j' C C' z hj hj'
  have f: ∀ {j C},gt j (ins κb (.box e ((killVs κ cs).set i (.own κ))) (s.setB true κ B).hp)=some C→ ∃C0,gt j (s.setB true κ B).hp=some C0:=by
   intro j C hC
   rw[gt_ins]at hC
   split at hC
   ·rename_i ej;subst ej;exact⟨_,hg⟩
   ·exact⟨_,hC⟩
  obtain⟨_,hj⟩:=f hj
  obtain⟨_,hj'⟩:=f hj'
  exact r1.sep j j' _ _ z hj hj'
 ·intro j C z hj
  have: ∃C0,gt j (s.setB true κ B).hp=some C0:=by
   replace hj:gt j (ins κb _ (s.setB true κ B).hp)=some C:=hj
   rw[gt_ins]at hj
   split at hj
   ·rename_i ej;subst ej;exact⟨_,hg⟩
   ·exact⟨_,hj⟩
  obtain⟨_,hj⟩:=this
  exact r1.nox j _ z hj
 ·intro j C z hj
  have: ∃C0,gt j (s.setB true κ B).hp=some C0:=by
   replace hj:gt j (ins κb _ (s.setB true κ B).hp)=some C:=hj
   rw[gt_ins]at hj
   split at hj
   ·rename_i ej;subst ej;exact⟨_,hg⟩
   ·exact⟨_,hj⟩
  obtain⟨_,hj⟩:=this
  exact r1.old j _ z hj
theorem act_put_same{a:Act}{n t:Nat}{u:Value}(hn:a.tmps.size=n)(htn:t<n)(had:a.tmps.getD t undef=u):a.put (some t) u=a:=by
 have hlt:t<a.tmps.size:=by omega
 have:a.tmps.setIfInBounds t u=a.tmps:=by
  apply Array.ext_getElem?
  intro i
  by_cases e:t=i
  ·subst e
   have had':a.tmps[t]=u:=by rw[Array.getD_eq_getD_getElem?,Array.getElem?_eq_getElem hlt]at had;exact had
   rw[Array.getElem?_eq_getElem hlt,had']
   simp[hlt]
  ·rw[Array.getElem?_setIfInBounds_ne e]
 simp only[Act.put,this]
theorem gst_mata{s:St}{t i κ:Nat}{cs:List AV}{B:Blk}{v:AV}(ht:gt t s.tm=some (.agg cs))(hi:cs[i]? =some v)(he:isEmptyA v=true)(h16:16≤κ)(htn:t<s.n)(hB:(∃e k,B= .ints e k [] (some 0))∨(∃e n,B= .row e n [] (some 0))):
  GSt ((s.setB true κ B).put (some t) (.agg ((killVs κ cs).set i (.own κ)))) s:=by
 intro cx m a w hr
 have hv:=hr.slot t _ ht
 simp only[RepV]at hv
 obtain⟨us,hu,hvs,hone⟩:=hv
 obtain⟨u,hui,hrv⟩:=(RepVs_iff.1 hvs).2 i v hi
 obtain⟨ad,had⟩:=isEmptyA_val hrv he
 obtain⟨h1,_⟩:=hr.mat κ B ad (.inl h16) hB
 have hk:gt t (s.setB true κ B).tm=some (.agg (killVs κ cs)):=by
  simp only[St.setB,if_true,gt_mapv,ht,Option.map_some,killV]
 have hv2:=h1.slot t _ hk
 simp only[RepV]at hv2
 obtain⟨us2,hu2,hvs2,_⟩:=hv2
 have hus:us2=us:=by
  rw[hu]at hu2
  simpa using hu2.symm
 subst hus
 obtain⟨hl,hget⟩:=RepVs_iff.1 hvs2
 have h2:=h1.put (dst:=some t) (v:= .agg ((killVs κ cs).set i (.own κ))) (u:= .agg us2.toArray) (by simp only[St.okDst,St.setB];simpa using htn) (by
  simp only[RepV]
  refine⟨us2,rfl,RepVs_iff.2 ⟨by rw[List.length_set];exact hl,fun k x hx=> ?_⟩,hone⟩
  rw[List.getElem?_set]at hx
  split at hx
  ·rename_i ek
   subst ek
   split at hx
   ·simp only[Option.some.injEq]at hx
    subst hx
    refine⟨u,hui,?_⟩
    simp only[RepV,upm_same]
    exact⟨had,by rw[had];rfl⟩
   ·cases hx
  ·exact hget k x hx)
 rw[act_put_same hr.nt htn hu]at h2
 exact⟨_,h2⟩
theorem emptySB_img{B:SB}(h2:emptySB B=true):(∃e k,B.toB= .ints e k [] (some 0))∨(∃e n,B.toB= .row e n [] (some 0)):=by
 unfold emptySB at h2
 split at h2
 ·exact .inl ⟨_,_,rfl⟩
 ·exact .inr ⟨_,_,rfl⟩
 ·cases h2
theorem toAVs_set: ∀(l:List SV) (i:Nat) (v:SV),SV.toAVs (l.set i v)=(SV.toAVs l).set i v.toAV
 | [],i,v=>rfl
 |x::l,0,v=>by simp only[List.set_cons_zero,SV.toAVs]
 |x::l,i+1,v=>by simp only[List.set_cons_succ,SV.toAVs,toAVs_set l i v]
theorem Gh.run_le(g:Gh)(s:SSt):GSt (g.run s).toSt s.toSt:=by
 cases g with
 |fz t=>
  simp only[Gh.run]
  split
  ·split
   ·rename_i h;exact(freeze_le h).gst
   ·exact(LeSt.refl _).gst
  ·exact(LeSt.refl _).gst
 |fzk κ=>
  simp only[Gh.run]
  split
  ·rename_i h;exact(freeze_le h).gst
  ·exact(LeSt.refl _).gst
 |fzc κb i=>
  simp only[Gh.run]
  split
  ·split
   ·split
    ·rename_i h;exact(freeze_le h).gst
    ·exact(LeSt.refl _).gst
   ·exact(LeSt.refl _).gst
  ·exact(LeSt.refl _).gst
 |matc κb i κ B=>
  simp only[Gh.run]
  split
  ·rename_i e cs hb
   split
   ·rename_i x hx
    split
    ·rename_i hc
     obtain⟨h1,h2,h3,h4⟩:=hc
     have hbb:=gt_hp hb
     simp only[SB.toB]at hbb
     have h3':16≤κ∨ ∃e k xs c0,gt κ s.toSt.hp=some (.ints e k xs c0):=h3.imp id rowAt_img
     have:=gst_matc (B:=B.toB) hbb (i:=i) (v:= .d x) (by rw[toAVs_get,hx];simp only[Option.map_some,SV.toAV]) h1 h3' h4 (emptySB_img h2)
     have e1:({s.setB true κ B with hp:=ins κb (.box e ((killSs κ cs).set i (.own κ))) (s.setB true κ B).hp}:SSt).toSt= {s.toSt.setB true κ B.toB with hp:=ins κb (.box e ((killVs κ (SV.toAVs cs)).set i (.own κ))) (s.toSt.setB true κ B.toB).hp}:=by
      rw[←setB_img]
      simp only[SSt.toSt,ins_mapk,SB.toB,toAVs_set,killSs_img,SV.toAV]
     rw[e1];exact this
    ·exact(LeSt.refl _).gst
   ·exact(LeSt.refl _).gst
  ·exact(LeSt.refl _).gst
 |mata t i κ B=>
  simp only[Gh.run]
  split
  ·rename_i cs ht
   split
   ·rename_i x hx
    split
    ·rename_i hc
     obtain⟨h1,h2,h3,h4⟩:=hc
     have ht':gt t s.toSt.tm=some (.agg (SV.toAVs cs)):=by simp only[SSt.toSt,gt_mapk,ht,Option.map_some,SV.toAV]
     have:=gst_mata (B:=B.toB) ht' (i:=i) (v:= .d x) (by rw[toAVs_get,hx];simp only[Option.map_some,SV.toAV]) h1 h3 h4 (emptySB_img h2)
     have e1:((s.setB true κ B).put (some t) (.agg ((killSs κ cs).set i (.own κ)))).toSt=(s.toSt.setB true κ B.toB).put (some t) (.agg ((killVs κ (SV.toAVs cs)).set i (.own κ))):=by
      rw[put_img,setB_img]
      simp only[SV.toAV,toAVs_set,killSs_img]
     rw[e1];exact this
    ·exact(LeSt.refl _).gst
   ·exact(LeSt.refl _).gst
  ·exact(LeSt.refl _).gst
 |mat t κ B=>
  simp only[Gh.run]
  split
  ·rename_i x hx
   split
   ·rename_i hc
    obtain⟨h1,h2,h3,h4⟩:=hc
    have hB:(∃e k,B.toB= .ints e k [] (some 0))∨(∃e n,B.toB= .row e n [] (some 0)):=by
     unfold emptySB at h2
     split at h2
     ·exact .inl ⟨_,_,rfl⟩
     ·exact .inr ⟨_,_,rfl⟩
     ·cases h2
    have ht:gt t s.toSt.tm=some (.d x):=by simp only[SSt.toSt,gt_mapk,hx,Option.map_some,SV.toAV]
    have:=gst_mat ht h1 h3 h4 hB
    have e:((s.setB true κ B).put (some t) (.own κ)).toSt=s.toSt.mat t κ B.toB:=by rw[put_img,setB_img];simp only[SV.toAV,St.mat]
    rw[e];exact this
   ·exact(LeSt.refl _).gst
  ·exact(LeSt.refl _).gst
def Gh.runs:List Gh→SSt→SSt
 | [],s=>s
 |g::l,s=>Gh.runs l (g.run s)
theorem Gh.runs_le: ∀(l:List Gh) (s:SSt),GSt (Gh.runs l s).toSt s.toSt
 | [],s=>(LeSt.refl _).gst
 |g::l,s=>(Gh.runs_le l (g.run s)).trans (g.run_le s)
theorem awpl_gst{P:Program}{ops:Array Oper}{l:List Oper}{R:St→Prop}{s s':St}(h:GSt s' s)(ha:AWpL P ops l R s'):AWpL P ops l R s:=fun cx m a w K hr hK=>by
 obtain⟨m',h1⟩:=h cx m a w hr
 exact ha cx m' a w K h1 hK
theorem awp_post_gst{P:Program}{c:Code}{Q:Exit→St→Prop}{s:St}(h:AWp P c (fun e s'=> ∃s2,GSt s2 s'∧Q e s2) s):AWp P c Q s:=fun cx m a w hr=>by
 refine Code.wp_mono ?_ (h cx m a w hr)
 rintro e a' w' ⟨s',m',⟨s2,h1,h2⟩,h3⟩
 obtain⟨m2,h4⟩:=h1 cx m' a' w' h3
 exact⟨s2,m2,h2,h4⟩
def cellTs(P:Program):Nat→TypeId→List TypeId
 |0,_=> []
 |n+1,t=>match P.underlying t with
  |some (.struct fs)=>fs.toList.flatMap fun f=>cellTs P n f.type
  |_=> [t]
def matT(P:Program)(t:TypeId)(i:Nat):Option SB:=match(cellTs P 6 t)[i]? with
 |some u=>emptyS P u
 |none=>none
def keyM(fl:FuncId→Bool)(e i q:Nat)(s:SSt):Nat:=match(List.range 16).find? (fun j=>fl (16000000+2000*e+20*i+j))with
 |some j=>if rowAt s j then j else q
 |none=>q
def matBox(P:Program)(fl:FuncId→Bool)(e:TypeId)(κ:Nat):Nat→SSt→SSt
 |0,s=>s
 |i+1,s=>matBox P fl e κ i (if fl (3000000+100*e+i)then match matT P e i with
   |some B=>(Gh.matc κ i (keyM fl e i (maxK s.toSt.hp (16+s.n)) s) B).run s
   |none=>s else s)
def matAll(P:Program)(fl:FuncId→Bool):List (Nat×SB)→SSt→SSt
 | [],s=>s
 |(κ,B)::l,s=>matAll P fl l (match B with
   | .box e _=>if fl (3000000+100*e+99)then matBox P fl e κ 16 s else s
   |_=>s)
def matO(o:Oper):Bool:=match o.op with
 | .alloc _=>true
 | .box _ _=>true
 | .store _ _ _=>true
 | .call _=>true
 |_=>false
def matN(fl:FuncId→Bool)(ops:Array Oper)(s:SSt):Bool:=ops.toList.any matO&&s.hp.any fun p=>match p.2 with
 | .box e _=>fl (3000000+100*e+99)
 |_=>false
def matR(P:Program)(fl:FuncId→Bool)(ops:Array Oper)(s:SSt):SSt:=if matN fl ops s then matAll P fl s.hp s else s
theorem matBox_le{P:Program}{fl:FuncId→Bool}{e:TypeId}{κ:Nat}: ∀(i:Nat) (s:SSt),GSt (matBox P fl e κ i s).toSt s.toSt
 |0,s=>(LeSt.refl _).gst
 |i+1,s=>by
  refine GSt.trans (matBox_le i _) ?_
  split
  ·split
   ·exact Gh.run_le _ s
   ·exact(LeSt.refl _).gst
  ·exact(LeSt.refl _).gst
theorem matAll_le{P:Program}{fl:FuncId→Bool}: ∀(l:List (Nat×SB)) (s:SSt),GSt (matAll P fl l s).toSt s.toSt
 | [],s=>(LeSt.refl _).gst
 |(κ,B)::l,s=>by
  refine GSt.trans (matAll_le l _) ?_
  split
  ·split
   ·exact matBox_le _ s
   ·exact(LeSt.refl _).gst
  ·exact(LeSt.refl _).gst
theorem matR_le{P:Program}{fl:FuncId→Bool}{ops:Array Oper}(s:SSt):GSt (matR P fl ops s).toSt s.toSt:=by
 unfold matR
 split
 ·exact matAll_le _ s
 ·exact(LeSt.refl _).gst
def matArg(P:Program)(fl:FuncId→Bool)(base:Nat)(t:TypeId)(x:Nat):Nat→SSt→SSt
 |0,s=>s
 |i+1,s=>matArg P fl base t x i (if fl (base+i)then match matT P t i with
   |some B=>(Gh.mata x i (maxK s.toSt.hp (16+s.n)) B).run s
   |none=>s else s)
def matArgs(P:Program)(fl:FuncId→Bool)(base:Nat):List TypeId→List Operand→SSt→SSt
 |t::ts,.tmp x::l,s=>matArgs P fl (base+50) ts l (matArg P fl base t x 16 s)
 |_::ts,_::l,s=>matArgs P fl (base+50) ts l s
 |_,_,s=>s
theorem matArg_le{P:Program}{fl:FuncId→Bool}{base:Nat}{t:TypeId}{x:Nat}: ∀(i:Nat) (s:SSt),GSt (matArg P fl base t x i s).toSt s.toSt
 |0,s=>(LeSt.refl _).gst
 |i+1,s=>by
  refine GSt.trans (matArg_le i _) ?_
  split
  ·split
   ·exact Gh.run_le _ s
   ·exact(LeSt.refl _).gst
  ·exact(LeSt.refl _).gst
theorem matArgs_le{P:Program}{fl:FuncId→Bool}: ∀(base:Nat) (ts:List TypeId) (l:List Operand) (s:SSt),GSt (matArgs P fl base ts l s).toSt s.toSt
 |base,[],l,s=>by cases l<;>exact(LeSt.refl _).gst
 |base,t::ts,[],s=>(LeSt.refl _).gst
 |base,t::ts,x::l,s=>by
  cases x with
  |tmp x=>exact GSt.trans (matArgs_le (base+50) ts l _) (matArg_le 16 s)
  |const v=>exact matArgs_le (base+50) ts l s
  |func v=>exact matArgs_le (base+50) ts l s
  |global v=>exact matArgs_le (base+50) ts l s
mutual
def fixS(κ:Nat)(x:SV):SV→SV
 | .ptr κ' off=>if κ'=κ then(if off=0 then .eaddr x else .bot)else .ptr κ' off
 | .own κ'=>if κ'=κ then .bot else .own κ'
 | .pel κ' z n o=>if κ'=κ then .bot else .pel κ' z n o
 | .aptr κ' off=>if κ'=κ then(if off=0 then .eaddr x else .bot)else .aptr κ' off
 | .agg l=> .agg (fixSs κ x l)
 | .tup l=> .tup (fixSs κ x l)
 | .clos f l=> .clos f (fixSs κ x l)
 | .wrap k v=> .wrap k (fixS κ x v)
 | .d y=> .d y
 | .i k y=> .i k y
 | .b y=> .b y
 | .s y=> .s y
 | .ints k xs c=> .ints k xs c
 | .row e xs c=> .row e xs c
 | .eaddr v=> .eaddr v
 | .bot=> .bot
termination_by structural v=>v
def fixSs(κ:Nat)(x:SV):List SV→List SV
 | []=> []
 |v::l=>fixS κ x v::fixSs κ x l
termination_by structural l=>l
end
mutual
theorem fixS_img{κ:Nat}{x:SV}{y:D}(hx:x.dat=some y): ∀v:SV,(fixS κ x v).toAV=fixV κ y v.toAV
 | .ptr κ' off=>by
  simp only[fixS,SV.toAV,fixV]
  split
  ·split
   ·simp only[SV.toAV,hx]
   ·simp only[SV.toAV]
  ·simp only[SV.toAV]
 | .own κ'=>by simp only[fixS,SV.toAV,fixV];split<;>simp only[SV.toAV]
 | .pel κ' z n o=>by simp only[fixS,SV.toAV,fixV];split<;>simp only[SV.toAV]
 | .aptr κ' off=>by
  simp only[fixS,SV.toAV,fixV]
  split
  ·split
   ·simp only[SV.toAV,hx]
   ·simp only[SV.toAV]
  ·simp only[SV.toAV]
 | .agg l=>by simp only[fixS,SV.toAV,fixV,fixSs_img hx l]
 | .tup l=>by simp only[fixS,SV.toAV,fixV,fixSs_img hx l]
 | .clos f l=>by simp only[fixS,SV.toAV,fixV,fixSs_img hx l]
 | .wrap k v=>by simp only[fixS,SV.toAV,fixV,fixS_img hx v]
 | .d x=>by simp only[fixS,SV.toAV,fixV]
 | .i k x=>by simp only[fixS,SV.toAV,fixV]
 | .b x=>by simp only[fixS,SV.toAV,fixV]
 | .s x=>by simp only[fixS,SV.toAV,fixV]
 | .ints k xs c=>by simp only[fixS,SV.toAV,fixV]
 | .row e xs c=>by simp only[fixS,SV.toAV,fixV]
 | .eaddr v=>by simp only[fixS,SV.toAV];split<;>simp only[fixV]
 | .bot=>by simp only[fixS,SV.toAV,fixV]
theorem fixSs_img{κ:Nat}{x:SV}{y:D}(hx:x.dat=some y): ∀l:List SV,SV.toAVs (fixSs κ x l)=fixVs κ y (SV.toAVs l)
 | []=>rfl
 |v::l=>by simp only[fixSs,SV.toAVs,fixVs,fixS_img hx v,fixSs_img hx l]
end
def fixSB(κ:Nat)(x:SV)(y:D):SB→SB
 | .box e cs=> .box e (fixSs κ x cs)
 | .map kvs=> .map (fixSs κ x kvs)
 | .raw B=> .raw (fixB κ y B)
 |B=>B
theorem fixSB_img{κ:Nat}{x:SV}{y:D}(hx:x.dat=some y)(B:SB):(fixSB κ x y B).toB=fixB κ y B.toB:=by
 cases B<;>simp only[fixSB,SB.toB,fixB,fixSs_img hx]
def SSt.fix(s:SSt)(κ:Nat):SSt:=
 match gt κ s.hp with
 |some (.box e cs)=>match allD (SV.toAVs cs),SV.dats cs with
  |some _,some ds=> {s with tm:=mapv (fixS κ (.agg cs)) s.tm,hp:=mapv (fixSB κ (.agg cs) (.agg ds)) (del κ s.hp)}
  |_,_=>s
 |_=>s
theorem allD_dats: ∀ {cs:List SV} {ds ds':List D},allD (SV.toAVs cs)=some ds→SV.dats cs=some ds'→ds=ds'
 | [],ds,ds',h,h'=>by simp only[SV.toAVs,allD]at h;simp only[SV.dats]at h';cases h;cases h';rfl
 |v::l,ds,ds',h,h'=>by
  simp only[SV.toAVs]at h
  simp only[SV.dats]at h'
  split at h'
  ·rename_i x xs hx hxs
   cases h'
   cases hv:v.toAV with
   |d y=>
    rw[hv]at h
    simp only[allD]at h
    obtain⟨r,h1,rfl⟩:=Option.map_eq_some_iff.1 h
    have e:=allD_dats h1 hxs
    subst e
    have:y=x:=by
     cases v<;>simp only[SV.toAV]at hv<;>simp only[SV.dat]at hx<;>first|(cases hv;cases hx;rfl)|(cases hx;done)|(cases hv;done)|(split at hv<;>cases hv;done)|skip
    rw[this]
   |_=>rw[hv]at h;simp[allD]at h
  ·cases h'
theorem fix_le(s:SSt)(κ:Nat):LeSt (s.fix κ).toSt s.toSt:=by
 unfold SSt.fix
 split
 ·rename_i e cs hB
  split
  ·rename_i d0 ds h1 h2
   have hd:SV.dat (.agg cs)=some (.agg ds):=by simp only[SV.dat,h2]
   have e1:d0=ds:=allD_dats h1 h2
   subst e1
   have hB':=gt_hp hB
   simp only[SB.toB]at hB'
   have e2:({s with tm:=mapv (fixS κ (.agg cs)) s.tm,hp:=mapv (fixSB κ (.agg cs) (.agg d0)) (del κ s.hp)}:SSt).toSt=s.toSt.fix κ (.agg d0):=by
    simp only[SSt.toSt,St.fix,mapv_mapk (fixS_img hd),mapv_mapk (fixSB_img hd),del_mapk]
   rw[e2]
   exact fun c m a w hr=>hr.fix hB' h1
  ·exact LeSt.refl _
 ·exact LeSt.refl _
def SSt.fixAll(s:SSt):List Nat→SSt
 | []=>s
 |κ::l=>(s.fix κ).fixAll l
theorem fixAll_le: ∀(l:List Nat) (s:SSt),LeSt (s.fixAll l).toSt s.toSt
 | [],s=>LeSt.refl _
 |κ::l,s=>(fixAll_le l (s.fix κ)).trans (fix_le s κ)
theorem fix_n(s:SSt)(κ:Nat):(s.fix κ).n=s.n:=by
 unfold SSt.fix
 split
 ·split<;>rfl
 ·rfl
mutual
def killsS(K:List Nat):SV→SV
 | .ptr κ off=>if K.contains κ then .bot else .ptr κ off
 | .own κ=>if K.contains κ then .bot else .own κ
 | .pel κ z n o=>if K.contains κ then .bot else .pel κ z n o
 | .aptr κ off=>if K.contains κ then .bot else .aptr κ off
 | .agg l=> .agg (killsSs K l)
 | .tup l=> .tup (killsSs K l)
 | .clos g l=> .clos g (killsSs K l)
 | .wrap k v=> .wrap k (killsS K v)
 | .d x=> .d x
 | .i k x=> .i k x
 | .b x=> .b x
 | .s x=> .s x
 | .ints k xs c=> .ints k xs c
 | .row e xs c=> .row e xs c
 | .eaddr v=> .eaddr v
 | .bot=> .bot
termination_by structural v=>v
def killsSs(K:List Nat):List SV→List SV
 | []=> []
 |v::l=>killsS K v::killsSs K l
termination_by structural l=>l
end
mutual
theorem killsS_img(K:List Nat): ∀v:SV,(killsS K v).toAV=killsV K v.toAV
 | .ptr κ off=>by simp only[killsS,SV.toAV,killsV];split<;>simp only[SV.toAV]
 | .own κ=>by simp only[killsS,SV.toAV,killsV];split<;>simp only[SV.toAV]
 | .pel κ z n o=>by simp only[killsS,SV.toAV,killsV];split<;>simp only[SV.toAV]
 | .aptr κ off=>by simp only[killsS,SV.toAV,killsV];split<;>simp only[SV.toAV]
 | .agg l=>by simp only[killsS,SV.toAV,killsV,killsSs_img K l]
 | .tup l=>by simp only[killsS,SV.toAV,killsV,killsSs_img K l]
 | .clos g l=>by simp only[killsS,SV.toAV,killsV,killsSs_img K l]
 | .wrap k v=>by simp only[killsS,SV.toAV,killsV,killsS_img K v]
 | .d x=>by simp only[killsS,SV.toAV,killsV]
 | .i k x=>by simp only[killsS,SV.toAV,killsV]
 | .b x=>by simp only[killsS,SV.toAV,killsV]
 | .s x=>by simp only[killsS,SV.toAV,killsV]
 | .ints k xs c=>by simp only[killsS,SV.toAV,killsV]
 | .row e xs c=>by simp only[killsS,SV.toAV,killsV]
 | .eaddr v=>by simp only[killsS,SV.toAV];split<;>simp only[killsV]
 | .bot=>by simp only[killsS,SV.toAV,killsV]
theorem killsSs_img(K:List Nat): ∀l:List SV,SV.toAVs (killsSs K l)=killsVs K (SV.toAVs l)
 | []=>rfl
 |v::l=>by simp only[killsSs,SV.toAVs,killsVs,killsS_img K v,killsSs_img K l]
end
mutual
def renS(f:Nat→Option Nat):SV→SV
 | .ptr κ off=>match f κ with|some j=> .ptr j off|none=> .bot
 | .own κ=>match f κ with|some j=> .own j|none=> .bot
 | .pel κ z n o=>match f κ with|some j=> .pel j z n o|none=> .bot
 | .aptr κ off=>match f κ with|some j=> .aptr j off|none=> .bot
 | .agg l=> .agg (renSs f l)
 | .tup l=> .tup (renSs f l)
 | .clos g l=> .clos g (renSs f l)
 | .wrap k v=> .wrap k (renS f v)
 | .d x=> .d x
 | .i k x=> .i k x
 | .b x=> .b x
 | .s x=> .s x
 | .ints k xs c=> .ints k xs c
 | .row e xs c=> .row e xs c
 | .eaddr v=> .eaddr v
 | .bot=> .bot
termination_by structural v=>v
def renSs(f:Nat→Option Nat):List SV→List SV
 | []=> []
 |v::l=>renS f v::renSs f l
termination_by structural l=>l
end
mutual
theorem renS_img(f:Nat→Option Nat): ∀v:SV,(renS f v).toAV=renV f v.toAV
 | .ptr κ off=>by simp only[renS,SV.toAV,renV];cases f κ<;>simp only[SV.toAV]
 | .own κ=>by simp only[renS,SV.toAV,renV];cases f κ<;>simp only[SV.toAV]
 | .pel κ z n o=>by simp only[renS,SV.toAV,renV];cases f κ<;>simp only[SV.toAV]
 | .aptr κ off=>by simp only[renS,SV.toAV,renV];cases f κ<;>simp only[SV.toAV]
 | .agg l=>by simp only[renS,SV.toAV,renV,renSs_img f l]
 | .tup l=>by simp only[renS,SV.toAV,renV,renSs_img f l]
 | .clos g l=>by simp only[renS,SV.toAV,renV,renSs_img f l]
 | .wrap k v=>by simp only[renS,SV.toAV,renV,renS_img f v]
 | .d x=>by simp only[renS,SV.toAV,renV]
 | .i k x=>by simp only[renS,SV.toAV,renV]
 | .b x=>by simp only[renS,SV.toAV,renV]
 | .s x=>by simp only[renS,SV.toAV,renV]
 | .ints k xs c=>by simp only[renS,SV.toAV,renV]
 | .row e xs c=>by simp only[renS,SV.toAV,renV]
 | .eaddr v=>by simp only[renS,SV.toAV];split<;>simp only[renV]
 | .bot=>by simp only[renS,SV.toAV,renV]
theorem renSs_img(f:Nat→Option Nat): ∀l:List SV,SV.toAVs (renSs f l)=renVs f (SV.toAVs l)
 | []=>rfl
 |v::l=>by simp only[renSs,SV.toAVs,renVs,renS_img f v,renSs_img f l]
end
def killsSB(K:List Nat):SB→SB
 | .box e cs=> .box e (killsSs K cs)
 | .map kvs=> .map (killsSs K kvs)
 | .raw B=> .raw (killsB K B)
 |B=>B
theorem killsSB_img(K:List Nat)(B:SB):(killsSB K B).toB=killsB K B.toB:=by
 cases B<;>simp only[killsSB,SB.toB,killsB,killsSs_img]
def renSB(f:Nat→Option Nat):SB→SB
 | .box e cs=> .box e (renSs f cs)
 | .map kvs=> .map (renSs f kvs)
 | .raw B=> .raw (renB f B)
 |B=>B
theorem renSB_img(f:Nat→Option Nat)(B:SB):(renSB f B).toB=renB f B.toB:=by
 cases B<;>simp only[renSB,SB.toB,renB,renSs_img]
def pickBS(f:Nat→Option Nat)(hp:List (Nat×SB)):List Nat→Option (List SB)
 | []=>some []
 |κ::l=>match gt κ hp,pickBS f hp l with
  |some B,some r=>some (renSB f B::r)
  |_,_=>none
theorem pickBS_img{f:Nat→Option Nat}{hp:List (Nat×SB)}: ∀ {ks:List Nat} {bs:List SB},pickBS f hp ks=some bs→pickB f (mapk SB.toB hp) ks=some (bs.map SB.toB)
 | [],bs,h=>by simp only[pickBS]at h;cases h;rfl
 |κ::l,bs,h=>by
  simp only[pickBS]at h
  split at h
  ·rename_i B r h1 h2
   cases h
   simp only[pickB,gt_mapk,h1,Option.map_some,pickBS_img h2,List.map_cons,renSB_img]
  ·cases h
theorem delL_mapk{α β:Type}(f:α→β): ∀(ks:List Nat) (l:List (Nat×α)),mapk f (delL ks l)=delL ks (mapk f l)
 | [],l=>rfl
 |k::r,l=>by simp only[delL,del_mapk,delL_mapk f r l]
theorem insL_mapk{α β:Type}(f:α→β): ∀(r l:List (Nat×α)),mapk f (insL r l)=insL (mapk f r) (mapk f l)
 | [],l=>rfl
 |(k,v)::r,l=>by simp only[insL,mapk,ins_mapk,insL_mapk f r l]
def backS(g:Nat→Nat)(f:Nat→Option Nat)(i:Nat):List SB→List (Nat×SB)
 | []=> []
 |B::l=>(g i,renSB f B)::backS g f (i+1) l
theorem backS_img(g:Nat→Nat)(f:Nat→Option Nat): ∀(l:List SB) (i:Nat),mapk SB.toB (backS g f i l)=backFrom g f i (l.map SB.toB)
 | [],i=>rfl
 |B::l,i=>by simp only[backS,mapk,List.map_cons,backFrom,renSB_img,backS_img g f l (i+1)]
def afterSS(s:SSt)(ks:List Nat)(q:Nat)(hs':List SB):SSt:=
 {s with tm:=mapv (killsS (rowKeys s.toSt.hp ks++newKeys ks q hs'.length)) s.tm,hp:=insL (backS (backK ks q) (backF ks q hs'.length) 0 hs') (mapv (killsSB (rowKeys s.toSt.hp ks++newKeys ks q hs'.length)) (delL ks s.hp))}
theorem afterSS_img(s:SSt)(ks:List Nat)(q:Nat)(hs':List SB):(afterSS s ks q hs').toSt=afterS s.toSt ks q (hs'.map SB.toB):=by
 simp only[afterSS,afterS,SSt.toSt,List.length_map,insL_mapk,backS_img,mapv_mapk (killsS_img _),mapv_mapk (killsSB_img _),delL_mapk]
def nilS(P:Program)(t:TypeId):SV:=
 match elemT P t with
 |some (e,n,_)=>match intT P e with
  |some k=> .ints k [] none
  |none=>match shT P e with
   |some sh=>if sh.size=n then .row sh [] none else .d (.sl n [] none)
   |none=> .d (.sl n [] none)
 |none=> .d (.v (.slice none 0 0))
theorem nilS_img(P:Program)(t:TypeId):(nilS P t).toAV=nilA P t:=by
 unfold nilS nilA
 cases elemT P t with
 |none=>simp only[SV.toAV]
 |some x=>
  obtain⟨e,n,g⟩:=x
  simp only
  cases intT P e with
  |some k=>simp only[SV.toAV]
  |none=>
   simp only
   cases shT P e with
   |none=>simp only[SV.toAV]
   |some sh=>
    simp only
    split
    ·rename_i hn;simp only[SV.toAV,List.map_nil,hn]
    ·simp only[SV.toAV]
def uncapS:SV→SV
 | .ints k xs _=> .ints k xs none
 | .row e xs _=> .row e xs none
 | .d x=> .d (uncap x)
 |v=>v
def argS(P:Program)(s:SSt)(ks V:List Nat)(t:TypeId)(v:SV):SV:=
 match v with
 | .own κ=>if V.contains κ then match gt κ s.hp with
   |some B=>match B.data with
    |some (x,_)=>uncapS x
    |none=> .bot
   |none=> .bot
  else renS (posOf · ks) (.own κ)
 | .d (.v (.slice none 0 0))=>nilS P t
 | .d x=> .d (uncap x)
 | .ints k xs _=> .ints k xs none
 | .row e xs _=> .row e xs none
 |v=>renS (posOf · ks) v
theorem data_none{B:SB}(h:B.data=none):B.toB.data=none:=by
 cases B<;>simp only[SB.data]at h
 ·rfl
 ·cases h
 ·cases h
 ·rfl
 ·split at h
  ·cases h
  ·rename_i hn;exact hn
theorem uncapS_img{B:SB}{x:SV}{y:D}(h:B.data=some (x,y)):(uncapS x).toAV= .d (uncap y):=by
 cases B<;>simp only[SB.data]at h
 ·cases h
 ·cases h;simp only[uncapS,SV.toAV,uncap]
 ·cases h;simp only[uncapS,SV.toAV,uncap]
 ·cases h
 ·split at h
  ·cases h;simp only[uncapS,SV.toAV]
  ·cases h
theorem argS_img{P:Program}{s:SSt}{ks V:List Nat}{t:TypeId}(v:SV):(argS P s ks V t v).toAV=argA P s.toSt ks V t v.toAV:=by
 unfold argS
 split
 ·rename_i κ
  simp only[SV.toAV,argA]
  split
  ·split
   ·rename_i B hB
    rw[gt_hp hB,obind_some]
    split
    ·rename_i x y hd
     obtain⟨h1,h2⟩:=SB.data_img hd
     rw[h1];exact uncapS_img hd
    ·rename_i hd
     have:B.toB.data=none:=data_none hd
     rw[this];simp only[SV.toAV]
   ·rename_i hB
    have:gt κ s.toSt.hp=none:=by simp only[SSt.toSt,gt_mapk,hB,Option.map_none]
    rw[this,obind_none];simp only[SV.toAV]
  ·rw[renS_img];simp only[SV.toAV]
 ·simp only[SV.toAV,argA,nilS_img]
 ·rename_i x hne
  simp only[SV.toAV]
  unfold argA
  split
  ·rename_i he;cases he
  ·rename_i he;cases he;exact(hne rfl).elim
  ·rename_i he;cases he;rfl
  ·rename_i h1 h2 h3;exact absurd rfl (h3 x)
 ·simp only[SV.toAV,argA,uncap]
 ·simp only[SV.toAV,argA,uncap]
 ·rename_i h1 h2 h3 h4 h5
  rw[renS_img]
  cases v with
  |own κ=>exact absurd rfl (h1 κ)
  |d x=>exact absurd rfl (h3 x)
  |ints k xs c=>exact absurd rfl (h4 k xs c)
  |row e xs c=>exact absurd rfl (h5 e xs c)
  |i k x=>simp only[SV.toAV,argA,renV,uncap]
  |b x=>simp only[SV.toAV,argA,renV,uncap]
  |s x=>simp only[SV.toAV,argA,renV,uncap]
  |eaddr v=>simp only[SV.toAV];split<;>simp only[argA]
  |_=>simp only[SV.toAV,argA]
def argsS(P:Program)(s:SSt)(ks V:List Nat):List TypeId→List SV→List SV
 |t::ts,v::vs=>argS P s ks V t v::argsS P s ks V ts vs
 |_,vs=>renSs (posOf · ks) vs
theorem argsS_img{P:Program}{s:SSt}{ks V:List Nat}: ∀(ts:List TypeId) (vs:List SV),SV.toAVs (argsS P s ks V ts vs)=argsA P s.toSt ks V ts (SV.toAVs vs)
 | [],vs=>by simp only[argsS,argsA,renSs_img]
 |t::ts,[]=>by simp only[argsS,argsA,SV.toAVs,renSs_img]
 |t::ts,v::vs=>by simp only[argsS,argsA,SV.toAVs,argS_img,argsS_img ts vs]
def CallK:Type 1:=(R:Type)→FuncId→List SV→List SB→(SV→List SB→Option R)→Option R
def CallOk(P:Program)(ck:CallK):Prop:= ∀(R:Type) (f:FuncId) (vs:List SV) (hs:List SB) (k:SV→List SB→Option R) (r:R),ck R f vs hs k=some r→
 ∃v BS,hs.length≤BS.length∧(ACall P f (SV.toAVs vs) (hs.map SB.toB) fun r' hs'=>r'=v.toAV∧hs'=BS.map SB.toB)∧k v BS=some r
open Classical in
noncomputable def run1 (f0:FuncId) (vs0:List AV) (hs0:List Blk) (R:AV) (BS:List Blk):RunF:=fun f vs hs=>if f=f0∧vs=vs0∧hs=hs0 then some (R,BS)else none
theorem run1_ok{P:Program}{f:FuncId}{vs:List AV}{hs:List Blk}{R:AV}{BS:List Blk}(hl:hs.length≤BS.length)(h:ACall P f vs hs fun r hs'=>r=R∧hs'=BS):RunOk P (run1 f vs hs R BS):=by
 intro f' vs' hs' R' BS' he
 unfold run1 at he
 split at he
 ·rename_i hc
  obtain⟨rfl,rfl,rfl⟩:=hc
  simp only[Option.some.injEq,Prod.mk.injEq]at he
  obtain⟨rfl,rfl⟩:=he
  exact⟨hl,h⟩
 ·cases he
theorem run1_self{f:FuncId}{vs:List AV}{hs:List Blk}{R:AV}{BS:List Blk}:run1 f vs hs R BS f vs hs=some (R,BS):=by
 unfold run1;rw[if_pos ⟨rfl,rfl,rfl⟩]
def callN{R:Type}(s:SSt)(ks V:List Nat)(q:Nat)(dst:Option Nat)(k:SSt→Option R)(v:SV)(BS:List SB):Option R:=
 if V.isEmpty||(flatV v.toAV&&(BS.map SB.toB).all flatB)then k ((afterSS s ks q BS).put dst (renS (backF ks q BS.length) v))else none
def callSS{R:Type}(P:Program)(ck:CallK)(s:SSt)(V:List Nat)(f:FuncId)(fn:Func)(dst:Option Nat)(vs:List SV)(k:SSt→Option R):Option R:=
 let ks:=reachK s.toSt.hp 64 (keysVs ((SV.toAVs vs).filter notOwn)) []
 let V:=rmK ks V
 let q:=maxK s.toSt.hp (16+s.n)
 match pickBS (posOf · ks) s.hp ks with
 |some bs=>if nodupB ks&&(decide (ks.length≤16)&&(V.all (fun κ=>(gt κ s.toSt.hp).isSome)&&ks.all (fun κ=>decide (κ<q))))then
   ck R f (argsS P s ks V fn.params.toList vs) bs (callN s ks V q dst k)
  else none
 |none=>none
def OpOk(P:Program)(s:SSt)(o:Oper)(s':SSt):Prop:= ∀(ops:Array Oper) (l:List Oper) (Q:St→Prop),AWpL P ops l Q s'.toSt→AWpL P ops (o::l) Q s.toSt
theorem callSS_sound{R:Type}{P:Program}{ck:CallK}(hck:CallOk P ck){s:SSt}{V:List Nat}{o:Oper}{f:FuncId}{fn:Func}{vs:List SV}{k:SSt→Option R}{r:R}
  (hg:o.guard=none)(hf:IsFn P f fn)(hgo:GoesTo P s.toSt o f (SV.toAVs vs))(hdst:s.okDst o.dst=true)
  (h:callSS P ck s V f fn o.dst vs k=some r): ∃s',OpOk P s o s'∧k s'=some r:=by
 unfold callSS at h
 simp only at h
 split at h
 ·rename_i bs hb
  split at h
  ·rename_i hc
   obtain⟨v,BS,hl,hcall,hk⟩:=hck _ _ _ _ _ _ h
   unfold callN at hk
   split at hk
   ·rename_i hfl
    refine⟨_,?_,hk⟩
    intro ops l Q next
    rw[argsS_img]at hcall
    refine callS_sound (run1_ok (by simpa using hl) hcall) hg hf hgo (by rw[okDst_img];exact hdst) (V:=V) ?_ next
    have hb':pickB (fun x=>posOf x (reachK s.toSt.hp 64 (keysVs (List.filter notOwn (SV.toAVs vs))) [])) s.toSt.hp (reachK s.toSt.hp 64 (keysVs (List.filter notOwn (SV.toAVs vs))) [])=some (bs.map SB.toB):=pickBS_img hb
    have e:s.toSt.n=s.n:=rfl
    unfold callS
    simp only[hb',e]
    rw[if_pos hc,run1_self]
    simp only
    rw[if_pos hfl,put_img,afterSS_img,renS_img,List.length_map]
   ·cases hk
  ·cases h
 ·cases h
def goVS:Option SV→Option (List SV)→Option (FuncId×List SV)
 |some (.clos f caps),some vs=>some (f,vs++caps)
 |some (.d (.v u)),some vs=>match funOf u with
  |some f=>some (f,vs)
  |none=>none
 |_,_=>none
def goIS(P:Program)(n:String):Option SV→Option (List SV)→Option (FuncId×List SV)
 |some (.wrap (.ifc t) v),some vs=>match methA P t n with
  |some f=>some (f,v::vs)
  |none=>none
 |_,_=>none
def goS(P:Program)(s:SSt)(c:Call):Option (FuncId×List SV):=
 match c.callee with
 | .value g=>goVS (s.ev g) (s.evL c.args.toList)
 | .invoke r n=>goIS P n (s.ev r) (s.evL c.args.toList)
 |_=>none
theorem goS_img{P:Program}{s:SSt}{c:Call}{f:FuncId}{vs:List SV}(h:goS P s c=some (f,vs)):goC P s.toSt c=some (f,SV.toAVs vs):=by
 unfold goS at h
 split at h
 ·rename_i g hc
  unfold goVS at h
  split at h
  ·rename_i f' caps vs' h1 h2
   cases h
   simp only[goC,hc,SSt.ev_img h1,evL_img h2,SV.toAV,goV,toAVs_append]
  ·rename_i u vs' h1 h2
   split at h
   ·rename_i f' hu;cases h;simp only[goC,hc,SSt.ev_img h1,evL_img h2,SV.toAV,goV,hu,omap_some]
   ·cases h
  ·cases h
 ·rename_i x n hc
  unfold goIS at h
  split at h
  ·rename_i t v vs' h1 h2
   split at h
   ·rename_i f' hm;cases h;simp only[goC,hc,SSt.ev_img h1,evL_img h2,SV.toAV,goI,hm,omap_some,SV.toAVs]
   ·cases h
  ·cases h
 ·cases h
def callGS{R:Type}(P:Program)(ck:CallK)(s:SSt)(f:FuncId)(fn:Func)(dst:Option Nat)(vs:List SV)(k:SSt→Option R):Option R:=
 let ks:=reachK s.toSt.hp 64 (keysVs (SV.toAVs vs)) []
 let q:=maxK s.toSt.hp (16+s.n)
 match pickBS (posOf · ks) s.hp ks with
 |some bs=>if nodupB ks&&(decide (ks.length≤16)&&ks.all (fun κ=>decide (κ<q)))then
   ck R f (argsS P s ks [] fn.params.toList vs) bs (callN s ks [] q dst k)
  else none
 |none=>none
theorem callGS_sound{R:Type}{P:Program}{ck:CallK}(hck:CallOk P ck){s:SSt}{o:Oper}{f:FuncId}{fn:Func}{vs:List SV}{k:SSt→Option R}{r:R}
  (hg:o.guard=none)(hf:IsFn P f fn)(hgo:GoesTo P s.toSt o f (SV.toAVs vs))(hdst:s.okDst o.dst=true)
  (h:callGS P ck s f fn o.dst vs k=some r): ∃s',OpOk P s o s'∧k s'=some r:=by
 unfold callGS at h
 simp only at h
 split at h
 ·rename_i bs hb
  split at h
  ·rename_i hc
   simp only[Bool.and_eq_true,decide_eq_true_eq]at hc
   obtain⟨h1,h2,h3⟩:=hc
   obtain⟨v,BS,hl,hcall,hk⟩:=hck _ _ _ _ _ _ h
   simp only[callN,List.isEmpty_nil,Bool.true_or,if_true]at hk
   refine⟨_,?_,hk⟩
   intro ops l Q next
   rw[argsS_img]at hcall
   refine awpl_callG hg hf hgo (by rw[okDst_img];exact hdst) (reachK s.toSt.hp 64 (keysVs (SV.toAVs vs)) []) [] (maxK s.toSt.hp (16+s.n)) hcall (nodupB_get h1) (pickBS_img hb) h2 (Nat.le_trans (Nat.le_add_right 16 s.n) (maxK_le s.toSt.hp (16+s.n))) (fun κ hκ=>by cases hκ) ?_
   rintro r' hs' ⟨rfl,rfl⟩ _
   refine⟨fun κ hκ=> .inl (by simpa using List.all_eq_true.1 h3 κ hκ),.inl rfl,?_⟩
   rw[put_img,afterSS_img,renS_img]at next
   simpa only[List.length_map]using next
  ·cases h
 ·cases h
def cellS(P:Program)(s:SSt)(ks V:List Nat)(v:SV):SV:=
 match v with
 | .own κ=>argS P s ks V 0 (.own κ)
 |v=>renS (posOf · ks) v
def cellsS(P:Program)(s:SSt)(ks V:List Nat):List SV→List SV
 | []=> []
 |v::vs=>cellS P s ks V v::cellsS P s ks V vs
theorem cellS_img{P:Program}{s:SSt}{ks V:List Nat}(v:SV):(cellS P s ks V v).toAV=cellA P s.toSt ks V v.toAV:=by
 cases v with
 |own κ=>simp only[cellS,argS_img,SV.toAV,cellA]
 |eaddr v=>simp only[cellS,renS_img,SV.toAV];split<;>simp only[cellA]
 |_=>simp only[cellS,renS_img,SV.toAV,cellA]
theorem cellsS_img{P:Program}{s:SSt}{ks V:List Nat}: ∀vs:List SV,SV.toAVs (cellsS P s ks V vs)=cellsA P s.toSt ks V (SV.toAVs vs)
 | []=>rfl
 |v::vs=>by simp only[cellsS,SV.toAVs,cellsA,cellS_img,cellsS_img vs]
def argCS(P:Program)(s:SSt)(ks V:List Nat)(t:TypeId)(v:SV):SV:=
 match v with
 | .agg l=> .agg (cellsS P s ks V l)
 |v=>argS P s ks V t v
theorem argCS_img{P:Program}{s:SSt}{ks V:List Nat}{t:TypeId}(v:SV):(argCS P s ks V t v).toAV=argC P s.toSt ks V t v.toAV:=by
 cases v with
 |agg l=>simp only[argCS,SV.toAV,argC,cellsS_img]
 |eaddr v=>simp only[argCS,argS_img,SV.toAV];split<;>simp only[argC]
 |_=>simp only[argCS,argS_img,SV.toAV,argC]
def argsCS(P:Program)(s:SSt)(ks V:List Nat):List TypeId→List SV→List SV
 |t::ts,v::vs=>argCS P s ks V t v::argsCS P s ks V ts vs
 |_,vs=>renSs (posOf · ks) vs
theorem argsCS_img{P:Program}{s:SSt}{ks V:List Nat}: ∀(ts:List TypeId) (vs:List SV),SV.toAVs (argsCS P s ks V ts vs)=argsC P s.toSt ks V ts (SV.toAVs vs)
 | [],vs=>by simp only[argsCS,argsC,renSs_img]
 |t::ts,[]=>by simp only[argsCS,argsC,SV.toAVs,renSs_img]
 |t::ts,v::vs=>by simp only[argsCS,argsC,SV.toAVs,argCS_img,argsCS_img ts vs]
def ownL:List AV→List Nat
 | []=> []
 | .own κ::l=>κ::ownL l
 | .agg cs::l=>keysVs (cs.filter isOwn)++ownL l
 |_::l=>ownL l
def stripL:List AV→List AV
 | []=> []
 | .own _::l=>stripL l
 | .agg cs::l=> .agg (cs.filter notOwn)::stripL l
 |v::l=>v::stripL l
def callPS{R:Type}(P:Program)(ck:CallK)(s:SSt)(f:FuncId)(fn:Func)(dst:Option Nat)(vs:List SV)(k:SSt→Option R):Option R:=
 let ks:=reachK s.toSt.hp 64 (keysVs (stripL (SV.toAVs vs))) []
 let V:=rmK ks (ownL (SV.toAVs vs))
 let q:=maxK s.toSt.hp (16+s.n)
 match pickBS (posOf · ks) s.hp ks with
 |some bs=>if nodupB ks&&(decide (ks.length≤16)&&(V.all (fun κ=>(gt κ s.toSt.hp).isSome)&&ks.all (fun κ=>decide (κ<q))))then
   ck R f (argsCS P s ks V fn.params.toList vs) bs (callN s ks V q dst k)
  else none
 |none=>none
theorem callPS_sound{R:Type}{P:Program}{ck:CallK}(hck:CallOk P ck){s:SSt}{o:Oper}{f:FuncId}{fn:Func}{vs:List SV}{k:SSt→Option R}{r:R}
  (hg:o.guard=none)(hf:IsFn P f fn)(hgo:GoesTo P s.toSt o f (SV.toAVs vs))(hdst:s.okDst o.dst=true)
  (h:callPS P ck s f fn o.dst vs k=some r): ∃s',OpOk P s o s'∧k s'=some r:=by
 unfold callPS at h
 simp only at h
 generalize hks:reachK s.toSt.hp 64 (keysVs (stripL (SV.toAVs vs))) []=ks at h
 generalize hV:rmK ks (ownL (SV.toAVs vs))=V at h
 split at h
 ·rename_i bs hb
  split at h
  ·rename_i hc
   simp only[Bool.and_eq_true,decide_eq_true_eq]at hc
   obtain⟨h1,h2,h4,h3⟩:=hc
   obtain⟨v,BS,hl,hcall,hk⟩:=hck _ _ _ _ _ _ h
   unfold callN at hk
   split at hk
   ·rename_i hfl
    refine⟨_,?_,hk⟩
    intro ops l Q next
    rw[argsCS_img]at hcall
    refine awpl_callH hg hf hgo (by rw[okDst_img];exact hdst) ks V (maxK s.toSt.hp (16+s.n)) (fun cx m a w us hr h1 h2 h3 h4 h5=>argsC_rep hr h1 h2 h3 h4 h5) hcall (nodupB_get h1) (pickBS_img hb) h2 (Nat.le_trans (Nat.le_add_right 16 s.n) (maxK_le s.toSt.hp (16+s.n)))
     (fun κ hκ=>⟨fun hin=> ?_,List.all_eq_true.1 h4 κ hκ⟩) ?_
    ·subst hV
     have:=(List.mem_filter.1 hκ).2
     simp[hin]at this
    ·rintro r' hs' ⟨rfl,rfl⟩ _
     refine⟨fun κ hκ=> .inl (by simpa using List.all_eq_true.1 h3 κ hκ),?_,?_⟩
     ·rcases Bool.or_eq_true_iff.1 hfl with e|e
      ·exact .inl (List.isEmpty_iff.1 e)
      ·rw[Bool.and_eq_true]at e
       exact .inr ⟨e.1,fun B hB=>List.all_eq_true.1 e.2 B hB⟩
     ·rw[put_img,afterSS_img,renS_img]at next
      simpa only[List.length_map]using next
   ·cases hk
  ·cases h
 ·cases h
def callX1{R:Type}(P:Program)(ck:CallK)(fl:FuncId→Bool)(s:SSt)(dst:Option Nat)(c:Call)(k:SSt→Option R):Option R:=
 match goS P s c with
 |some (f,vs)=>match P.funcs[f]? with
  |some fn=>if fnOk fn&&s.okDst dst then cond (fl (f+11000000)) (callPS P ck s f fn dst vs k) (cond (fl (f+10000000)) (callGS P ck s f fn dst vs k) (
    match(if fl (f+1000000)then(reachK s.toSt.hp 64 (keysVs (SV.toAVs vs)) []).filter (isRowK s.toSt.hp)else keysVs ((SV.toAVs vs).filter isOwn))with
    | []=>callSS P ck s [] f fn dst vs k
    |κ::V=>if fl f then callSS P ck s (κ::V) f fn dst vs k else match s.freezeL (κ::V)with
     |some s1=>match goS P s1 c with
      |some (f',vs')=>if f'=f∧s1.okDst dst=true then callSS P ck s1 [] f fn dst vs' k else none
      |none=>none
     |none=>none))
   else none
  |none=>none
 |none=>none
theorem callX1_sound{R:Type}{P:Program}{ck:CallK}(hck:CallOk P ck){fl:FuncId→Bool}{s:SSt}{o:Oper}{c:Call}{k:SSt→Option R}{r:R}
  (hg:o.guard=none)(ho:o.op= .call c)(h:callX1 P ck fl s o.dst c k=some r): ∃s',OpOk P s o s'∧k s'=some r:=by
 unfold callX1 at h
 split at h
 ·rename_i f vs hgo
  split at h
  ·rename_i fn hfn
   split at h
   ·rename_i hk
    simp only[Bool.and_eq_true]at hk
    have hf:=isFn_of hfn hk.1
    cases hlook:fl (f+11000000)with
    |true=>rw[hlook]at h;exact callPS_sound hck hg hf (goC_sound ho hf (goS_img hgo)) hk.2 h
    |false=>
    rw[hlook]at h
    simp only[cond_false]at h
    cases hgive:fl (f+10000000)with
    |true=>rw[hgive]at h;exact callGS_sound hck hg hf (goC_sound ho hf (goS_img hgo)) hk.2 h
    |false=>
    rw[hgive]at h
    simp only[cond_false]at h
    split at h
    ·exact callSS_sound hck hg hf (goC_sound ho hf (goS_img hgo)) hk.2 h
    ·split at h
     ·exact callSS_sound hck hg hf (goC_sound ho hf (goS_img hgo)) hk.2 h
     ·split at h
      ·rename_i s1 hs1
       split at h
       ·rename_i f' vs' hgo'
        split at h
        ·rename_i hc
         obtain⟨rfl,hd⟩:=hc
         obtain⟨s',h1,h2⟩:=callSS_sound hck hg hf (goC_sound ho hf (goS_img hgo')) hd h
         exact⟨s',fun ops l Q next=>awpl_le (freezeL_le hs1) (h1 ops l Q next),h2⟩
        ·cases h
       ·cases h
      ·cases h
   ·cases h
  ·cases h
 ·cases h
def callX0{R:Type}(P:Program)(ck:CallK)(fl:FuncId→Bool)(s:SSt)(dst:Option Nat)(c:Call)(k:SSt→Option R):Option R:=
 match goS P s c with
 |some (f,_)=>match P.funcs[f]? with
  |some fn=>if fl (4000000+f)then callX1 P ck fl (matArgs P fl (5000000+1000*f) fn.params.toList c.args.toList s) dst c k else callX1 P ck fl s dst c k
  |none=>none
 |none=>none
theorem callX0_sound{R:Type}{P:Program}{ck:CallK}(hck:CallOk P ck){fl:FuncId→Bool}{s:SSt}{o:Oper}{c:Call}{k:SSt→Option R}{r:R}
  (hg:o.guard=none)(ho:o.op= .call c)(h:callX0 P ck fl s o.dst c k=some r): ∃s',OpOk P s o s'∧k s'=some r:=by
 unfold callX0 at h
 split at h
 ·split at h
  ·split at h
   ·obtain⟨s',h1,h2⟩:=callX1_sound hck hg ho h
    exact⟨s',fun ops l Q next=>awpl_gst (matArgs_le _ _ _ s) (h1 ops l Q next),h2⟩
   ·exact callX1_sound hck hg ho h
  ·cases h
 ·cases h
def mapT(P:Program)(t:TypeId):Option (TypeId×TypeId):=match P.underlying t with
 |some (.map k e)=>some (k,e)
 |_=>none
theorem mapT_und{P:Program}{t k e:TypeId}(h:mapT P t=some (k,e)):P.underlying t=some (.map k e):=by
 unfold mapT at h
 split at h
 ·rename_i h1;cases h;exact h1
 ·cases h
def keyEq(P:Program)(kt:TypeId)(x y:D):Option Bool:=match intT P kt with
 |some k=>match x,y with
  | .v (.int k1 a),.v (.int k2 b)=>if k1=k∧k2=k then some (decide (a=b))else none
  |_,_=>none
 |none=>match eqT P kt with
  |some ks=>match x,y with
   | .agg cs,.agg ds=>eqFs ks cs ds
   |_,_=>none
  |none=>none
def okKs:List Bool→List D→Bool
 | [],[]=>true
 |true::ks,.v (.int _ _)::l=>okKs ks l
 |false::ks,.v (.bool _)::l=>okKs ks l
 |_,_=>false
def keyOk(P:Program)(kt:TypeId)(x:D):Bool:=match intT P kt with
 |some k=>match x with
  | .v (.int k1 _)=>decide (k1=k)
  |_=>false
 |none=>match eqT P kt with
  |some ks=>match x with
   | .agg cs=>okKs ks cs
   |_=>false
  |none=>false
theorem eqT_parts{P:Program}{kt:TypeId}{ks:List Bool}(h:eqT P kt=some ks): ∃fs,P.underlying kt=some (.struct fs)∧P.stoodInHeld kt=false∧flatF P 0 fs.toList=some ks:=by
 unfold eqT at h
 split at h
 ·rename_i fs hu
  split at h
  ·rename_i hc;exact⟨fs,hu,hc.1,h⟩
  ·cases h
 ·cases h
theorem keyEq_run{P:Program}{kt:TypeId}{x y:D}{r:Bool}{w:World}{F:Nat→Prop}{u v:Value}(h:keyEq P kt x y=some r)(hx:RepD w F x u)(hy:RepD w F y v):
  (Op.equal kt u v).run P w= .ok r w∧ ∀k,P.underlying kt=some (.int k)→Instr.sameNow (.int k) u v=some r:=by
 unfold keyEq at h
 split at h
 ·rename_i k hk
  have hu:=intT_und hk
  split at h
  ·rename_i k1 a k2 b
   split at h
   ·rename_i hc
    obtain⟨rfl,rfl⟩:=hc
    cases h
    simp only[RepD]at hx hy
    obtain⟨rfl,_⟩:=hx
    obtain⟨rfl,_⟩:=hy
    have hd:(a==b)=decide (a=b):=by by_cases e:a=b<;>simp[e]
    refine⟨?_,fun k' hk'=> ?_⟩
    ·show(Op.equalIn (9999+1) kt _ _).run P w=_
     rw[run_equalIn_int _ 9999 kt _ _ a b hu,hd]
    ·simp[Instr.sameNow,hd]
   ·cases h
  ·cases h
 ·split at h
  ·rename_i ks hks
   split at h
   ·rename_i cs ds
    obtain⟨fs,hu,hp,hf⟩:=eqT_parts hks
    obtain⟨xs,rfl,ix⟩:=repD_cellsV hx
    obtain⟨ys,rfl,iy⟩:=repD_cellsV hy
    refine⟨?_,fun k' hk'=>by rw[hu]at hk';cases hk'⟩
    have hu':P.underlying kt=some (.struct (P.fieldsOf kt)):=by simp only[Program.fieldsOf,hu]
    have hfs:P.fieldsOf kt=fs:=by simp only[Program.fieldsOf,hu]
    show(Op.equalIn (9999+1) kt (.agg xs) (.agg ys)).run P w=_
    rw[run_equalIn_struct w 9999 kt xs ys hu' hp,hfs]
    exact eqFs_run hf h (by simpa using ix) (by simpa using iy)
   ·cases h
  ·cases h
theorem check_int{P:Program}{em:Bool}{n:Nat}{t:TypeId}{k:IntKind}{v:Value}{w:World}(hu:P.underlying t=some (.int k)):(Instr.checkKey em (n+1) t v).run P w= .ok () w:=by
 rw[Instr.checkKey]
 simp only[Sem.run_bind,run_underlying hu,Result.andThen_ok]
 cases v<;>rfl
theorem check_bool{P:Program}{em:Bool}{n:Nat}{t:TypeId}{v:Value}{w:World}(hu:P.underlying t=some .bool):(Instr.checkKey em (n+1) t v).run P w= .ok () w:=by
 rw[Instr.checkKey]
 simp only[Sem.run_bind,run_underlying hu,Result.andThen_ok]
 cases v<;>rfl
theorem keyOk_run{P:Program}{kt:TypeId}{x:D}{w:World}{F:Nat→Prop}{u:Value}(h:keyOk P kt x=true)(hx:RepD w F x u)(em:Bool):(Instr.checkKey em 10000 kt u).run P w= .ok () w:=by
 unfold keyOk at h
 rw[show(10000:Nat)=9999+1 from rfl]
 split at h
 ·rename_i k hk
  exact check_int (intT_und hk)
 ·split at h
  ·rename_i ks hks
   split at h
   ·rename_i cs
    obtain⟨fs,hu,hp,hf⟩:=eqT_parts hks
    obtain⟨xs,rfl,ix⟩:=repD_cellsV hx
    rw[Instr.checkKey]
    simp only[Sem.run_bind,run_underlying hu,Result.andThen_ok]
    rw[←Array.forIn_toList]
    obtain⟨i,hi⟩: ∃i:Nat,i=0:=⟨0,rfl⟩
    have ix': ∀(j:Nat) x,cs[j]? =some (.v x)→xs[i+j]? =some x:=by rw[hi];simpa using ix
    rw[←hi]at hf
    clear hi ix hx hks hu
    generalize fs.toList=L at hf
    induction L generalizing i ks cs with
    |nil=>simp
    |cons f L ih=>
     simp only[flatF]at hf
     split at hf
     ·rename_i hc
      obtain⟨hn,ho,ht⟩:=hc
      obtain⟨ks',hk',rfl⟩:=Option.map_eq_some_iff.1 hf
      have ag: ∀g,aggT P f.type=some g→g=false→ ∀z,xs[f.offset]? =some z→(part f.type xs f.offset).run P w= .ok z w:=by
       intro g hg hg0 z hz
       subst hg0
       unfold part
       simp only[Sem.run_bind,run_isAgg' hg,Result.andThen_ok,Bool.false_eq_true,if_false,hz];rfl
      cases hi:(intT P f.type).isSome with
      |true=>
       rw[hi]at h
       obtain⟨k0,hk0⟩:=Option.isSome_iff_exists.1 hi
       have hu:=intT_und hk0
       have hag:aggT P f.type=some false:=by unfold aggT;rw[hu];rfl
       unfold okKs at h
       split at h
       ·rename_i heq;cases heq
       ·rename_i ks2 k a l heq
        cases heq
        have p1:=ag _ hag rfl _ (by rw[ho];exact ix' 0 _ rfl)
        have p2:(Instr.checkKey em 9999 f.type (.int k a)).run P w= .ok () w:=check_int (n:=9998) hu
        simp only[List.forIn_cons,Sem.run_bind,hn,ne_eq,not_false_eq_true,if_true,Result.andThen_ok,p1,p2,Sem.run_pure]
        exact ih _ _ h (i+1) (fun j x hj=>by rw[show i+1+j=i+(j+1)by omega];exact ix' (j+1) x (by simpa using hj)) hk'
       ·rename_i heq;cases heq
       ·cases h
      |false=>
       rw[hi]at h
       have hb:boolT P f.type=true:=by simpa[hi]using ht
       have hu:=boolT_und hb
       have hag:aggT P f.type=some false:=by unfold aggT;rw[hu];rfl
       unfold okKs at h
       split at h
       ·rename_i heq;cases heq
       ·rename_i heq;cases heq
       ·rename_i ks2 a l heq
        cases heq
        have p1:=ag _ hag rfl _ (by rw[ho];exact ix' 0 _ rfl)
        have p2:(Instr.checkKey em 9999 f.type (.bool a)).run P w= .ok () w:=check_bool (n:=9998) hu
        simp only[List.forIn_cons,Sem.run_bind,hn,ne_eq,not_false_eq_true,if_true,Result.andThen_ok,p1,p2,Sem.run_pure]
        exact ih _ _ h (i+1) (fun j x hj=>by rw[show i+1+j=i+(j+1)by omega];exact ix' (j+1) x (by simpa using hj)) hk'
       ·cases h
     ·cases hf
   ·cases h
  ·cases h
def keysEq(P:Program)(kt:TypeId)(x:D)(kk:SV):Option Bool:=match kk.dat with
 |some y=>keyEq P kt x y
 |none=>none
def mapFind{R:Type}(P:Program)(kt:TypeId)(x:D):List SV→Nat→(Nat→SV→Option R)→Option R→Option R
 | [],_,_,z=>z
 | [_],_,_,_=>none
 |kk::v::l,i,k,z=>match keysEq P kt x kk with
  |some b=>cond b (k i v) (mapFind P kt x l (i+1) k z)
  |none=>none
def Hit(P:Program)(kt:TypeId)(x:D):List SV→Nat→SV→Prop
 |kk::v::_,0,u=>keysEq P kt x kk=some true∧u=v
 |kk::_::l,j+1,u=>keysEq P kt x kk=some false∧Hit P kt x l j u
 |_,_,_=>False
def Miss(P:Program)(kt:TypeId)(x:D):List SV→Prop
 | []=>True
 | [_]=>False
 |kk::_::l=>keysEq P kt x kk=some false∧Miss P kt x l
theorem mapFind_cases{R:Type}{P:Program}{kt:TypeId}{x:D}{k:Nat→SV→Option R}{z:Option R}{r:R}: ∀ {l:List SV} {i:Nat},mapFind P kt x l i k z=some r→(∃j v,Hit P kt x l j v∧k (i+j) v=some r)∨(Miss P kt x l∧z=some r)
 | [],i,h=> .inr ⟨trivial,h⟩
 | [_],i,h=>by simp[mapFind]at h
 |kk::v::l,i,h=>by
  simp only[mapFind]at h
  split at h
  ·rename_i b hb
   cases b with
   |true=>exact .inl ⟨0,v,⟨hb,rfl⟩,h⟩
   |false=>
    rcases mapFind_cases (l:=l) h with⟨j,v',h1,h2⟩|⟨h1,h2⟩
    ·exact .inl ⟨j+1,v',⟨hb,h1⟩,by rw[show i+(j+1)=i+1+j by omega];exact h2⟩
    ·exact .inr ⟨⟨hb,h1⟩,h2⟩
  ·cases h
def kvL(l:List MapEntry):List Value:=l.flatMap fun x=> [x.key,x.val]
theorem kvL_cons(e:MapEntry)(l:List MapEntry):kvL (e::l)=e.key::e.val::kvL l:=rfl
theorem keysEq_run{P:Program}{kt:TypeId}{x:D}{kk:SV}{r:Bool}{w:World}{F:Nat→Prop}{m:Nat→Value}{u v:Value}(h:keysEq P kt x kk=some r)(hx:RepD w F x u)(hy:RepV w F m kk.toAV v):
  (Op.equal kt u v).run P w= .ok r w∧ ∀k,P.underlying kt=some (.int k)→Instr.sameNow (.int k) u v=some r:=by
 unfold keysEq at h
 split at h
 ·rename_i y hd
  exact keyEq_run h hx (repV_d.1 (SV.dat_le kk y hd w F m v hy))
 ·cases h
theorem hit_run{P:Program}{kt:TypeId}{x:D}{w:World}{F:Nat→Prop}{m:Nat→Value}{u:Value}(hx:RepD w F x u): ∀ {l:List SV} {j:Nat} {v:SV} {es:List MapEntry} {i:Nat},Hit P kt x l j v→RepVs w F m (SV.toAVs l) (kvL es)→
  ∃e,es[j]? =some e∧RepV w F m v.toAV e.val∧(Instr.findAsking kt u es i).run P w= .ok (some (i+j,e.val)) w∧ ∀k,P.underlying kt=some (.int k)→Instr.findNow (.int k) u es i=some (some (i+j,e.val))
 | [],j,v,es,i,h,_=>by cases j<;>exact h.elim
 | [_],j,v,es,i,h,_=>by cases j<;>exact h.elim
 |kk::v0::l,0,v,[],i,h,hr=>by simp only[SV.toAVs,RepVs,kvL,List.flatMap_nil]at hr;obtain⟨_,_,h1,_⟩:=hr;cases h1
 |kk::v0::l,j+1,v,[],i,h,hr=>by simp only[SV.toAVs,RepVs,kvL,List.flatMap_nil]at hr;obtain⟨_,_,h1,_⟩:=hr;cases h1
 |kk::v0::l,0,v,e::es,i,h,hr=>by
  obtain⟨h1,rfl⟩:=h
  rw[kvL_cons]at hr
  simp only[SV.toAVs,RepVs]at hr
  obtain⟨_,_,e1,r1,_,_,e2,r2,_⟩:=hr
  cases e1;cases e2
  obtain⟨q1,q2⟩:=keysEq_run h1 hx r1
  refine⟨e,rfl,r2,?_,fun k hk=> ?_⟩
  ·simp only[Instr.findAsking,Sem.run_bind,q1,Result.andThen_ok,if_true,Sem.run_pure,Nat.add_zero]
  ·simp only[Instr.findNow,q2 k hk,Nat.add_zero]
 |kk::v0::l,j+1,v,e::es,i,h,hr=>by
  obtain⟨h1,h2⟩:=h
  rw[kvL_cons]at hr
  simp only[SV.toAVs,RepVs]at hr
  obtain⟨_,_,e1,r1,_,_,e2,r2,r3⟩:=hr
  cases e1;cases e2
  obtain⟨q1,q2⟩:=keysEq_run h1 hx r1
  obtain⟨e',h3,h4,h5,h6⟩:=hit_run hx (i:=i+1) h2 r3
  refine⟨e',by simpa using h3,h4,?_,fun k hk=> ?_⟩
  ·simp only[Instr.findAsking,Sem.run_bind,q1,Result.andThen_ok,Bool.false_eq_true,if_false,h5]
   rw[show i+1+j=i+(j+1)by omega]
  ·simp only[Instr.findNow,q2 k hk,h6 k hk]
   rw[show i+1+j=i+(j+1)by omega]
theorem miss_run{P:Program}{kt:TypeId}{x:D}{w:World}{F:Nat→Prop}{m:Nat→Value}{u:Value}(hx:RepD w F x u): ∀ {l:List SV} {es:List MapEntry} {i:Nat},Miss P kt x l→RepVs w F m (SV.toAVs l) (kvL es)→
  (Instr.findAsking kt u es i).run P w= .ok none w∧ ∀k,P.underlying kt=some (.int k)→Instr.findNow (.int k) u es i=some none
 | [],[],i,h,_=>⟨by simp[Instr.findAsking],fun k hk=>rfl⟩
 | [],e::es,i,h,hr=>by rw[kvL_cons]at hr;simp only[SV.toAVs,RepVs]at hr;cases hr
 | [_],es,i,h,_=>h.elim
 |kk::v0::l,[],i,h,hr=>by simp only[SV.toAVs,RepVs,kvL,List.flatMap_nil]at hr;obtain⟨_,_,h1,_⟩:=hr;cases h1
 |kk::v0::l,e::es,i,h,hr=>by
  obtain⟨h1,h2⟩:=h
  rw[kvL_cons]at hr
  simp only[SV.toAVs,RepVs]at hr
  obtain⟨_,_,e1,r1,_,_,e2,r2,r3⟩:=hr
  cases e1;cases e2
  obtain⟨q1,q2⟩:=keysEq_run h1 hx r1
  obtain⟨h5,h6⟩:=miss_run hx (i:=i+1) h2 r3
  refine⟨?_,fun k hk=> ?_⟩
  ·simp only[Instr.findAsking,Sem.run_bind,q1,Result.andThen_ok,Bool.false_eq_true,if_false,h5]
  ·simp only[Instr.findNow,q2 k hk,h6 k hk]
theorem findKey_of{P:Program}{kt:TypeId}{x:D}{w:World}{u:Value}{es:List MapEntry}{a:Option (Nat×Value)}(hok:keyOk P kt x=true)(h1:(Instr.findAsking kt u es 0).run P w= .ok a w)(h2: ∀k,P.underlying kt=some (.int k)→Instr.findNow (.int k) u es 0=some a):
  (Instr.findKey kt u es).run P w= .ok a w:=by
 unfold keyOk at hok
 split at hok
 ·rename_i k hk
  have hu:=intT_und hk
  exact MapKept.run_findKey hu (h2 k hu)
 ·split at hok
  ·rename_i ks hks
   obtain⟨fs,hu,_⟩:=eqT_parts hks
   rw[run_findKey_eq w (by rw[hu]),h1]
  ·cases hok
theorem SRep.newMap{c:Ctx}{m:Nat→Value}{s:St}{a:Act}{w:World}(h:SRep c m s a w)(κ:Nat)(h16:16≤κ):SRep c (upm m κ (.map (some w.heap.size))) (s.setB true κ (.map [])) a (w.alloc (.map #[] 0)):=by
 have hblk: ∀b,blkOf (.map (some w.heap.size))=some b→(∃B0,gt κ s.hp=some B0∧blkOf (m κ)=some b)∨w.heap.size≤b:=fun b hb=> .inr (by simp[blkOf]at hb;omega)
 refine(h.setB true κ (.map []) (.map (some w.heap.size)) (.inl rfl) (.inl (h.nopin h16)) (Fr.alloc _ _ _) hblk ?_).1
 simp only[RepB,upm_same]
 exact⟨w.heap.size,#[],0,rfl,heap_alloc_new w _,by simp only[RepVs,kvsOf];rfl⟩
theorem SRep.putMap{c:Ctx}{m:Nat→Value}{s:St}{a:Act}{w:World}(h:SRep c m s a w){κ b ck:Nat}{l:List AV}{es:Array MapEntry}{kv vv:AV}{ku vu:Value}(hB:gt κ s.hp=some (.map l))(hm:m κ= .map (some b))(hb:w.heap[b]? =some (.map es ck))
  (hr:RepVs w (Forb c m s.hp) m l (kvsOf es))(r1:RepV w (Forb c m s.hp) m kv ku)(r2:RepV w (Forb c m s.hp) m vv vu):
  SRep c m (s.setB false κ (.map (l++ [kv,vv]))) a {w with heap:=w.heap.setIfInBounds b (.map (es.push {key:=ku,val:=vu,born:=ck}) (ck+1))}:=by
 have hblk:blkOf (m κ)=some b:=by rw[hm];rfl
 obtain⟨g1,g2⟩:=MapKept.heap_set (o':= .map (es.push {key:=ku,val:=vu,born:=ck}) (ck+1)) hb
 have hfr:Fr (fun b'=> ∃B0,gt κ s.hp=some B0∧blkOf (m κ)=some b') w {w with heap:=w.heap.setIfInBounds b (.map (es.push {key:=ku,val:=vu,born:=ck}) (ck+1))}:=
  ⟨rfl,rfl,rfl,by simp,fun k _ hk=>g2 k (fun e=>hk ⟨_,hB,by rw[e];exact hblk⟩)⟩
 have hkb: ∀b',blkOf (m κ)=some b'→(∃B0,gt κ s.hp=some B0∧blkOf (m κ)=some b')∨w.heap.size≤b':=fun b' hb'=> .inl ⟨_,hB,hb'⟩
 have hk:=h.setB_kept false κ (.map (l++ [kv,vv])) (m κ) hfr hkb
 have hupm:=upm_self m κ
 have:=(h.setB false κ (.map (l++ [kv,vv])) (m κ) (.inr rfl) (.inr rfl) hfr hkb (by
  rw[hupm]at hk ⊢
  refine⟨b,_,_,hm,g1,?_⟩
  have e:kvsOf (es.push {key:=ku,val:=vu,born:=ck})=kvsOf es++ [ku,vu]:=by simp[kvsOf]
  rw[e]
  exact RepVs_app (RepVs.kept hk hfr.size _ _ hr) (by
   simp only[RepVs]
   exact⟨_,_,rfl,RepV.kept hk hfr.size _ _ r1,_,_,rfl,RepV.kept hk hfr.size _ _ r2,rfl⟩))).1
 rw[hupm]at this
 exact this
theorem stepF_val{P:Program}{s:St}{o:Oper}{v:AV}(h1:s.okDst o.dst=true)(h2:valOp P s o.op=some v):stepF P s o=some (s.put o.dst v):=by
 unfold stepF
 rw[h1,if_pos rfl]
 have none_: ∀ {x:Option St},valOp P s o.op=none→x=some (s.put o.dst v):=fun h=>by rw[h2]at h;cases h
 split
 ·rename_i ho;exact none_ (by rw[ho];rfl)
 ·rename_i ho;exact none_ (by rw[ho];rfl)
 ·rename_i ho;exact none_ (by rw[ho];rfl)
 ·rename_i ho;exact none_ (by rw[ho];rfl)
 ·rename_i ho;exact none_ (by rw[ho];rfl)
 ·rename_i t x l hh m ho
  split
  ·rename_i κ hx
   refine none_ ?_
   rw[ho]
   simp only[valOp,hx]
   split
   ·rename_i vx il ih im h1 h2 h3 h4
    cases h1
    simp only[sliceV]
   ·rfl
  ·rw[←ho,h2];rfl
 ·rename_i c ho
  split
  ·rename_i hb
   refine none_ ?_
   rw[ho]
   obtain⟨cal,args,tys⟩:=c
   cases cal with
   |builtin b=>cases b<;>first|rfl|simp[isBlt]at hb
   |_=>simp[isBlt]at hb
  ·rw[←ho,h2];rfl
 ·rw[h2];rfl
def setAt{α:Type}(t:Nat)(v:α):List (Nat×α)→List (Nat×α)
 | []=> []
 |(k,u)::l=>if t=k then(k,v)::l else(k,u)::setAt t v l
theorem setAt_same{α β:Type}{f:α→β}{t:Nat}{u v:α}(he:f v=f u): ∀ {l:List (Nat×α)},gt t l=some u→mapk f (setAt t v l)=mapk f l
 | [],h=>by simp[gt]at h
 |(k,w)::l,h=>by
  simp only[gt]at h
  simp only[setAt]
  split at h
  ·rename_i e;cases h;rw[if_pos e];simp only[mapk,he]
  ·rename_i e;rw[if_neg e];simp only[mapk,setAt_same he h]
def SSt.know(s:SSt)(t:Nat)(b:Bool):SSt:= {s with tm:=setAt t (.d (.v (.bool b))) s.tm}
theorem know_img{s:SSt}{t:Nat}{b:Bool}(h:gt t s.tm=some (.b b)):(s.know t b).toSt=s.toSt:=by
 simp only[SSt.know,SSt.toSt]
 rw[setAt_same (u:= .b b) (by simp only[SV.toAV]) h]
def SSt.knowO(s:SSt)(x:Operand)(b:Bool):SSt:=match x with| .tmp t=>s.know t b|_=>s
theorem knowO_img{s:SSt}{x:Operand}{b:Bool}(h:s.ev x=some (.b b)):(s.knowO x b).toSt=s.toSt:=by
 cases x with
 |tmp t=>exact know_img h
 |_=>rfl
def putV{R:Type}(s:SSt)(dst:Option Nat)(k:SSt→Option R)(r:Bool×SV):Option R:=cond r.1 (k (s.put dst r.2)) none
def putB{R:Type}(s:SSt)(dst:Option Nat)(k:SSt→Option R)(r:BlkR):Option R:=cond r.ob (k ((s.setB r.kill r.κ r.B).put dst r.v)) none
def opB{R:Type}(P:Program)(s:SSt)(o:Oper)(k:SSt→Option R):Option R:=
 match valS P s o.op with
 |some r=>putV s o.dst k r
 |none=>match blkS P s o with
  |some r=>putB s o.dst k r
  |none=>none
def opPick{R:Type}(P:Program)(s:SSt)(o:Oper)(k:SSt→Option R):Option R:=
 match o.op with
 | .pick c x y=>match s.ev c with
  |some (.b b)=>match s.ev x,s.ev y with
   |some p,some q=>cond b (k ((s.knowO c true).put o.dst p)) (k ((s.knowO c false).put o.dst q))
   |_,_=>none
  |_=>none
 |_=>none
def opF{R:Type}(P:Program)(s:SSt)(o:Oper)(k:SSt→Option R):Option R:=
 match takenK s.toSt o with
 | []=>match o.op with
  | .slice _ x none none none=>match s.ev x with
   |some (.ptr κ 0)=>opB P (s.fix κ) o k
   |_=>none
  |_=>none
 |l=>match s.freezeL l with
  |some s1=>opB P s1 o k
  |none=>none
def opA{R:Type}(P:Program)(s:SSt)(o:Oper)(k:SSt→Option R):Option R:=
 match valS P s o.op with
 |some r=>putV s o.dst k r
 |none=>match blkS P s o with
  |some r=>putB s o.dst k r
  |none=>match o.op with
   | .pick _ _ _=>opPick P s o k
   |_=>opF P s o k
theorem addr_block(q:Addr)(k:Nat):(q.add k).block=q.block:=by
 cases q;simp only[Addr.add];try split
 all_goals rfl
theorem OwnRow.cut{w:World}{e:TypeId}{sz:Nat}{ad:Option Addr}{l cap:Nat}{vals:List Value}(h:OwnRow w e sz (.slice ad l cap) l vals){l0 h' m':Nat}(hl0:l0≤h')(h1:h'≤l)(h2:h'≤m')(h3:m'≤cap):
  OwnRow w e sz (.slice (if m'=l0 then ad else ad.map (·.add (l0*sz))) (h' - l0) (m' - l0)) (h' - l0) ((vals.take (h'*sz)).drop (l0*sz)):=by
 refine⟨by rw[List.length_drop,List.length_take,h.1,Nat.min_eq_left (Nat.mul_le_mul_right _ h1),←Nat.sub_mul],?_⟩
 by_cases hm:m'=l0
 ·have e1:h' - l0=0:=by omega
  have e2:m' - l0=0:=by omega
  rw[if_pos hm,e1,e2]
  exact .inl ⟨rfl,_,rfl⟩
 ·rw[if_neg hm]
  rcases h.2 with⟨h0,a,hv⟩|⟨g,o,cap',cur,hv,h0,hg,hn,hmx,hs,ht⟩
  ·simp at hv
   obtain⟨_,_,rfl⟩:=hv
   omega
  ·simp at hv
   obtain⟨rfl,rfl⟩:=hv
   refine .inr ⟨g,o+l0*sz,m' - l0,cur,by simp[addr_add],by omega,hg,by omega,by omega,?_,?_⟩
   ·have e3:=Nat.mul_le_mul_right sz h3
    have e4:l0*sz+(m' - l0)*sz=m'*sz:=by rw[←Nat.add_mul];congr 1;omega
    omega
   ·rw[←ht,List.take_take,Nat.min_eq_left (Nat.mul_le_mul_right _ h1),List.drop_take,List.drop_drop,Nat.sub_mul]
def clipB(n:Nat)(B:Blk)(lo hi mx:Option Int):Option Blk:=match B with
 | .ints e k xs c=>if n=1 then omap (cutB xs.length lo hi mx) fun b=> .ints e k ((xs.take b.h).drop b.l) (capC c b)else none
 | .row e n' xs c=>if n=n' then omap (cutB xs.length lo hi mx) fun b=> .row e n' ((xs.take b.h).drop b.l) (capC c b)else none
 |_=>none
theorem SRep.clip{P:Program}{c:Ctx}{m:Nat→Value}{s:St}{a:Act}{w:World}(h:SRep c m s a w){t e n κ:Nat}{g:Bool}{B B':Blk}{lo hi mx:Option Int}{vl vh vm:Option Value}(he:elemT P t=some (e,n,g))(hB:gt κ s.hp=some B)(hcl:clipB n B lo hi mx=some B')
  (hlo:opI lo vl)(hh:opI hi vh)(hm:opI mx vm): ∃v',(Instr.sliceAt t (m κ) vl vh vm).run P w= .ok v' w∧SRep c (upm m κ v') (s.setB true κ B') a w∧v'.oneCell'=true:=by
 have hself:=h.heap κ B hB
 have hpin:c.pin κ=none:=by
  cases hp:c.pin κ with
  |none=>rfl
  |some v=>
   exfalso
   obtain⟨_,b,rfl⟩:=h.pinp κ v hp
   have e0:=h.pin κ _ hp
   cases B with
   |box e' cs=>simp[clipB]at hcl
   |map kvs=>simp[clipB]at hcl
   |vrow e' xs=>simp[clipB]at hcl
   |ints e' k xs cc=>
    obtain⟨ad,cap,h1,_⟩:=hself.1.cells
    rw[h1]at e0;cases e0
   |row e' n' xs cc=>
    obtain⟨vals,hown,_⟩:=hself
    obtain⟨ad,cap,h1,_⟩:=hown.cells
    rw[h1]at e0;cases e0
 have key: ∀(e':TypeId) (l:Nat) (vals:List Value) (b:Cut3) (cc:Option Nat),OwnRow w e' n (m κ) l vals→CapIs cc (m κ)→cutB l lo hi mx=some b→ ∃v',(Instr.sliceAt t (m κ) vl vh vm).run P w= .ok v' w∧OwnRow w e' n v' (b.h - b.l) ((vals.take (b.h*n)).drop (b.l*n))∧CapIs (capC cc b) v'∧(∀q,blkOf v'=some q→blkOf (m κ)=some q)∧v'.oneCell'=true∧b.h≤l:=by
  intro e' l vals b cc hown hcap hb
  obtain⟨ad,cap,hv,hle,_,hnone,_⟩:=hown.cells
  obtain⟨_,b1,b2,b3⟩:=run_sliceBounds (P:=P) (w:=w) (b:=true) hlo hh hm hb hle
  have hr:=run_slice_slice (P:=P) (w:=w) (a:=ad) he hlo hh hm hb hle
  have hmcap:b.h≤b.m.getD cap:=by
   cases hbm:b.m with
   |none=>simp;omega
   |some mm=>have:=b3 mm hbm;simp;omega
  have hmle:b.m.getD cap≤cap:=by
   cases hbm:b.m with
   |none=>simp
   |some mm=>have:=b3 mm hbm;simp;omega
  rw[hv]at hown ⊢
  refine⟨_,hr,hown.cut b1 b2 hmcap hmle,?_,?_,rfl,b2⟩
  ·intro q hq
   unfold capC at hq
   split at hq
   ·rename_i mm hmm
    simp only[Option.some.injEq]at hq
    exact⟨_,_,by rw[hmm,Option.getD_some,hq]⟩
   ·rename_i hmm
    obtain⟨q',h1,h2⟩:=Option.map_eq_some_iff.1 hq
    obtain⟨a',l',h3⟩:=hcap q' h1
    rw[hv]at h3
    simp at h3
    exact⟨_,_,by rw[hmm,Option.getD_none,h3.2.2,h2]⟩
  ·intro q hq
   by_cases hz:b.m.getD cap=b.l
   ·rw[if_pos hz]at hq
    have e0:b.m.getD cap - b.l=0:=by omega
    rw[e0]at hq
    cases ad<;>simp[blkOf]at hq
   ·rw[if_neg hz]at hq
    cases ad with
    |none=>simp[blkOf]at hq
    |some ad=>
     simp only[Option.map_some,blkOf]at hq ⊢
     split at hq
     ·cases hq
     ·rw[if_neg (by omega),←hq,addr_block]
 cases B with
 |box e' cs=>simp[clipB]at hcl
 |map kvs=>simp[clipB]at hcl
 |vrow e' xs=>simp[clipB]at hcl
 |ints e' k xs cc=>
  simp only[clipB]at hcl
  split at hcl
  ·rename_i hn
   subst hn
   obtain⟨b,hb,rfl⟩:=Option.map_eq_some_iff.1 hcl
   obtain⟨v',r1,r2,r3,r4,r5,r6⟩:=key e' xs.length _ b cc hself.1 hself.2 hb
   refine⟨v',r1,?_,r5⟩
   refine(h.setB true κ _ v' (.inl rfl) (.inl hpin) (Fr.refl _ _) (fun q hq=> .inl ⟨_,hB,r4 q hq⟩) ?_).1
   simp only[RepB,upm_same]
   refine⟨?_,r3⟩
   rw[List.length_drop,List.length_take,Nat.min_eq_left r6,List.map_drop,List.map_take]
   simpa only[Nat.mul_one]using r2
  ·cases hcl
 |row e' n' xs cc=>
  simp only[clipB]at hcl
  split at hcl
  ·rename_i hn
   subst hn
   obtain⟨b,hb,rfl⟩:=Option.map_eq_some_iff.1 hcl
   obtain⟨vals,hown,hcap,hrow⟩:=hself
   obtain⟨v',r1,r2,r3,r4,r5,r6⟩:=key e' xs.length _ b cc hown hcap hb
   refine⟨v',r1,?_,r5⟩
   have hblk: ∀q,blkOf v'=some q→(∃B0,gt κ s.hp=some B0∧blkOf (m κ)=some q)∨w.heap.size≤q:=fun q hq=> .inl ⟨_,hB,r4 q hq⟩
   have hk:=h.setB_kept true κ (.row e' n ((xs.take b.h).drop b.l) (capC cc b)) v' (Fr.refl _ _) hblk
   refine(h.setB true κ _ v' (.inl rfl) (.inl hpin) (Fr.refl _ _) hblk ?_).1
   simp only[RepB,upm_same]
   refine⟨_,?_,r3,RepRow.kept hk _ _ (RepRow_slice b.l b.h hrow)⟩
   rw[List.length_drop,List.length_take,Nat.min_eq_left r6]
   exact r2
  ·cases hcl
theorem awpl_did{P:Program}{ops:Array Oper}{o:Oper}{l:List Oper}{Q:St→Prop}{s s':St}(hg:o.guard=none)(hs: ∀(cx:Ctx) (m:Nat→Value) (a:Act) (w:World),SRep cx m s a w→ ∃m' u w',Did P o a w u w'∧SRep cx m' s' (a.put o.dst u) w')(h:AWpL P ops l Q s'):AWpL P ops (o::l) Q s:=by
 intro cx m a w K hr hk
 obtain⟨m',u,w',hd,hr'⟩:=hs cx m a w hr
 unfold wpList
 rw[if_pos (wanted_none hg _)]
 refine .inl ?_
 unfold Oper.wp
 rcases hd with hd|⟨rfl,hd⟩
 ·rw[hd];exact h cx m' _ _ K hr' hk
 ·rw[hd];exact h cx m' _ _ K hr' hk
def clipS(n:Nat)(B:SB)(lo hi mx:Option Int):Option (Bool×SB):=match B with
 | .ints e k xs c=>if n=1 then match cutOb xs.length lo hi mx with
   |some ob=>some (ob,.ints e k (cutL xs lo hi) (cutC c lo mx))
   |none=>none
  else none
 | .row e sh xs c=>if n=sh.size then match cutOb xs.length lo hi mx with
   |some ob=>some (ob,.row e sh (cutL xs lo hi) (cutC c lo mx))
   |none=>none
  else none
 |_=>none
theorem clipS_img{n:Nat}{B B':SB}{lo hi mx:Option Int}(h:clipS n B lo hi mx=some (true,B')):clipB n B.toB lo hi mx=some B'.toB:=by
 unfold clipS at h
 split at h
 ·rename_i e k xs c
  split at h
  ·rename_i hn
   split at h
   ·rename_i ob hc
    simp only[Option.some.injEq,Prod.mk.injEq]at h
    obtain⟨rfl,rfl⟩:=h
    obtain⟨b,h1,h2,h3⟩:=cut_img (c:=c) hc
    simp only[SB.toB,clipB,if_pos hn,h1,omap_some,h2,h3]
   ·cases h
  ·cases h
 ·rename_i e sh xs c
  split at h
  ·rename_i hn
   split at h
   ·rename_i ob hc
    simp only[Option.some.injEq,Prod.mk.injEq]at h
    obtain⟨rfl,rfl⟩:=h
    have hc':cutOb (xs.map sh.toD).length lo hi mx=some true:=by rw[List.length_map];exact hc
    obtain⟨b,h1,h2,h3⟩:=cut_img (xs:=xs.map sh.toD) (c:=c) hc'
    simp only[SB.toB,clipB,if_pos hn,h1,omap_some,h2,h3,cutL_map]
   ·cases h
  ·cases h
 ·cases h
def clipF(fl:FuncId→Bool)(o:Oper):Bool:=match o.op with
 | .slice _ _ _ _ _=>match o.dst with
  |some t=>fl (9000000+t)
  |none=>false
 |_=>false
def clipK{R:Type}(P:Program)(s:SSt)(o:Oper)(k:SSt→Option R):Option R:=match o.op with
 | .slice t x lx hx mx=>match s.ev x with
  |some (.own κ)=>match s.evI lx,s.evI hx,s.evI mx with
   |some il,some ih,some im=>match gt κ s.hp,elemT P t with
    |some B,some (_,n,_)=>match clipS n B il ih im with
     |some (ob,B')=>cond ob (k ((s.setB true κ B').put o.dst (.own κ))) none
     |none=>none
    |_,_=>none
   |_,_,_=>none
  |_=>opA P s o k
 |_=>none
def appE(P:Program)(fl:FuncId→Bool)(s:SSt)(o:Oper):Option (Nat×SV):=match o.op with
 | .call c=>match c.callee,c.args.toList,c.argTypes.toList,o.dst with
  | .builtin .append,[x,y],[t,t'],some d=>if fl (12000000+d)=true∧t=t' then match s.ev x,s.ev y with
    |some (.ints k xs (some cp)),some vy=>match s.intsS k vy,appT P t with
     |some ys,some (_,1,_)=>some (ys.length,.ints k xs (some cp))
     |_,_=>none
    |_,_=>none
   else none
  |_,_,_,_=>none
 |_=>none
def opE{R:Type}(P:Program)(fl:FuncId→Bool)(s:SSt)(o:Oper)(k:SSt→Option R):Option R:=
 match appE P fl s o with
 |some (n,v)=>cond (decide (n=0)) (k (s.put o.dst v)) (opA P s o k)
 |none=>opA P s o k
def okRes(c:Bool)(v:SV)(b:Bool):SV:=if c then .tup [v,.d (.v (.bool b))]else v
def zero1(P:Program)(t:TypeId):Option Value:=match(P.info? t).bind (·.zero)with
 |some z=>if z.oneCell'=true then some z else none
 |none=>none
theorem zero1_run{P:Program}{t:TypeId}{z:Value}(h:zero1 P t=some z)(w:World):(zeroValue t).run P w= .ok z w∧z.oneCell'=true:=by
 unfold zero1 at h
 split at h
 ·rename_i z' hz
  obtain⟨i,hi,hz⟩:=Option.bind_eq_some_iff.1 hz
  split at h
  ·rename_i h1
   cases h
   exact⟨by simp[zeroValue,typeInfo,hi,hz],h1⟩
  ·cases h
 ·cases h
def lookK{R:Type}(P:Program)(s:SSt)(dst:Option Nat)(t:TypeId)(mo xo:Operand)(c:Bool)(k:SSt→Option R):Option R:=
 match mapT P t with
 |some (kt,et)=>match s.ev mo,s.ev xo,zero1 P et with
  |some mv,some xv,some z=>match xv.dat with
   |some x=>if keyOk P kt x=true then match mv with
     | .own κ=>match gt κ s.hp with
      |some (.map l)=>mapFind P kt x l 0 (fun _ v=>k (s.put dst (okRes c v true))) (k (s.put dst (okRes c (.d (.v z)) false)))
      |_=>none
     | .d (.v (.map none))=>k (s.put dst (okRes c (.d (.v z)) false))
     |_=>none
    else none
   |none=>none
  |_,_,_=>none
 |none=>none
def updK{R:Type}(P:Program)(s:SSt)(dst:Option Nat)(t:TypeId)(mo ko vo:Operand)(k:SSt→Option R):Option R:=
 match mapT P t with
 |some (kt,_)=>match s.ev mo,s.ev ko,s.ev vo with
  |some (.own κ),some kv,some vv=>match kv.dat with
   |some x=>if keyOk P kt x=true then match gt κ s.hp with
     |some (.map l)=>mapFind P kt x l 0 (fun _ _=>none) (k ((s.setB false κ (.map (l++ [kv,vv]))).put dst .bot))
     |_=>none
    else none
   |none=>none
  |_,_,_=>none
 |none=>none
def mkmK{R:Type}(P:Program)(s:SSt)(dst:Option Nat)(t:TypeId)(r:Option Operand)(k:SSt→Option R):Option R:=
 match dst,mapT P t,s.evI r with
 |some d,some _,some _=>k ((s.setB true (kL d) (.map [])).put dst (.own (kL d)))
 |_,_,_=>none
def lenmK{R:Type}(P:Program)(s:SSt)(o:Oper)(k:SSt→Option R):Option R:=match o.op with
 | .call c=>match c.callee,c.args.toList,c.argTypes.toList with
  | .builtin .len,[x],[t]=>match mapT P t with
   |some _=>match s.ev x with
    |some (.own κ)=>match gt κ s.hp with
     |some (.map l)=>k (s.put o.dst (.d (.v (.int .i64 ((l.length / 2:Nat):Int)))))
     |_=>none
    |some (.d (.v (.map none)))=>k (s.put o.dst (.d (.v (.int .i64 0))))
    |_=>none
   |none=>none
  |_,_,_=>none
 |_=>none
def isMapO(P:Program)(op:Op):Bool:=match op with
 | .lookup _ _ _ _=>true
 | .mapUpdate _ _ _ _=>true
 | .insert _ _ _ _=>true
 | .makeMap _ _=>true
 | .call c=>match c.callee,c.argTypes.toList with
  | .builtin .len,[t]=>(mapT P t).isSome
  |_,_=>false
 |_=>false
def mapK{R:Type}(P:Program)(s:SSt)(o:Oper)(k:SSt→Option R):Option R:=match o.op with
 | .lookup t mo xo c=>lookK P s o.dst t mo xo c k
 | .mapUpdate t mo ko vo=>updK P s o.dst t mo ko vo k
 | .insert t mo ko vo=>updK P s o.dst t mo ko vo k
 | .makeMap t r=>mkmK P s o.dst t r k
 |_=>lenmK P s o k
def litOwns(s:SSt)(o:Oper):List Nat:=match o.op with
 | .buildSlice _ _ ps=>match s.evP ps.toList with
  |some l=>l.flatMap fun p=>match p.2 with| .own κ=> [κ]|_=> []
  |none=> []
 |_=> []
def opL{R:Type}(P:Program)(fl:FuncId→Bool)(s:SSt)(o:Oper)(k:SSt→Option R):Option R:=match litOwns s o with
 | []=>opE P fl s o k
 |ks=>match s.freezeL ks with
  |some s1=>if s1.okDst o.dst=true then opE P fl s1 o k else none
  |none=>opE P fl s o k
def opM{R:Type}(P:Program)(fl:FuncId→Bool)(s:SSt)(o:Oper)(k:SSt→Option R):Option R:=if isMapO P o.op then mapK P s o k else opL P fl s o k
def opK{R:Type}(P:Program)(ck:CallK)(fl:FuncId→Bool)(s:SSt)(o:Oper)(k:SSt→Option R):Option R:=
 if s.okDst o.dst=true then
  if isCallO o.op then match o.op with
   | .call c=>callX0 P ck fl s o.dst c k
   |_=>none
  else cond (clipF fl o) (clipK P s o k) (opM P fl s o k)
 else none
theorem putV_ok{R:Type}{P:Program}{s:SSt}{o:Oper}{k:SSt→Option R}{x:Bool×SV}{r:R}(hg:o.guard=none)(hd:s.okDst o.dst=true)(hv:valS P s o.op=some x)(h:putV s o.dst k x=some r): ∃s',OpOk P s o s'∧k s'=some r:=by
 obtain⟨ob,v⟩:=x
 unfold putV at h
 cases ob with
 |false=>cases h
 |true=>
  obtain⟨u,h1,h2⟩:=valS_sound hv rfl
  refine⟨_,fun ops l Q next=> ?_,h⟩
  rw[put_img]at next
  exact awpl_step (by unfold stepG;rw[hg];exact stepF_val (by rw[okDst_img];exact hd) h1) (awpl_le (le_put h2) next)
theorem putB_ok{R:Type}{P:Program}{s:SSt}{o:Oper}{k:SSt→Option R}{x:BlkR}{r:R}(hg:o.guard=none)(hd:s.okDst o.dst=true)(hv:blkS P s o=some x)(h:putB s o.dst k x=some r): ∃s',OpOk P s o s'∧k s'=some r:=by
 unfold putB at h
 cases hob:x.ob with
 |false=>rw[hob]at h;cases h
 |true=>
  rw[hob]at h
  obtain⟨B0,h1,h2⟩:=blkS_img hv hob
  obtain⟨s2,h3,h4⟩:=blkE_step h1 (by rw[okDst_img];exact hd)
  refine⟨_,fun ops l Q next=> ?_,h⟩
  rw[put_img,setB_img]at next
  refine awpl_step (by unfold stepG;rw[hg];exact h3) (awpl_le (.trans ?_ (LeSt.sub h4)) next)
  have hB0:gt x.κ ((s.toSt.setB x.kill x.κ B0).put o.dst x.v.toAV).hp=some B0:=by
   rw[put_hp]
   cases x.kill<;>simp only[St.setB,Bool.false_eq_true,if_false,if_true,gt_ins_same]
  refine LeSt.trans (LeSt.sub ?_) (le_blk hB0 h2)
  have e1:((s.toSt.setB x.kill x.κ x.B.toB).put o.dst x.v.toAV).tm=((s.toSt.setB x.kill x.κ B0).put o.dst x.v.toAV).tm:=by
   cases o.dst<;>cases x.kill<;>rfl
  refine⟨?_,?_,?_⟩
  ·cases o.dst<;>cases x.kill<;>rfl
  ·intro t v hv;exact .inr (by rw[←e1];exact hv)
  ·intro κ B hB
   rw[put_hp]at hB
   show gt κ (ins x.κ x.B.toB (((s.toSt.setB x.kill x.κ B0).put o.dst x.v.toAV).hp))=some B
   rw[put_hp,gt_ins]
   cases hk:x.kill
   ·rw[hk]at hB
    simp only[St.setB,Bool.false_eq_true,if_false,gt_ins]at hB ⊢
    split at hB
    ·rename_i e;rw[if_pos e];exact hB
    ·rename_i e;rw[if_neg e,if_neg e];exact hB
   ·rw[hk]at hB
    simp only[St.setB,if_true,gt_ins]at hB ⊢
    split at hB
    ·rename_i e;rw[if_pos e];exact hB
    ·rename_i e;rw[if_neg e,if_neg e];exact hB
theorem opB_ok{R:Type}{P:Program}{s:SSt}{o:Oper}{k:SSt→Option R}{r:R}(hg:o.guard=none)(hd:s.okDst o.dst=true)(h:opB P s o k=some r): ∃s',OpOk P s o s'∧k s'=some r:=by
 unfold opB at h
 split at h
 ·rename_i hv;exact putV_ok hg hd hv h
 ·split at h
  ·rename_i hv;exact putB_ok hg hd hv h
  ·cases h
theorem freezeL_n: ∀ {l:List Nat} {s s':SSt},s.freezeL l=some s'→s'.n=s.n
 | [],s,s',h=>by simp only[SSt.freezeL]at h;cases h;rfl
 |κ::l,s,s',h=>by
  simp only[SSt.freezeL]at h
  split at h
  ·rename_i s1 h1
   rw[freezeL_n h]
   unfold SSt.freeze at h1
   split at h1
   ·split at h1
    ·cases h1;rfl
    ·cases h1
   ·cases h1
  ·cases h
theorem okDst_n{s s':SSt}{d:Option Nat}(h:s'.n=s.n):s'.okDst d=s.okDst d:=by cases d<;>simp only[SSt.okDst,h]
theorem opPick_val{P:Program}{s:SSt}{c x y:Operand}{b:Bool}{p q:SV}(hc:s.ev c=some (.b b))(hx:s.ev x=some p)(hy:s.ev y=some q): ∃u,valOp P s.toSt (.pick c x y)=some u∧u=(if b then p else q).toAV:=by
 simp only[valOp,SSt.ev_img hc,SSt.ev_img hx,SSt.ev_img hy,SV.toAV]
 split
 ·rename_i p' q' h1 h2
  simp only[Option.some.injEq]at h1 h2
  cases b<;>simp[h1,h2]
 ·cases b<;>simp
theorem opPick_ok{R:Type}{P:Program}{s:SSt}{o:Oper}{k:SSt→Option R}{r:R}(hg:o.guard=none)(hd:s.okDst o.dst=true)(h:opPick P s o k=some r): ∃s',OpOk P s o s'∧k s'=some r:=by
 unfold opPick at h
 split at h
 ·rename_i c x y ho
  split at h
  ·rename_i b hc
   split at h
   ·rename_i p q hx hy
    obtain⟨u,h1,h2⟩:=opPick_val (P:=P) hc hx hy
    have run: ∀(v:SV) (s1:SSt),s1.toSt=s.toSt→u=v.toAV→OpOk P s o (s1.put o.dst v):=by
     intro v s1 hs he ops l Q next
     rw[put_img,hs]at next
     exact awpl_step (by unfold stepG;rw[hg];exact stepF_val (by rw[okDst_img];exact hd) (by rw[ho];exact h1)) (by rw[he];exact next)
    cases b with
    |true=>exact⟨_,run p _ (knowO_img hc) (by simpa using h2),h⟩
    |false=>exact⟨_,run q _ (knowO_img hc) (by simpa using h2),h⟩
   ·cases h
  ·cases h
 ·cases h
theorem opF_ok{R:Type}{P:Program}{s:SSt}{o:Oper}{k:SSt→Option R}{r:R}(hg:o.guard=none)(hd:s.okDst o.dst=true)(h:opF P s o k=some r): ∃s',OpOk P s o s'∧k s'=some r:=by
 unfold opF at h
 split at h
 ·split at h
  ·split at h
   ·rename_i κ _
    obtain⟨s',h2,h3⟩:=opB_ok hg (by rw[okDst_n (fix_n s κ)];exact hd) h
    exact⟨s',fun ops l Q next=>awpl_le (fix_le s κ) (h2 ops l Q next),h3⟩
   ·cases h
  ·cases h
 ·split at h
  ·rename_i s1 h1
   obtain⟨s',h2,h3⟩:=opB_ok hg (by rw[okDst_n (freezeL_n h1)];exact hd) h
   exact⟨s',fun ops l Q next=>awpl_le (freezeL_le h1) (h2 ops l Q next),h3⟩
  ·cases h
theorem opA_ok{R:Type}{P:Program}{s:SSt}{o:Oper}{k:SSt→Option R}{r:R}(hg:o.guard=none)(hd:s.okDst o.dst=true)(h:opA P s o k=some r): ∃s',OpOk P s o s'∧k s'=some r:=by
 unfold opA at h
 split at h
 ·rename_i hv;exact putV_ok hg hd hv h
 ·split at h
  ·rename_i hv;exact putB_ok hg hd hv h
  ·split at h
   ·exact opPick_ok hg hd h
   ·exact opF_ok hg hd h
theorem clipK_ok{R:Type}{P:Program}{s:SSt}{o:Oper}{k:SSt→Option R}{r:R}(hg:o.guard=none)(hd:s.okDst o.dst=true)(h:clipK P s o k=some r): ∃s',OpOk P s o s'∧k s'=some r:=by
 unfold clipK at h
 split at h
 ·rename_i t x lx hx mx ho
  split at h
  ·rename_i κ hxx
   split at h
   ·rename_i il ih im h0 h1 h2
    split at h
    ·rename_i B e n g hB he
     split at h
     ·rename_i ob B' hcl
      cases ob with
      |false=>cases h
      |true=>
       refine⟨_,fun ops l Q next=>awpl_did hg (fun cx m a w hr=> ?_) next,h⟩
       have rx:=hr.ev (SSt.ev_img hxx)
       simp only[SV.toAV,RepV]at rx
       obtain⟨v',r1,r2,r3⟩:=hr.clip he (gt_hp hB) (clipS_img hcl) (evI_opI hr (evI_img h0)) (evI_opI hr (evI_img h1)) (evI_opI hr (evI_img h2))
       refine⟨upm m κ v',v',w,.inl ?_,?_⟩
       ·simp only[execOp,ho,rx.1,Sem.run_bind]at r1 ⊢
        rw[r1];rfl
       ·rw[put_img,setB_img]
        refine r2.put ?_ (by simp only[SV.toAV,RepV,upm_same];exact⟨trivial,r3⟩)
        have e0:=hd
        rw[←okDst_img]at e0
        cases hdd:o.dst with
        |none=>rfl
        |some d=>rw[hdd]at e0;simpa only[St.okDst,St.setB,if_true]using e0
     ·cases h
    ·cases h
   ·cases h
  ·exact opA_ok hg hd h
 ·cases h
theorem run_append_none{P:Program}{w:World}{t ty e n by':Nat}(hT:appT P t=some (e,n,by')){a0 b0:Option Addr}{l cap c2:Nat}(hl:l≤cap):
  (Builtin.append_ #[t,t] ty #[.slice a0 l cap,.slice b0 0 c2]).run P w= .ok (.slice a0 l cap) w:=by
 obtain⟨i,z,hu,hi,hz,hzs,hs,hby,hn⟩:=appT_parts hT
 cases a0<;>cases b0<;>simp[Builtin.append_,run_underlying hu,sizeOf,typeInfo,hi,Builtin.lenOf,Builtin.firstCells,hl,loadCells,loadCellsFrom,storeCells]
theorem appE_ok{P:Program}{fl:FuncId→Bool}{s:SSt}{o:Oper}{v:SV}(hg:o.guard=none)(hd:s.okDst o.dst=true)(h:appE P fl s o=some (0,v)):OpOk P s o (s.put o.dst v):=by
 unfold appE at h
 split at h
 ·rename_i c ho
  split at h
  ·rename_i x y t t' d hc ha ht hdd
   split at h
   ·rename_i htt
    split at h
    ·rename_i k xs cp vy hx hy
     split at h
     ·rename_i ys e by' hys hT
      simp only[Option.some.injEq,Prod.mk.injEq]at h
      obtain⟨hl0,rfl⟩:=h
      refine fun ops l Q next=>awpl_did hg (fun cx m a w hr=> ?_) next
      have rx:=hr.ev (SSt.ev_img hx)
      have rx0:=rx
      simp only[SV.toAV,RepV,RepD]at rx0
      obtain⟨a0,cap,e1,hle,_⟩:=rx0
      obtain⟨ad,c2,e2,_⟩:=intsA_rep hr (hr.ev (SSt.ev_img hy)) (intsS_img hys)
      have hl1:ys.length=0:=hl0
      rw[hl1]at e2
      refine⟨m,a.eval x,w,.inl ?_,?_⟩
      ·have ea:c.args= #[x,y]:=by cases hca:c.args;rw[hca]at ha;simpa using ha
       have et:c.argTypes= #[t,t']:=by cases hca:c.argTypes;rw[hca]at ht;simpa using ht
       obtain⟨_,rfl⟩:=htt
       simp only[execOp,ho,resolve,hc,ea,et,invoke,builtin,Sem.run_bind,Sem.run_pure,Result.andThen_ok,List.map_toArray,List.map_cons,List.map_nil,e1,e2,run_append_none hT hle]
      ·rw[put_img]
       exact hr.put (by rw[okDst_img];exact hd) rx
     ·cases h
    ·cases h
   ·cases h
  ·cases h
 ·cases h
theorem opE_ok{R:Type}{P:Program}{fl:FuncId→Bool}{s:SSt}{o:Oper}{k:SSt→Option R}{r:R}(hg:o.guard=none)(hd:s.okDst o.dst=true)(h:opE P fl s o k=some r): ∃s',OpOk P s o s'∧k s'=some r:=by
 unfold opE at h
 split at h
 ·rename_i n v he
  cases hn:decide (n=0)with
  |true=>
   rw[hn]at h
   have hn0:n=0:=of_decide_eq_true hn
   subst hn0
   exact⟨_,appE_ok hg hd he,h⟩
  |false=>rw[hn]at h;exact opA_ok hg hd h
 ·exact opA_ok hg hd h
theorem okRes_rep{w:World}{F:Nat→Prop}{m:Nat→Value}{c b:Bool}{v:SV}{u:Value}(h:RepV w F m v.toAV u):RepV w F m (okRes c v b).toAV (if c then .tuple #[u,.bool b]else u):=by
 cases c with
 |false=>exact h
 |true=>
  simp only[okRes,if_true,SV.toAV,SV.toAVs,RepV,RepVs]
  exact⟨[u,.bool b],rfl,_,_,rfl,h,_,_,rfl,by simp only[RepV,RepD];first|exact⟨rfl,rfl⟩|exact⟨trivial,rfl⟩,rfl⟩
theorem lookK_ok{R:Type}{P:Program}{s:SSt}{o:Oper}{k:SSt→Option R}{r:R}{t:TypeId}{mo xo:Operand}{c:Bool}(hg:o.guard=none)(hd:s.okDst o.dst=true)(ho:o.op= .lookup t mo xo c)(h:lookK P s o.dst t mo xo c k=some r): ∃s',OpOk P s o s'∧k s'=some r:=by
 unfold lookK at h
 split at h
 ·rename_i kt et hT
  have hu:=mapT_und hT
  split at h
  ·rename_i mv xv z hmv hxv hz
   split at h
   ·rename_i x hx
    split at h
    ·rename_i hok
     have zero:=zero1_run hz
     have rx: ∀ {cx:Ctx} {m:Nat→Value} {a:Act} {w:World},SRep cx m s.toSt a w→RepD w (Forb cx m s.toSt.hp) x (a.eval xo):=fun hr=>repV_d.1 (SV.dat_le xv x hx _ _ _ _ (hr.ev (SSt.ev_img hxv)))
     split at h
     ·rename_i κ
      split at h
      ·rename_i l hB
       rcases mapFind_cases h with⟨j,v,h1,h2⟩|⟨h1,h2⟩
       ·refine⟨_,fun ops l' Q next=>awpl_did hg (fun cx m a w hr=> ?_) next,h2⟩
        obtain⟨b,es,ck,q1,q2,q3⟩:=hr.heap κ _ (gt_hp hB)
        have rm:=hr.ev (SSt.ev_img hmv)
        simp only[SV.toAV,RepV]at rm
        rw[q1]at rm
        obtain⟨e,p1,p2,p3,p4⟩:=hit_run (rx hr) h1 (es:=es.toList) q3
        have pf:=findKey_of hok p3 p4
        refine⟨m,if c then .tuple #[e.val,.bool true]else e.val,w,.inl ?_,?_⟩
        ·simp only[execOp,ho,Instr.lookup,rm.1,Sem.run_bind,run_underlying hu,MapKept.run_getObj_map q2,keyOk_run hok (rx hr),pf,Sem.run_pure,Result.andThen_ok]
        ·rw[put_img]
         exact hr.put (by rw[okDst_img];exact hd) (okRes_rep p2)
       ·refine⟨_,fun ops l' Q next=>awpl_did hg (fun cx m a w hr=> ?_) next,h2⟩
        obtain⟨b,es,ck,q1,q2,q3⟩:=hr.heap κ _ (gt_hp hB)
        have rm:=hr.ev (SSt.ev_img hmv)
        simp only[SV.toAV,RepV]at rm
        rw[q1]at rm
        obtain⟨p3,p4⟩:=miss_run (i:=0) (rx hr) h1 (es:=es.toList) q3
        have pf:=findKey_of hok p3 p4
        refine⟨m,if c then .tuple #[z,.bool false]else z,w,.inl ?_,?_⟩
        ·simp only[execOp,ho,Instr.lookup,rm.1,Sem.run_bind,run_underlying hu,MapKept.run_getObj_map q2,keyOk_run hok (rx hr),pf,(zero w).1,Sem.run_pure,Result.andThen_ok]
        ·rw[put_img]
         exact hr.put (by rw[okDst_img];exact hd) (okRes_rep (by simp only[SV.toAV,RepV,RepD];exact⟨trivial,(zero w).2⟩))
      ·cases h
     ·refine⟨_,fun ops l' Q next=>awpl_did hg (fun cx m a w hr=> ?_) next,h⟩
      have rm:=hr.ev (SSt.ev_img hmv)
      simp only[SV.toAV,RepV,RepD]at rm
      obtain⟨p3,p4⟩:=miss_run (P:=P) (kt:=kt) (l:= []) (es:= []) (i:=0) (m:=m) (rx hr) trivial (by simp only[SV.toAVs,RepVs,kvL];rfl)
      have pf:=findKey_of hok p3 p4
      refine⟨m,if c then .tuple #[z,.bool false]else z,w,.inl ?_,?_⟩
      ·simp only[execOp,ho,Instr.lookup,rm.1,Sem.run_bind,run_underlying hu,keyOk_run hok (rx hr),pf,(zero w).1,Sem.run_pure,Result.andThen_ok]
      ·rw[put_img]
       exact hr.put (by rw[okDst_img];exact hd) (okRes_rep (by simp only[SV.toAV,RepV,RepD];exact⟨trivial,(zero w).2⟩))
     ·cases h
    ·cases h
   ·cases h
  ·cases h
 ·cases h
theorem updK_ok{R:Type}{P:Program}{s:SSt}{o:Oper}{k:SSt→Option R}{r:R}{t:TypeId}{mo ko vo:Operand}(hg:o.guard=none)(hd:s.okDst o.dst=true)(ho:o.op= .mapUpdate t mo ko vo∨o.op= .insert t mo ko vo)(h:updK P s o.dst t mo ko vo k=some r): ∃s',OpOk P s o s'∧k s'=some r:=by
 unfold updK at h
 split at h
 ·rename_i kt et hT
  have hu:=mapT_und hT
  split at h
  ·rename_i κ kv vv hmv hkv hvv
   split at h
   ·rename_i x hx
    split at h
    ·rename_i hok
     split at h
     ·rename_i l hB
      rcases mapFind_cases h with⟨j,v,h1,h2⟩|⟨h1,h2⟩
      ·cases h2
      ·refine⟨_,fun ops l' Q next=>awpl_did hg (fun cx m a w hr=> ?_) next,h2⟩
       obtain⟨b,es,ck,q1,q2,q3⟩:=hr.heap κ _ (gt_hp hB)
       have rm:=hr.ev (SSt.ev_img hmv)
       simp only[SV.toAV,RepV]at rm
       rw[q1]at rm
       have rk:=hr.ev (SSt.ev_img hkv)
       have rv:=hr.ev (SSt.ev_img hvv)
       have rx:=repV_d.1 (SV.dat_le kv x hx _ _ _ _ rk)
       obtain⟨p3,p4⟩:=miss_run (i:=0) rx h1 (es:=es.toList) q3
       have pf:=findKey_of hok p3 p4
       refine⟨m,undef,{w with heap:=w.heap.setIfInBounds b (.map (es.push {key:=a.eval ko,val:=a.eval vo,born:=ck}) (ck+1))},.inr ⟨rfl,?_⟩,?_⟩
       ·rcases ho with ho|ho<;>
         (simp only[execOp,ho,Instr.mapUpdate,rm.1,Sem.run_bind,run_underlying hu,MapKept.run_getObj_map q2,keyOk_run hok rx,pf,MapKept.run_setObj_map _ q2,Sem.run_pure,Result.andThen_ok])
       ·have:=hr.putMap (gt_hp hB) q1 q2 q3 rk rv
        rw[put_img,setB_img]
        have e:(SB.map (l++ [kv,vv])).toB= .map (SV.toAVs l++ [kv.toAV,vv.toAV]):=by simp only[SB.toB,toAVs_map,List.map_append,List.map_cons,List.map_nil]
        rw[e]
        refine this.put ?_ (by simp only[SV.toAV,RepV])
        have e0:=hd
        rw[←okDst_img]at e0
        cases hdd:o.dst with
        |none=>rfl
        |some d=>rw[hdd]at e0;simpa only[St.okDst,St.setB,Bool.false_eq_true,if_false]using e0
     ·cases h
    ·cases h
   ·cases h
  ·cases h
 ·cases h
theorem mkmK_ok{R:Type}{P:Program}{s:SSt}{o:Oper}{k:SSt→Option R}{r:R}{t:TypeId}{ro:Option Operand}(hg:o.guard=none)(hd:s.okDst o.dst=true)(ho:o.op= .makeMap t ro)(h:mkmK P s o.dst t ro k=some r): ∃s',OpOk P s o s'∧k s'=some r:=by
 unfold mkmK at h
 split at h
 ·rename_i d kt i hdd hT hi
  obtain⟨kt,et⟩:=kt
  have hu:=mapT_und hT
  refine⟨_,fun ops l' Q next=>awpl_did hg (fun cx m a w hr=> ?_) next,h⟩
  have hrun:(Instr.makeMap t (ro.map a.eval)).run P w= .ok (.map (some w.heap.size)) (w.alloc (.map #[] 0)):=by
   have:=evI_opI hr (evI_img hi)
   cases ro with
   |none=>rfl
   |some x=>
    cases i with
    |none=>simp only[opI,Option.map_some]at this
    |some i=>
     simp only[opI,Option.map_some]at this
     obtain⟨kk,hv⟩:=this
     simp only[Option.map_some,hv,Instr.makeMap,Sem.run_bind,run_underlying hu,Result.andThen_ok,asInt,Sem.run_pure]
     rfl
  refine⟨upm m (kL d) (.map (some w.heap.size)),.map (some w.heap.size),w.alloc (.map #[] 0),.inl ?_,?_⟩
  ·simp only[execOp,ho,Sem.run_bind,hrun,Result.andThen_ok,Sem.run_pure]
  ·rw[put_img,setB_img]
   have:=hr.newMap (kL d) (by unfold kL;omega)
   have e:(SB.map []).toB= .map []:=rfl
   rw[e]
   refine this.put ?_ (by simp only[SV.toAV,RepV,upm_same];exact⟨trivial,rfl⟩)
   have e0:=hd
   rw[←okDst_img,hdd]at e0
   rw[hdd]
   simpa only[St.okDst,St.setB,if_true]using e0
 ·cases h
theorem kvL_len: ∀l:List MapEntry,(kvL l).length=2*l.length
 | []=>rfl
 |e::l=>by simp only[kvL_cons,List.length_cons,kvL_len l];omega
theorem lenmK_ok{R:Type}{P:Program}{s:SSt}{o:Oper}{k:SSt→Option R}{r:R}(hg:o.guard=none)(hd:s.okDst o.dst=true)(h:lenmK P s o k=some r): ∃s',OpOk P s o s'∧k s'=some r:=by
 unfold lenmK at h
 split at h
 ·rename_i c ho
  split at h
  ·rename_i x t hc ha ht
   have ea:c.args= #[x]:=by cases hca:c.args;rw[hca]at ha;simpa using ha
   have et:c.argTypes= #[t]:=by cases hca:c.argTypes;rw[hca]at ht;simpa using ht
   split at h
   ·rename_i kt hT
    obtain⟨kt,e⟩:=kt
    have hu:=mapT_und hT
    split at h
    ·rename_i κ hx
     split at h
     ·rename_i l hB
      refine⟨_,fun ops l' Q next=>awpl_did hg (fun cx m a w hr=> ?_) next,h⟩
      obtain⟨b,es,ck,q1,q2,q3⟩:=hr.heap κ _ (gt_hp hB)
      have rm:=hr.ev (SSt.ev_img hx)
      simp only[SV.toAV,RepV]at rm
      rw[q1]at rm
      have hl:l.length / 2=es.size:=by
       have h1:=(RepVs_iff.1 q3).1
       have h2:(kvsOf es).length=2*es.toList.length:=kvL_len es.toList
       rw[h2,toAVs_map,List.length_map]at h1
       simp at h1
       omega
      refine⟨m,.int .i64 ((l.length / 2:Nat):Int),w,.inl ?_,?_⟩
      ·simp[execOp,ho,resolve,hc,ea,et,invoke,builtin,Builtin.len_,rm.1,run_underlying hu,MapKept.run_getObj_map q2,hl,goInt]
      ·rw[put_img]
       exact hr.put (by rw[okDst_img];exact hd) (by simp only[SV.toAV,RepV,RepD];exact⟨trivial,rfl⟩)
     ·cases h
    ·rename_i hx
     refine⟨_,fun ops l' Q next=>awpl_did hg (fun cx m a w hr=> ?_) next,h⟩
     have rm:=hr.ev (SSt.ev_img hx)
     simp only[SV.toAV,RepV,RepD]at rm
     refine⟨m,.int .i64 0,w,.inl ?_,?_⟩
     ·simp[execOp,ho,resolve,hc,ea,et,invoke,builtin,Builtin.len_,rm.1,run_underlying hu,goInt]
     ·rw[put_img]
      exact hr.put (by rw[okDst_img];exact hd) (by simp only[SV.toAV,RepV,RepD];exact⟨trivial,rfl⟩)
    ·cases h
   ·cases h
  ·cases h
 ·cases h
theorem mapK_ok{R:Type}{P:Program}{s:SSt}{o:Oper}{k:SSt→Option R}{r:R}(hg:o.guard=none)(hd:s.okDst o.dst=true)(h:mapK P s o k=some r): ∃s',OpOk P s o s'∧k s'=some r:=by
 unfold mapK at h
 split at h
 ·rename_i ho;exact lookK_ok hg hd ho h
 ·rename_i ho;exact updK_ok hg hd (.inl ho) h
 ·rename_i ho;exact updK_ok hg hd (.inr ho) h
 ·rename_i ho;exact mkmK_ok hg hd ho h
 ·exact lenmK_ok hg hd h
theorem opM_ok{R:Type}{P:Program}{fl:FuncId→Bool}{s:SSt}{o:Oper}{k:SSt→Option R}{r:R}(hg:o.guard=none)(hd:s.okDst o.dst=true)(h:opM P fl s o k=some r): ∃s',OpOk P s o s'∧k s'=some r:=by
 unfold opM at h
 split at h
 ·exact mapK_ok hg hd h
 ·unfold opL at h
  split at h
  ·exact opE_ok hg hd h
  ·split at h
   ·rename_i s1 hs1
    split at h
    ·rename_i hd1
     obtain⟨s',h1,h2⟩:=opE_ok hg hd1 h
     exact⟨s',fun ops l Q next=>awpl_le (freezeL_le hs1) (h1 ops l Q next),h2⟩
    ·cases h
   ·exact opE_ok hg hd h
theorem opK_ok{R:Type}{P:Program}{ck:CallK}(hck:CallOk P ck){fl:FuncId→Bool}{s:SSt}{o:Oper}{k:SSt→Option R}{r:R}(hg:o.guard=none)(h:opK P ck fl s o k=some r): ∃s',OpOk P s o s'∧k s'=some r:=by
 unfold opK at h
 split at h
 ·rename_i hd
  split at h
  ·split at h
   ·rename_i c ho;exact callX0_sound hck hg ho h
   ·cases h
  ·cases hc:clipF fl o with
   |true=>rw[hc]at h;exact clipK_ok hg hd h
   |false=>rw[hc]at h;exact opM_ok hg hd h
 ·cases h
def skipK{R:Type}(s:SSt)(o:Oper)(k:SSt→Option R):Option R:=if s.okDst o.dst=true then k (s.put o.dst (.tup []))else none
def guardK{R:Type}(P:Program)(ck:CallK)(fl:FuncId→Bool)(s:SSt)(o:Oper)(b want:Bool)(k:SSt→Option R):Option R:=
 if b=want then opK P ck fl s {o with guard:=none} k else skipK s o k
def opGK{R:Type}(P:Program)(ck:CallK)(fl:FuncId→Bool)(ops:Array Oper)(s:SSt)(o:Oper)(k:SSt→Option R):Option R:=
 match o.guard with
 |none=>opK P ck fl s o k
 |some (j,want)=>match obind ops[j]? Oper.dst with
  |some t=>match gt t s.tm with
   |some (.d (.v (.bool b)))=>guardK P ck fl s o b want k
   |some (.tup [])=>skipK s o k
   |some (.b x)=>cond x (guardK P ck fl (s.know t true) o true want k) (guardK P ck fl (s.know t false) o false want k)
   |_=>none
  |none=>none
def OpOkR(P:Program)(ops:Array Oper)(s:SSt)(o:Oper)(s':SSt):Prop:= ∀(l:List Oper) (Q:St→Prop),AWpL P ops l Q s'.toSt→AWpL P ops (o::l) Q s.toSt
theorem skipK_ok{R:Type}{P:Program}{ops:Array Oper}{s:SSt}{o:Oper}{k:SSt→Option R}{r:R}{j t:Nat}{want:Bool}(hg:o.guard=some (j,want))(ht:obind ops[j]? Oper.dst=some t)
  (hb:gt t s.toSt.tm=some (.tup [])∨ ∃b,gt t s.toSt.tm=some (.d (.v (.bool b)))∧b≠want)(h:skipK s o k=some r): ∃s',OpOkR P ops s o s'∧k s'=some r:=by
 unfold skipK at h
 split at h
 ·rename_i hd
  refine⟨_,fun l Q next=> ?_,h⟩
  rw[put_img]at next
  refine awpl_step (s':=s.toSt.put o.dst (.tup [])) ?_ (by simpa only[SV.toAV,SV.toAVs]using next)
  unfold stepG
  rw[hg]
  simp only[ht,gtO]
  rcases hb with hb|⟨b,hb,hne⟩
  ·rw[hb];simp only[okDst_img,hd,if_true]
  ·rw[hb];simp only[if_neg hne,okDst_img,hd,if_true]
 ·cases h
theorem guardK_ok{R:Type}{P:Program}{ck:CallK}(hck:CallOk P ck){fl:FuncId→Bool}{ops:Array Oper}{s:SSt}{o:Oper}{k:SSt→Option R}{r:R}{j t:Nat}{b want:Bool}(hg:o.guard=some (j,want))(ht:obind ops[j]? Oper.dst=some t)
  (hb:gt t s.toSt.tm=some (.d (.v (.bool b))))(h:guardK P ck fl s o b want k=some r): ∃s',OpOkR P ops s o s'∧k s'=some r:=by
 unfold guardK at h
 split at h
 ·rename_i hbw
  subst hbw
  obtain⟨s',h1,h2⟩:=opK_ok hck rfl h
  exact⟨s',fun l Q next=>awpl_guard hg (Option.bind_eq_some_iff.2 ⟨t,ht,hb⟩) (h1 ops l Q next),h2⟩
 ·rename_i hbw
  exact skipK_ok hg ht (.inr ⟨b,hb,hbw⟩) h
theorem opGK_ok{R:Type}{P:Program}{ck:CallK}(hck:CallOk P ck){fl:FuncId→Bool}{ops:Array Oper}{s:SSt}{o:Oper}{k:SSt→Option R}{r:R}(h:opGK P ck fl ops s o k=some r): ∃s',OpOkR P ops s o s'∧k s'=some r:=by
 unfold opGK at h
 split at h
 ·rename_i hg
  obtain⟨s',h1,h2⟩:=opK_ok hck hg h
  exact⟨s',fun l Q next=>h1 ops l Q next,h2⟩
 ·rename_i j want hg
  split at h
  ·rename_i t ht
   have slot: ∀ {v:SV},gt t s.tm=some v→gt t s.toSt.tm=some v.toAV:=fun hv=>by simp only[SSt.toSt,gt_mapk,hv,Option.map_some]
   split at h
   ·rename_i b hb;exact guardK_ok hck hg ht (slot hb) h
   ·rename_i hb;exact skipK_ok hg ht (.inl (by have:=slot hb;simpa only[SV.toAV,SV.toAVs]using this)) h
   ·rename_i x hb
    have hk:=know_img hb
    have hs:gt t (s.know t x).toSt.tm=some (.d (.v (.bool x))):=by rw[hk];exact slot hb
    cases x with
    |true=>
     obtain⟨s',h1,h2⟩:=guardK_ok hck hg ht hs h
     exact⟨s',fun l Q next=>by have:=h1 l Q next;rw[hk]at this;exact this,h2⟩
    |false=>
     obtain⟨s',h1,h2⟩:=guardK_ok hck hg ht hs h
     exact⟨s',fun l Q next=>by have:=h1 l Q next;rw[hk]at this;exact this,h2⟩
   ·cases h
  ·cases h
def opsR{R:Type}(P:Program)(ck:CallK)(fl:FuncId→Bool)(ops:Array Oper):List Oper→SSt→(SSt→Option R)→Option R
 | [],s,k=>k s
 |o::l,s,k=>opGK P ck fl ops s o fun s'=>opsR P ck fl ops l s' k
theorem opsR_ok{R:Type}{P:Program}{ck:CallK}(hck:CallOk P ck){fl:FuncId→Bool}{ops:Array Oper}{k:SSt→Option R}{r:R}: ∀ {l:List Oper} {s:SSt},opsR P ck fl ops l s k=some r→ ∃s',k s'=some r∧ ∀Q:St→Prop,Q s'.toSt→AWpL P ops l Q s.toSt
 | [],s,h=>⟨s,h,fun Q hq=>awpl_nil hq⟩
 |o::l,s,h=>by
  simp only[opsR]at h
  obtain⟨s1,h1,h2⟩:=opGK_ok hck h
  obtain⟨s',h3,h4⟩:=opsR_ok hck h2
  exact⟨s',h3,fun Q hq=>h1 l Q (h4 Q hq)⟩
theorem qop_le{P:Program}{ops:Array Oper}{o:Oper}{s:St}{u v:AV}(h:QOp P ops o s u)(hle:AVLe u v):QOp P ops o s v:=by
 intro s2 hn hp hl cx m a w K hr hK
 refine h s2 hn hp hl cx m a w K hr fun s' m' a' w' hs' hr'=> ?_
 subst hs'
 exact hK _ m' a' w' rfl (le_put hle cx m' a' w' hr')
def datLastS:Nat→SV→List SB→Option (SV×List SB)
 |0,R,BS=>some (R,BS)
 |k+1,R,BS=>match BS.getLast? with
  |some B=>match B.data with
   |some (x,y)=>datLastS k (datS (BS.length - 1) x R) (BS.dropLast.map (datSB (BS.length - 1) x y))
   |none=>none
  |none=>none
theorem datLastS_img: ∀ {k:Nat} {R R':SV} {BS BS':List SB},datLastS k R BS=some (R',BS')→datLast k R.toAV (BS.map SB.toB)=some (R'.toAV,BS'.map SB.toB)
 |0,R,R',BS,BS',h=>by simp only[datLastS,Option.some.injEq,Prod.mk.injEq]at h;obtain⟨rfl,rfl⟩:=h;rfl
 |k+1,R,R',BS,BS',h=>by
  simp only[datLastS]at h
  split at h
  ·rename_i B hB
   split at h
   ·rename_i x y hd
    obtain⟨h1,h2⟩:=SB.data_img hd
    have:=datLastS_img h
    rw[datS_img h2]at this
    simp only[datLast,List.getLast?_map,hB,Option.map_some,h1,List.length_map]
    rw[←this]
    have e:(BS.map SB.toB).dropLast.map (datB (BS.length - 1) y)=(BS.dropLast.map (datSB (BS.length - 1) x y)).map SB.toB:=by
     rw[←List.map_dropLast,List.map_map,List.map_map]
     exact List.map_congr_left fun B' _=>(datSB_img h2 B').symm
    rw[e]
   ·cases h
  ·cases h
def callQN{R:Type}(V:List Nat)(k:SV→Option R)(v:SV)(BS:List SB):Option R:=
 match datLastS BS.length v BS with
 |some (v',[])=>if V.isEmpty||flatV v'.toAV then k (renS (backF [] 16 0) v')else none
 |_=>none
def callQ{R:Type}(P:Program)(ck:CallK)(s:SSt)(dst:Option Nat)(c:Call)(k:SV→Option R):Option R:=
 match goS P s c with
 |some (f,vs)=>match P.funcs[f]? with
  |some fn=>if fnOk fn&&s.okDst dst then
    if(reachK s.toSt.hp 64 (keysVs ((SV.toAVs vs).filter notOwn)) []).isEmpty&&(rmK [] (keysVs ((SV.toAVs vs).filter isOwn))).all (fun κ=>(gt κ s.toSt.hp).isSome)then
     ck R f (argsS P s [] (rmK [] (keysVs ((SV.toAVs vs).filter isOwn))) fn.params.toList vs) [] (callQN (rmK [] (keysVs ((SV.toAVs vs).filter isOwn))) k)
    else none
   else none
  |none=>none
 |none=>none
theorem callQ_ok{R:Type}{P:Program}{ck:CallK}(hck:CallOk P ck){ops:Array Oper}{s:SSt}{o:Oper}{c:Call}{k:SV→Option R}{r:R}(hg:o.guard=none)(ho:o.op= .call c)(hic:isCallO o.op=true)(h:callQ P ck s o.dst c k=some r): ∃v,QOp P ops o s.toSt v.toAV∧k v=some r:=by
 unfold callQ at h
 split at h
 ·rename_i f vs hgo
  split at h
  ·rename_i fn hfn
   split at h
   ·rename_i hk
    split at h
    ·rename_i hc
     simp only[Bool.and_eq_true]at hc
     have hks:reachK s.toSt.hp 64 (keysVs ((SV.toAVs vs).filter notOwn)) []= []:=List.isEmpty_iff.1 hc.1
     obtain⟨v,BS,hl,hcall,hn⟩:=hck _ _ _ _ _ _ h
     unfold callQN at hn
     split at hn
     ·rename_i v' hd
      split at hn
      ·rename_i hf
       refine⟨_,?_,hn⟩
       rw[argsS_img]at hcall
       refine callD_sound (run1_ok (by simp) hcall) hg (v:=(renS (backF [] 16 0) v').toAV) ?_
       have hd':=datLastS_img hd
       rw[renS_img]
       unfold callD
       rw[if_pos hic,ho]
       simp only[opCall,callD0,goS_img hgo,callD1,hfn,callD2]
       rw[okDst_img,if_pos hk,hks]
       simp only[callD3,callD4]
       have hb:pickB (fun x=>posOf x []) s.toSt.hp []=some []:=rfl
       rw[hb]
       simp only[callD5]
       rw[if_pos (by simp[nodupB];simpa using hc.2)]
       have:(run1 f (argsA P s.toSt [] (rmK [] (keysVs (List.filter isOwn (SV.toAVs vs)))) fn.params.toList (SV.toAVs vs)) (List.map SB.toB []) v.toAV (List.map SB.toB BS)) f (argsA P s.toSt [] (rmK [] (keysVs (List.filter isOwn (SV.toAVs vs)))) fn.params.toList (SV.toAVs vs)) []=some (v.toAV,BS.map SB.toB):=run1_self
       rw[this]
       simp only[callD6,List.length_map,List.length_nil,Nat.sub_zero,hd',callD7,List.map_nil,sameK,Bool.true_and,List.all_nil,Bool.and_true]
       rw[if_pos hf]
       congr 1
      ·cases hn
     ·cases hn
    ·cases h
   ·cases h
  ·cases h
 ·cases h
def obV{R:Type}(k:SV→Option R)(r:Bool×SV):Option R:=cond r.1 (k r.2) none
def headV{R:Type}(P:Program)(ck:CallK)(s:SSt)(o:Oper)(k:SV→Option R):Option R:=
 if s.okDst o.dst=true then
  if isCallO o.op then match o.op with
   | .call c=>callQ P ck s o.dst c k
   |_=>none
  else match valS P s o.op with
   |some r=>obV k r
   |none=>none
 else none
theorem headV_ok{R:Type}{P:Program}{ck:CallK}(hck:CallOk P ck){ops:Array Oper}{s:SSt}{o:Oper}{k:SV→Option R}{r:R}(hg:o.guard=none)(h:headV P ck s o k=some r): ∃v,QOp P ops o s.toSt v.toAV∧k v=some r:=by
 unfold headV at h
 split at h
 ·rename_i hd
  split at h
  ·rename_i hic
   split at h
   ·rename_i c ho;exact callQ_ok hck hg ho hic h
   ·cases h
  ·split at h
   ·rename_i x hv
    obtain⟨ob,v⟩:=x
    unfold obV at h
    cases ob with
    |false=>cases h
    |true=>
     obtain⟨u,h1,h2⟩:=valS_sound hv rfl
     refine⟨v,qop_le (qop_val (v:=u) ?_) h2,h⟩
     unfold stepV
     rw[okDst_img,hd,hg]
     simpa using h1
   ·cases h
 ·cases h
def headG{R:Type}(P:Program)(ck:CallK)(s:SSt)(o:Oper)(b want:Bool)(k:SV→Option R):Option R:=
 if b=want then headV P ck s {o with guard:=none} k else if s.okDst o.dst=true then k (.tup [])else none
def headK{R:Type}(P:Program)(ck:CallK)(ops:Array Oper)(s:SSt)(o:Oper)(k:SSt→SV→Option R):Option R:=
 match o.guard with
 |none=>headV P ck s o (k s)
 |some (j,want)=>match obind ops[j]? Oper.dst with
  |some t=>match gt t s.tm with
   |some (.d (.v (.bool b)))=>headG P ck s o b want (k s)
   |some (.tup [])=>if s.okDst o.dst=true then k s (.tup [])else none
   |some (.b x)=>cond x (headG P ck (s.know t true) o true want (k (s.know t true))) (headG P ck (s.know t false) o false want (k (s.know t false)))
   |_=>none
  |none=>none
theorem headSkip{P:Program}{ops:Array Oper}{s:SSt}{o:Oper}{j t:Nat}{want:Bool}(hg:o.guard=some (j,want))(ht:obind ops[j]? Oper.dst=some t)(hd:s.okDst o.dst=true)
  (hb:gt t s.toSt.tm=some (.tup [])∨ ∃b,gt t s.toSt.tm=some (.d (.v (.bool b)))∧b≠want):QOp P ops o s.toSt (SV.tup []).toAV:=by
 refine qop_val ?_
 unfold stepV
 rw[okDst_img,hd,hg]
 simp only[ht,gtO]
 rcases hb with hb|⟨b,hb,hne⟩
 ·rw[hb];simp[SV.toAV,SV.toAVs]
 ·rw[hb];simp only[if_neg hne];simp[SV.toAV,SV.toAVs]
theorem headG_ok{R:Type}{P:Program}{ck:CallK}(hck:CallOk P ck){ops:Array Oper}{s:SSt}{o:Oper}{k:SV→Option R}{r:R}{j t:Nat}{b want:Bool}(hg:o.guard=some (j,want))(ht:obind ops[j]? Oper.dst=some t)
  (hb:gt t s.toSt.tm=some (.d (.v (.bool b))))(h:headG P ck s o b want k=some r): ∃v,QOp P ops o s.toSt v.toAV∧k v=some r:=by
 unfold headG at h
 split at h
 ·rename_i hbw
  subst hbw
  obtain⟨v,h1,h2⟩:=headV_ok (ops:=ops) hck rfl h
  exact⟨v,qop_guard hg (by rw[ht];exact hb) h1,h2⟩
 ·rename_i hbw
  split at h
  ·rename_i hd;exact⟨_,headSkip hg ht hd (.inr ⟨b,hb,hbw⟩),h⟩
  ·cases h
theorem headK_ok{R:Type}{P:Program}{ck:CallK}(hck:CallOk P ck){ops:Array Oper}{s:SSt}{o:Oper}{k:SSt→SV→Option R}{r:R}(h:headK P ck ops s o k=some r): ∃s' v,s'.toSt=s.toSt∧QOp P ops o s.toSt v.toAV∧k s' v=some r:=by
 unfold headK at h
 split at h
 ·rename_i hg
  obtain⟨v,h1,h2⟩:=headV_ok (ops:=ops) hck hg h
  exact⟨s,v,rfl,h1,h2⟩
 ·rename_i j want hg
  split at h
  ·rename_i t ht
   have slot: ∀ {v:SV},gt t s.tm=some v→gt t s.toSt.tm=some v.toAV:=fun hv=>by simp only[SSt.toSt,gt_mapk,hv,Option.map_some]
   split at h
   ·rename_i b hb
    obtain⟨v,h1,h2⟩:=headG_ok hck hg ht (slot hb) h
    exact⟨s,v,rfl,h1,h2⟩
   ·rename_i hb
    split at h
    ·rename_i hd;exact⟨s,_,rfl,headSkip hg ht hd (.inl (by have:=slot hb;simpa only[SV.toAV,SV.toAVs]using this)),h⟩
    ·cases h
   ·rename_i x hb
    have hk:=know_img hb
    have hs:gt t (s.know t x).toSt.tm=some (.d (.v (.bool x))):=by rw[hk];exact slot hb
    cases x with
    |true=>
     obtain⟨v,h1,h2⟩:=headG_ok hck hg ht hs h
     exact⟨_,v,hk,by rw[hk]at h1;exact h1,h2⟩
    |false=>
     obtain⟨v,h1,h2⟩:=headG_ok hck hg ht hs h
     exact⟨_,v,hk,by rw[hk]at h1;exact h1,h2⟩
   ·cases h
  ·cases h
def headsK{R:Type}(P:Program)(ck:CallK)(ops:Array Oper):Nat→List Oper→SSt→(List Oper→SSt→Option R)→Option R
 |0,l,s,k=>k l s
 |p+1,o::l,s,k=>headK P ck ops s o fun s' v=>headsK P ck ops p l (s'.put o.dst v) k
 |_+1,[],_,_=>none
theorem headsK_ok{R:Type}{P:Program}{ck:CallK}(hck:CallOk P ck){ops:Array Oper}{k:List Oper→SSt→Option R}{r:R}: ∀ {p:Nat} {l:List Oper} {s:SSt},headsK P ck ops p l s k=some r→
  ∃l' s',k l' s'=some r∧ ∀RR:List Oper→St→Prop,RR l' s'.toSt→QRunN P ops RR p l s.toSt
 |0,l,s,h=>⟨l,s,h,fun RR hr=>hr⟩
 |p+1,o::l,s,h=>by
  simp only[headsK]at h
  obtain⟨s1,v,h1,h2,h3⟩:=headK_ok hck h
  obtain⟨l',s',h4,h5⟩:=headsK_ok hck h3
  refine⟨l',s',h4,fun RR hr=> ?_⟩
  have:=h5 RR hr
  rw[put_img,h1]at this
  exact⟨v.toAV,h2,this⟩
 |p+1,[],s,h=>by simp[headsK]at h
theorem le_st{s' s:St}(hn:s'.n=s.n)(ht: ∀t v',gt t s'.tm=some v'→ ∃v,gt t s.tm=some v∧AVLe v v')(hb: ∀κ B',gt κ s'.hp=some B'→ ∃B,gt κ s.hp=some B∧BLe B B'):LeSt s' s:=by
 intro c m a w hr
 have ho: ∀b,Owned m s'.hp b→Owned m s.hp b:=by
  rintro b ⟨j,C,hC,hb'⟩
  obtain⟨C0,h0,_⟩:=hb j C hC
  exact⟨j,C0,h0,hb'⟩
 have hk:Kept w (Forb c m s.hp) w (Forb c m s'.hp):=fun b _ hnb=>⟨fun h=>hnb (h.imp id (ho b)),rfl⟩
 refine⟨hr.defers,by rw[hn];exact hr.nt,?_,?_,?_,?_,?_,hr.fr,hr.xlt,hr.pin,hr.pinp,hr.gl⟩
 ·intro t v' hv
  obtain⟨v,h1,h2⟩:=ht t v' hv
  exact h2 _ _ _ _ (RepV.kept hk (Nat.le_refl _) _ _ (hr.slot t v h1))
 ·intro κ B' hB
  obtain⟨B,h1,h2⟩:=hb κ B' hB
  refine h2 _ _ _ _ ?_
  have:=hr.heap κ B h1
  exact RepB.kept hk (Nat.le_refl _) (fun b _ _=>rfl) this
 ·intro κ κ' B B' b h1 h2
  obtain⟨_,h1,_⟩:=hb κ B h1
  obtain⟨_,h2,_⟩:=hb κ' B' h2
  exact hr.sep κ κ' _ _ b h1 h2
 ·intro κ B b h1
  obtain⟨_,h1,_⟩:=hb κ B h1
  exact hr.nox κ _ b h1
 ·intro κ B b h1
  obtain⟨_,h1,_⟩:=hb κ B h1
  exact hr.old κ _ b h1
def RepsLe(vs vs':List AV):Prop:= ∀(w:World) (F:Nat→Prop) (m:Nat→Value) (us:List Value),RepVs w F m vs us→RepVs w F m vs' us
structure VPat (X:Type) where
 get:SV→Option X
 put:X→SV
 le: ∀v x,get v=some x→AVLe v.toAV (put x).toAV
structure VsPat (X:Type) where
 get:List SV→Option X
 put:X→List SV
 le: ∀v x,get v=some x→RepsLe (SV.toAVs v) (SV.toAVs (put x))
def shp(s:Sh):VPat s.T where
 get v:=if s.ok=true then SV.asT s v else none
 put x:=s.sv x
 le v x h:=by
  split at h
  ·rename_i hk;exact AVLe.trans (asT_le h) (s.sv_le _ hk)
  ·cases h
def datp(x:D):VPat Unit where
 get v:=match v with
  | .d y=>if sqD y x=true then some ()else none
  |_=>none
 put _:= .d x
 le v _ h:=by
  split at h
  ·split at h
   ·rename_i hq
    have:=sqD_eq _ _ hq
    subst this
    exact AVLe.refl _
   ·cases h
  ·cases h
def ptrp(κ off:Nat):VPat Unit where
 get v:=match v with
  | .ptr κ' off'=>if κ'=κ∧off'=off then some ()else none
  |_=>none
 put _:= .ptr κ off
 le v _ h:=by
  split at h
  ·split at h
   ·rename_i hq;obtain⟨rfl,rfl⟩:=hq;exact AVLe.refl _
   ·cases h
  ·cases h
def ownp(κ:Nat):VPat Unit where
 get v:=match v with
  | .own κ'=>if κ'=κ then some ()else none
  |_=>none
 put _:= .own κ
 le v _ h:=by
  split at h
  ·split at h
   ·rename_i hq;obtain rfl:=hq;exact AVLe.refl _
   ·cases h
  ·cases h
def slp(n κ:Nat):VPat Unit where
 get v:=match v with
  | .wrap (.sl n') (.own κ')=>if n'=n∧κ'=κ then some ()else none
  |_=>none
 put _:= .wrap (.sl n) (.own κ)
 le v _ h:=by
  split at h
  ·split at h
   ·rename_i hq;obtain⟨rfl,rfl⟩:=hq;exact AVLe.refl _
   ·cases h
  ·cases h
def anyp:VPat Unit where
 get _:=some ()
 put _:= .bot
 le v _ _:=fun w F m u _=>by simp only[SV.toAV,RepV]
def aggp{X:Type}(p:VsPat X):VPat X where
 get v:=match v with
  | .agg vs=>p.get vs
  | .d (.agg ds)=>p.get (ds.map .d)
  |_=>none
 put x:= .agg (p.put x)
 le v x h:=by
  split at h
  ·have h1:=p.le _ _ h
   intro w F m u hr
   simp only[SV.toAV,RepV]at hr ⊢
   obtain⟨us,rfl,h3,h4⟩:=hr
   exact⟨us,rfl,h1 w F m us h3,h4⟩
  ·rename_i ds
   have h1:=p.le _ _ h
   intro w F m u hr
   have hr:=D.sv_le (.agg ds) w F m u (by simpa only[SV.toAV]using hr)
   simp only[D.sv,SV.toAV,RepV]at hr ⊢
   obtain⟨us,rfl,h3,h4⟩:=hr
   exact⟨us,rfl,h1 w F m us h3,h4⟩
  ·cases h
def tupp{X:Type}(p:VsPat X):VPat X where
 get v:=match v with
  | .tup vs=>p.get vs
  |_=>none
 put x:= .tup (p.put x)
 le v x h:=by
  split at h
  ·have h1:=p.le _ _ h
   intro w F m u hr
   simp only[SV.toAV,RepV]at hr ⊢
   obtain⟨us,rfl,h3⟩:=hr
   exact⟨us,rfl,h1 w F m us h3⟩
  ·cases h
def closp{X:Type}(f:FuncId)(p:VsPat X):VPat X where
 get v:=match v with
  | .clos f' vs=>if f'=f then p.get vs else none
  |_=>none
 put x:= .clos f (p.put x)
 le v x h:=by
  split at h
  ·split at h
   ·rename_i hq
    obtain rfl:=hq
    have h1:=p.le _ _ h
    intro w F m u hr
    simp only[SV.toAV,RepV]at hr ⊢
    obtain⟨us,rfl,h3⟩:=hr
    exact⟨us,rfl,h1 w F m us h3⟩
   ·cases h
  ·cases h
def ifcp{X:Type}(t:TypeId)(p:VPat X):VPat X where
 get v:=match v with
  | .wrap (.ifc t') u=>if t'=t then p.get u else none
  |_=>none
 put x:= .wrap (.ifc t) (p.put x)
 le v x h:=by
  split at h
  ·split at h
   ·rename_i hq
    obtain rfl:=hq
    have h1:=p.le _ _ h
    intro w F m u hr
    simp only[SV.toAV,RepV]at hr ⊢
    obtain⟨u0,rfl,h3⟩:=hr
    exact⟨u0,rfl,h1 w F m u0 h3⟩
   ·cases h
  ·cases h
def mthp{X:Type}(n:String)(p:VPat X):VPat X where
 get v:=match v with
  | .wrap (.mth n') u=>if n'=n then p.get u else none
  |_=>none
 put x:= .wrap (.mth n) (p.put x)
 le v x h:=by
  split at h
  ·split at h
   ·rename_i hq
    obtain rfl:=hq
    have h1:=p.le _ _ h
    intro w F m u hr
    simp only[SV.toAV,RepV]at hr ⊢
    obtain⟨u0,rfl,h3⟩:=hr
    exact⟨u0,rfl,h1 w F m u0 h3⟩
   ·cases h
  ·cases h
def vnil:VsPat Unit where
 get v:=match v with
  | []=>some ()
  |_=>none
 put _:= []
 le v x h:=by
  split at h
  ·exact fun w F m us hr=>hr
  ·cases h
def bothO{A B:Type}(x:Option A)(y:Option B):Option (A×B):=
 match x,y with
 |some a,some b=>some (a,b)
 |_,_=>none
theorem bothO_some{A B:Type}{x:Option A}{y:Option B}{z:A×B}(h:bothO x y=some z):x=some z.1∧y=some z.2:=by
 unfold bothO at h
 split at h
 ·cases h;exact⟨rfl,rfl⟩
 ·cases h
def vcons{A B:Type}(p:VPat A)(q:VsPat B):VsPat (A×B) where
 get v:=match v with
  |v::vs=>bothO (p.get v) (q.get vs)
  | []=>none
 put x:=p.put x.1::q.put x.2
 le v x h:=by
  split at h
  ·obtain⟨h1,h2⟩:=bothO_some h
   have h1:=p.le _ _ h1
   have h2:=q.le _ _ h2
   intro w F m us hr
   simp only[SV.toAVs,RepVs]at hr ⊢
   obtain⟨u,rest,e,r1,r2⟩:=hr
   exact⟨u,rest,e,h1 w F m u r1,h2 w F m rest r2⟩
  ·cases h
def vcon0{B:Type}(p:VPat Unit)(q:VsPat B):VsPat B where
 get v:=match v with
  |v::vs=>match p.get v with
   |some _=>q.get vs
   |none=>none
  | []=>none
 put x:=p.put ()::q.put x
 le v x h:=by
  split at h
  ·split at h
   ·rename_i h1
    have h1:=p.le _ _ h1
    have h2:=q.le _ _ h
    intro w F m us hr
    simp only[SV.toAVs,RepVs]at hr ⊢
    obtain⟨u,rest,e,r1,r2⟩:=hr
    exact⟨u,rest,e,h1 w F m u r1,h2 w F m rest r2⟩
   ·cases h
  ·cases h
structure BPat (X:Type) where
 get:SB→Option X
 put:X→SB
 le: ∀v x,get v=some x→BLe v.toB (put x).toB
def boxp{X:Type}(e:TypeId)(p:VsPat X):BPat X where
 get B:=match B with
  | .box e' vs=>if e'=e then p.get vs else none
  |_=>none
 put x:= .box e (p.put x)
 le B x h:=by
  split at h
  ·split at h
   ·rename_i hq
    obtain rfl:=hq
    have h1:=p.le _ _ h
    intro w F m κ hr
    simp only[SB.toB,RepB]at hr ⊢
    obtain⟨b,c,r1,r2,r3,r4⟩:=hr
    exact⟨b,c,r1,r2,h1 w F m _ r3,r4⟩
   ·cases h
  ·cases h
def boxs(e:TypeId)(h t:Sh):BPat (Sh.cons h t).T where
 get B:=match B with
  | .box e' vs=>if e'=e∧(Sh.cons h t).ok=true then SV.asCs (.cons h t) vs else none
  |_=>none
 put x:= .box e ((Sh.cons h t).sv2 x).2
 le B x hx:=by
  split at hx
  ·rename_i e' vs
   split at hx
   ·rename_i hq
    obtain⟨rfl,hok⟩:=hq
    have h1:AVLe (SV.agg vs).toAV ((Sh.cons h t).sv x).toAV:=AVLe.trans (asT_le (s:= .cons h t) (v:= .agg vs) hx) ((Sh.cons h t).sv_le x hok)
    intro w F m κ hr
    simp only[SB.toB,RepB]at hr ⊢
    obtain⟨b,c,r1,r2,r3,r4⟩:=hr
    have h2:=h1 w F m (.agg c.toList.toArray) (by
     simp only[SV.toAV,RepV]
     exact⟨_,rfl,r3,by simpa using r4⟩)
    have e1:((Sh.cons h t).sv x).toAV= .agg (SV.toAVs ((Sh.cons h t).sv2 x).2):=by
     simp only[Sh.sv,Sh.sv2,SV.toAV]
    rw[e1]at h2
    simp only[RepV]at h2
    obtain⟨us,q1,q2,_⟩:=h2
    have:us=c.toList:=by
     have:=congrArg (fun z=>match z with|Value.agg y=>y.toList|_=> []) q1
     simpa using this.symm
    subst this
    exact⟨b,c,r1,r2,q2,r4⟩
   ·cases hx
  ·cases hx
def intsp(e:TypeId)(k:IntKind):BPat (List Int) where
 get B:=match B with
  | .ints e' k' xs _=>if e'=e∧k'=k then some xs else none
  |_=>none
 put x:= .ints e k x none
 le B x h:=by
  split at h
  ·split at h
   ·rename_i hq;obtain⟨rfl,rfl⟩:=hq;cases h;exact ints_ble (.inr rfl)
   ·cases h
  ·cases h
def rowp(e:TypeId)(s:Sh):BPat (List s.T) where
 get B:=match B with
  | .row e' s' xs _=>if e'=e then castSh s' s xs else none
  |_=>none
 put x:= .row e s x none
 le B x h:=by
  split at h
  ·split at h
   ·rename_i hq
    obtain rfl:=hq
    obtain⟨h1,h2⟩:=castSh_some h
    simp only[SB.toB]
    rw[h1,h2]
    exact row_ble (DsLe.refl _) (.inr rfl)
   ·cases h
  ·cases h
def BsLe:List Blk→List Blk→Prop
 | [],[]=>True
 |B::l,B'::l'=>BLe B B'∧BsLe l l'
 |_,_=>False
theorem BsLe.len: ∀ {l l':List Blk},BsLe l l'→l.length=l'.length
 | [],[],_=>rfl
 |B::l,B'::l',h=>by simp[BsLe.len h.2]
 | [],_::_,h=>h.elim
 |_::_,[],h=>h.elim
theorem BsLe.get: ∀ {l l':List Blk},BsLe l l'→ ∀(i:Nat) B',l'[i]? =some B'→ ∃B,l[i]? =some B∧BLe B B'
 | [],[],_,i,B',h=>by simp at h
 |B::l,C::l',hl,i,B',h=>by
  cases i with
  |zero=>simp at h;subst h;exact⟨B,rfl,hl.1⟩
  |succ i=>exact BsLe.get hl.2 i B' (by simpa using h)
 | [],_::_,h,_,_,_=>h.elim
 |_::_,[],h,_,_,_=>h.elim
theorem le_bare{hs hs':List Blk}(h:BsLe hs hs'):LeSt (St.bare hs') (St.bare hs):=by
 refine le_st rfl (fun t v hv=>by simp[St.bare,gt]at hv) fun κ B' hB=> ?_
 have hB:gt κ (hpFrom 0 hs')=some B':=hB
 obtain⟨B,h1,h2⟩:=h.get κ B' (by simpa using (gt_hp0.1 hB))
 exact⟨B,gt_hp0.2 (by simpa using h1),h2⟩
theorem forb_le{c:Ctx}{m:Nat→Value}{hs hs':List Blk}(h:BsLe hs hs'):Forb c m (hpFrom 0 hs)=Forb c m (hpFrom 0 hs'):=by
 funext b
 simp only[Forb]
 congr 1
 refine propext ⟨?_,?_⟩
 ·rintro⟨κ,B,hB,hb⟩
  have hlt:κ<hs'.length:=by
   rw[←h.len]
   exact(List.getElem?_eq_some_iff.1 (gt_hp0.1 hB)).1
  exact⟨κ,hs'[κ],gt_hp0.2 (List.getElem?_eq_getElem hlt),hb⟩
 ·rintro⟨κ,B,hB,hb⟩
  obtain⟨B0,h1,_⟩:=h.get κ B (gt_hp0.1 hB)
  exact⟨κ,B0,gt_hp0.2 h1,hb⟩
theorem ACall.le{P:Program}{f:FuncId}{vs vs':List AV}{hs hs':List Blk}{Post:AV→List Blk→Prop}(hv:RepsLe vs vs')(hb:BsLe hs hs')(h:ACall P f vs' hs' Post):ACall P f vs hs Post:=by
 intro cx m us w hr hu hp
 have:=h cx m us w (le_bare hb _ _ _ _ hr) (hv _ _ _ _ (by rw[←forb_le hb];exact hu)) (fun κ v h=>by rw[←hb.len];exact hp κ v h)
 rw[←hb.len]at this
 exact this
structure BsPat (X:Type) where
 get:List SB→Option X
 put:X→List SB
 le: ∀v x,get v=some x→BsLe (v.map SB.toB) ((put x).map SB.toB)
def bnil:BsPat Unit where
 get v:=match v with
  | []=>some ()
  |_=>none
 put _:= []
 le v x h:=by
  split at h
  ·exact trivial
  ·cases h
def bcons{A B:Type}(p:BPat A)(q:BsPat B):BsPat (A×B) where
 get v:=match v with
  |v::vs=>bothO (p.get v) (q.get vs)
  | []=>none
 put x:=p.put x.1::q.put x.2
 le v x h:=by
  split at h
  ·obtain⟨h1,h2⟩:=bothO_some h
   exact⟨p.le _ _ h1,q.le _ _ h2⟩
  ·cases h
def bcon0{B:Type}(p:BPat Unit)(q:BsPat B):BsPat B where
 get v:=match v with
  |v::vs=>match p.get v with
   |some _=>q.get vs
   |none=>none
  | []=>none
 put x:=p.put ()::q.put x
 le v x h:=by
  split at h
  ·split at h
   ·rename_i h1;exact⟨p.le _ _ h1,q.le _ _ h⟩
   ·cases h
  ·cases h
structure TPat (X:Type) where
 get:List (Nat×SV)→Option X
 put:X→List (Nat×SV)
 le: ∀tm x,get tm=some x→ ∀t v',gt t (put x)=some v'→ ∃v,gt t tm=some v∧AVLe v.toAV v'.toAV
def tnil:TPat Unit where
 get _:=some ()
 put _:= []
 le tm x h t v' hv:=by simp[gt]at hv
def tcons{A B:Type}(t0:Nat)(p:VPat A)(q:TPat B):TPat (A×B) where
 get tm:=match gt t0 tm with
  |some v=>bothO (p.get v) (q.get tm)
  |none=>none
 put x:=(t0,p.put x.1)::q.put x.2
 le tm x h t v' hv:=by
  split at h
  ·rename_i v hv0
   obtain⟨h1,h2⟩:=bothO_some h
   simp only[gt]at hv
   split at hv
   ·rename_i e;subst e;cases hv;exact⟨v,hv0,p.le _ _ h1⟩
   ·exact q.le _ _ h2 t v' hv
  ·cases h
def tcon0{B:Type}(t0:Nat)(p:VPat Unit)(q:TPat B):TPat B where
 get tm:=match gt t0 tm with
  |some v=>match p.get v with
   |some _=>q.get tm
   |none=>none
  |none=>none
 put x:=(t0,p.put ())::q.put x
 le tm x h t v' hv:=by
  split at h
  ·rename_i v hv0
   split at h
   ·rename_i h1
    simp only[gt]at hv
    split at hv
    ·rename_i e;subst e;cases hv;exact⟨v,hv0,p.le _ _ h1⟩
    ·exact q.le _ _ h t v' hv
   ·cases h
  ·cases h
structure HPat (X:Type) where
 get:List (Nat×SB)→Option X
 put:X→List (Nat×SB)
 le: ∀hp x,get hp=some x→ ∀t v',gt t (put x)=some v'→ ∃v,gt t hp=some v∧BLe v.toB v'.toB
def hnil:HPat Unit where
 get _:=some ()
 put _:= []
 le tm x h t v' hv:=by simp[gt]at hv
def hcons{A B:Type}(t0:Nat)(p:BPat A)(q:HPat B):HPat (A×B) where
 get tm:=match gt t0 tm with
  |some v=>bothO (p.get v) (q.get tm)
  |none=>none
 put x:=(t0,p.put x.1)::q.put x.2
 le tm x h t v' hv:=by
  split at h
  ·rename_i v hv0
   obtain⟨h1,h2⟩:=bothO_some h
   simp only[gt]at hv
   split at hv
   ·rename_i e;subst e;cases hv;exact⟨v,hv0,p.le _ _ h1⟩
   ·exact q.le _ _ h2 t v' hv
  ·cases h
def hcon0{B:Type}(t0:Nat)(p:BPat Unit)(q:HPat B):HPat B where
 get tm:=match gt t0 tm with
  |some v=>match p.get v with
   |some _=>q.get tm
   |none=>none
  |none=>none
 put x:=(t0,p.put ())::q.put x
 le tm x h t v' hv:=by
  split at h
  ·rename_i v hv0
   split at h
   ·rename_i h1
    simp only[gt]at hv
    split at hv
    ·rename_i e;subst e;cases hv;exact⟨v,hv0,p.le _ _ h1⟩
    ·exact q.le _ _ h t v' hv
   ·cases h
  ·cases h
structure SPat (X:Type) where
 get:SSt→Option X
 put:X→SSt
 le: ∀s x,get s=some x→LeSt (put x).toSt s.toSt
def spat{A B:Type}(n:Nat)(p:TPat A)(q:HPat B):SPat (A×B) where
 get s:=if s.n=n then bothO (p.get s.tm) (q.get s.hp)else none
 put x:=⟨n,p.put x.1,q.put x.2⟩
 le s x h:=by
  split at h
  ·rename_i hn
   obtain⟨h1,h2⟩:=bothO_some h
   refine le_st hn.symm ?_ ?_
   ·intro t v' hv
    replace hv:gt t (mapk SV.toAV (p.put x.1))=some v':=hv
    rw[gt_mapk]at hv
    obtain⟨v,hv1,rfl⟩:=Option.map_eq_some_iff.1 hv
    obtain⟨u,h4,h5⟩:=p.le _ _ h1 t v hv1
    exact⟨u.toAV,by simp only[SSt.toSt,gt_mapk,h4,Option.map_some],h5⟩
   ·intro κ B' hB
    replace hB:gt κ (mapk SB.toB (q.put x.2))=some B':=hB
    rw[gt_mapk]at hB
    obtain⟨B,hB1,rfl⟩:=Option.map_eq_some_iff.1 hB
    obtain⟨u,h4,h5⟩:=q.le _ _ h2 κ B hB1
    exact⟨u.toB,gt_hp h4,h5⟩
  ·cases h
def valKindO:Op→Bool
 | .alloc _=>false
 | .box _ _=>false
 | .buildSlice _ _ _=>false
 | .makeSlice _ _ _=>false
 | .store _ _ _=>false
 | .call {callee:= .builtin .append,.. }=>false
 |_=>true
def headRows(fl:FuncId→Bool)(s:SSt):List Oper→List Nat
 | []=> []
 |o::l=>(match o.op with
   | .call c=>if isCallO o.op then(if(match c.callee with| .value (.func f)=>fl f|_=>false)then []else(o.op.operands.toList.filterMap fun x=>match s.ev x with|some (.own κ)=>some κ|_=>none))else []
   | .slice _ x _ _ _=>match s.ev x with|some (.own κ)=> [κ]|_=> []
   | .index _ x _=>match s.ev x with|some (.own κ)=> [κ]|_=> []
   |_=> [])++headRows fl s l
def headBoxes(s:SSt):List Oper→List Nat
 | []=> []
 |o::l=>(if isCallO o.op then(o.op.operands.toList.filterMap fun x=>match s.ev x with|some (.ptr κ 0)=>some κ|_=>none)else match o.op with
   | .slice _ x none none none=>match s.ev x with|some (.ptr κ 0)=> [κ]|_=> []
   |_=> [])++headBoxes s l
def dedup:List Nat→List Nat
 | []=> []
 |x::l=>if l.contains x then dedup l else x::dedup l
theorem awpl_backLe{P:Program}{ops:Array Oper}{l:List Oper}{R R':St→Prop}{s:St}(hR: ∀s',R s'→ ∃s2,LeSt s2 s'∧R' s2)(h:AWpL P ops l R s):AWpL P ops l R' s:=
 fun cx m a w K hr hK=>h cx m a w K hr fun s' m' a' w' hs' hr'=>by
  obtain⟨s2,h1,h2⟩:=hR s' hs'
  exact hK s2 m' a' w' h2 (h1 cx m' a' w' hr')
theorem sub_le{a b:St}(h:Sub a b):LeSt a b:=fun _ _ _ _ hr=>hr.sub h
theorem applyE_put'{s:St}{d:Option Nat}{v:AV}:Sub (s.put d v) (applyE s ⟨dstW d v,[]⟩):=by
 cases d with
 |none=>exact⟨rfl,fun t u h=> .inr h,fun κ B h=>h⟩
 |some d=>exact⟨rfl,fun t u h=> .inr (by simpa only[applyE,dstW,insL,St.put]using h),fun κ B h=>h⟩
def LOpLe(P:Program)(ops:Array Oper)(s:St)(q:Loc):Prop:=
 ∀s2:St,s2.n=s.n→(∀t∈q.reads,gt t s2.tm=gt t s.tm)→(∀κ∈q.keys,gt κ s2.hp=gt κ s.hp)→
  (∀t v,gt t s2.tm=some v→(gt t q.e.W).isSome=true∨nm q.kill v=false)→(∀κ B,gt κ s2.hp=some B→(gt κ q.e.H).isSome=true∨nmB q.kill B=false)→
  AWpL P ops [q.o] (fun s3=>LeSt (applyE s2 q.e) s3) s2
theorem lopLe_iff{P:Program}{ops:Array Oper}{s:St}{q:Loc}(h:LOpLe P ops s q):LOp P ops s q:=fun s2 h1 h2 h3 h4 h5=>
 awpl_backLe (fun s' hs'=>⟨_,hs',Sub.refl _⟩) (h s2 h1 h2 h3 h4 h5)
theorem lop_le{P:Program}{ops:Array Oper}{s:St}{o:Oper}{d:Option Nat}{u v:AV}{reads keys:List Nat}(h:LOp P ops s ⟨o,⟨dstW d u,[]⟩,reads,keys,[]⟩)(hle:AVLe u v):LOp P ops s ⟨o,⟨dstW d v,[]⟩,reads,keys,[]⟩:=by
 refine lopLe_iff fun s2 h1 h2 h3 h4 h5=> ?_
 refine awpl_mono ?_ (h s2 h1 h2 h3 (fun t w hw=> .inr (by simp[nm])) (fun κ B hB=> .inr (by simp[nmB])))
 intro s3 hs3
 exact((sub_le applyE_put).trans (le_put hle)).trans ((sub_le applyE_put').trans (sub_le hs3))
def QL(P:Program)(ops:Array Oper)(o:Oper)(s:St)(v:AV):Prop:=LOp P ops s ⟨o,⟨dstW o.dst v,[]⟩,o.looksAt ops,opsK s o.op.operands.toList,[]⟩
theorem none_ok{P:Program}:RunOk P (fun _ _ _=>none):=fun f vs hs R BS h=>by cases h
theorem ql_step{P:Program}{ops:Array Oper}{s:St}{o:Oper}{v:AV}(h:stepV P ops s o=some v):QL P ops o s v:=
 lop_val (run:=fun _ _ _=>none) none_ok (by unfold valK;rw[h])
theorem ql_call{P:Program}{run:RunF}(hrun:RunOk P run){ops:Array Oper}{s:St}{o:Oper}{v:AV}(hg:o.guard=none)(h0:noKeys P s o=true)(h:callD P run s o=some v):QL P ops o s v:=by
 intro s2 hn hr hk _ _
 have hev: ∀x∈o.op.operands,s2.ev x=s.ev x:=fun x hx=>ev_congr fun t ht=>hr t (mem_looks (by subst ht;exact hx))
 have h2:callD P run s2 o=some v:=by rw[callD_k hn hev hk h0];exact h
 refine awpl_mono ?_ (callD_sound (ops:=ops) hrun hg h2 s2 rfl rfl (fun _ _=>rfl))
 rintro s3 rfl
 exact applyE_put
theorem ql_guard{P:Program}{ops:Array Oper}{s:St}{o:Oper}{v:AV}{j:Nat}{b:Bool}(hg:o.guard=some (j,b))(hb:gtO (obind ops[j]? Oper.dst) s.tm=some (.d (.v (.bool b))))(h:QL P ops {o with guard:=none} s v):QL P ops o s v:=
 lop_guard (q:=⟨{o with guard:=none},⟨dstW o.dst v,[]⟩,({o with guard:=none}:Oper).looksAt ops,opsK s o.op.operands.toList,[]⟩) hg rfl rfl hb h
theorem callQ_l{R:Type}{P:Program}{ck:CallK}(hck:CallOk P ck){ops:Array Oper}{s:SSt}{o:Oper}{c:Call}{k:SV→Option R}{r:R}(hg:o.guard=none)(ho:o.op= .call c)(hic:isCallO o.op=true)(h0:noKeys P s.toSt o=true)(h:callQ P ck s o.dst c k=some r): ∃v,QL P ops o s.toSt v.toAV∧k v=some r:=by
 unfold callQ at h
 split at h
 ·rename_i f vs hgo
  split at h
  ·rename_i fn hfn
   split at h
   ·rename_i hk
    split at h
    ·rename_i hc
     simp only[Bool.and_eq_true]at hc
     have hks:reachK s.toSt.hp 64 (keysVs ((SV.toAVs vs).filter notOwn)) []= []:=List.isEmpty_iff.1 hc.1
     obtain⟨v,BS,hl,hcall,hn⟩:=hck _ _ _ _ _ _ h
     unfold callQN at hn
     split at hn
     ·rename_i v' hd
      split at hn
      ·rename_i hf
       refine⟨_,?_,hn⟩
       rw[argsS_img]at hcall
       refine ql_call (run1_ok (by simp) hcall) hg h0 (v:=(renS (backF [] 16 0) v').toAV) ?_
       have hd':=datLastS_img hd
       rw[renS_img]
       unfold callD
       rw[if_pos hic,ho]
       simp only[opCall,callD0,goS_img hgo,callD1,hfn,callD2]
       rw[okDst_img,if_pos hk,hks]
       simp only[callD3,callD4]
       have hb:pickB (fun x=>posOf x []) s.toSt.hp []=some []:=rfl
       rw[hb]
       simp only[callD5]
       rw[if_pos (by simp[nodupB];simpa using hc.2)]
       have:(run1 f (argsA P s.toSt [] (rmK [] (keysVs (List.filter isOwn (SV.toAVs vs)))) fn.params.toList (SV.toAVs vs)) (List.map SB.toB []) v.toAV (List.map SB.toB BS)) f (argsA P s.toSt [] (rmK [] (keysVs (List.filter isOwn (SV.toAVs vs)))) fn.params.toList (SV.toAVs vs)) []=some (v.toAV,BS.map SB.toB):=run1_self
       rw[this]
       simp only[callD6,List.length_map,List.length_nil,Nat.sub_zero,hd',callD7,List.map_nil,sameK,Bool.true_and,List.all_nil,Bool.and_true]
       rw[if_pos hf]
       congr 1
      ·cases hn
     ·cases hn
    ·cases h
   ·cases h
  ·cases h
 ·cases h
theorem headV_l{R:Type}{P:Program}{ck:CallK}(hck:CallOk P ck){ops:Array Oper}{s:SSt}{o:Oper}{k:SV→Option R}{r:R}(hg:o.guard=none)(h0:noKeys P s.toSt o=true)(h:headV P ck s o k=some r): ∃v,QL P ops o s.toSt v.toAV∧k v=some r:=by
 unfold headV at h
 split at h
 ·rename_i hd
  split at h
  ·rename_i hic
   split at h
   ·rename_i c ho;exact callQ_l hck hg ho hic h0 h
   ·cases h
  ·split at h
   ·rename_i x hv
    obtain⟨ob,v⟩:=x
    unfold obV at h
    cases ob with
    |false=>cases h
    |true=>
     obtain⟨u,h1,h2⟩:=valS_sound hv rfl
     refine⟨v,lop_le (ql_step (v:=u) ?_) h2,h⟩
     unfold stepV
     rw[okDst_img,hd,hg]
     simpa using h1
   ·cases h
 ·cases h
theorem headSkip_l{P:Program}{ops:Array Oper}{s:SSt}{o:Oper}{j t:Nat}{want:Bool}(hg:o.guard=some (j,want))(ht:obind ops[j]? Oper.dst=some t)(hd:s.okDst o.dst=true)
  (hb:gt t s.toSt.tm=some (.tup [])∨ ∃b,gt t s.toSt.tm=some (.d (.v (.bool b)))∧b≠want):QL P ops o s.toSt (SV.tup []).toAV:=by
 refine ql_step ?_
 unfold stepV
 rw[okDst_img,hd,hg]
 simp only[ht,gtO]
 rcases hb with hb|⟨b,hb,hne⟩
 ·rw[hb];simp[SV.toAV,SV.toAVs]
 ·rw[hb];simp only[if_neg hne];simp[SV.toAV,SV.toAVs]
theorem headG_l{R:Type}{P:Program}{ck:CallK}(hck:CallOk P ck){ops:Array Oper}{s:SSt}{o:Oper}{k:SV→Option R}{r:R}{j t:Nat}{b want:Bool}(h0:noKeys P s.toSt o=true)(hg:o.guard=some (j,want))(ht:obind ops[j]? Oper.dst=some t)
  (hb:gt t s.toSt.tm=some (.d (.v (.bool b))))(h:headG P ck s o b want k=some r): ∃v,QL P ops o s.toSt v.toAV∧k v=some r:=by
 unfold headG at h
 split at h
 ·rename_i hbw
  subst hbw
  obtain⟨v,h1,h2⟩:=headV_l (ops:=ops) hck rfl (by exact h0) h
  exact⟨v,ql_guard hg (by rw[ht];exact hb) h1,h2⟩
 ·rename_i hbw
  split at h
  ·rename_i hd;exact⟨_,headSkip_l hg ht hd (.inr ⟨b,hb,hbw⟩),h⟩
  ·cases h
theorem headK_l{R:Type}{P:Program}{ck:CallK}(hck:CallOk P ck){ops:Array Oper}{s:SSt}{o:Oper}{k:SSt→SV→Option R}{r:R}(h0:noKeys P s.toSt o=true)(h:headK P ck ops s o k=some r): ∃s' v,s'.toSt=s.toSt∧QL P ops o s.toSt v.toAV∧k s' v=some r:=by
 unfold headK at h
 split at h
 ·rename_i hg
  obtain⟨v,h1,h2⟩:=headV_l (ops:=ops) hck hg h0 h
  exact⟨s,v,rfl,h1,h2⟩
 ·rename_i j want hg
  split at h
  ·rename_i t ht
   have slot: ∀ {v:SV},gt t s.tm=some v→gt t s.toSt.tm=some v.toAV:=fun hv=>by simp only[SSt.toSt,gt_mapk,hv,Option.map_some]
   split at h
   ·rename_i b hb
    obtain⟨v,h1,h2⟩:=headG_l hck h0 hg ht (slot hb) h
    exact⟨s,v,rfl,h1,h2⟩
   ·rename_i hb
    split at h
    ·rename_i hd;exact⟨s,_,rfl,headSkip_l hg ht hd (.inl (by have:=slot hb;simpa only[SV.toAV,SV.toAVs]using this)),h⟩
    ·cases h
   ·rename_i x hb
    have hk:=know_img hb
    have hs:gt t (s.know t x).toSt.tm=some (.d (.v (.bool x))):=by rw[hk];exact slot hb
    cases x with
    |true=>
     obtain⟨v,h1,h2⟩:=headG_l hck (by rw[hk];exact h0) hg ht hs h
     exact⟨_,v,hk,by rw[hk]at h1;exact h1,h2⟩
    |false=>
     obtain⟨v,h1,h2⟩:=headG_l hck (by rw[hk];exact h0) hg ht hs h
     exact⟨_,v,hk,by rw[hk]at h1;exact h1,h2⟩
   ·cases h
  ·cases h
def ptrT(P:Program)(t:TypeId):Bool:=match P.underlying t with|some (.pointer _)=>true|_=>false
def makesO(P:Program)(o:Oper):Bool:=match o.guard with
 |none=>if isCallO o.op then match o.op with
  | .call c=>match c.callee with
   | .value (.func f)=>match P.funcs[f]? with
    |some fn=>fn.resultTypes.toList.any (ptrT P)
    |none=>false
   |_=>false
  |_=>false
  else false
 |some _=>false
def ownF(fl:FuncId→Bool)(o:Oper):Bool:=match o.guard with
 |none=>match o.op with
  | .call c=>match c.callee with
   | .value (.func f)=>fl (8000000+f)
   |_=>false
  |_=>false
 |some _=>false
def valLoc(ops:Array Oper)(s:SSt)(o:Oper)(v:SV):Loc:=⟨o,⟨dstW o.dst v.toAV,[]⟩,o.looksAt ops,opsK s.toSt o.op.operands.toList,[]⟩
theorem valSt_img{ops:Array Oper}{s:SSt}{o:Oper}{v:SV}:(s.put o.dst v).toSt=applyE s.toSt (valLoc ops s o v).e:=by
 unfold valLoc
 cases o.dst<;>simp only[applyE,dstW,insL,SSt.put,SSt.toSt,ins_mapk]
def handLoc(ops:Array Oper)(s:SSt)(o:Oper)(ks:List Nat)(q:Nat)(v:SV)(BS:List SB):Loc:=
 ⟨o,⟨dstW o.dst (renS (backF ks q BS.length) v).toAV,mapk SB.toB (backS (backK ks q) (backF ks q BS.length) 0 BS)⟩,o.looksAt ops,opsK s.toSt o.op.operands.toList++ks,rowKeys s.toSt.hp ks++newKeys ks q BS.length⟩
def handSt(s:SSt)(o:Oper)(ks:List Nat)(q:Nat)(v:SV)(BS:List SB):SSt:=
 {s.put o.dst (renS (backF ks q BS.length) v)with hp:=insL (backS (backK ks q) (backF ks q BS.length) 0 BS) s.hp}
theorem handSt_img{ops:Array Oper}{s:SSt}{o:Oper}{ks:List Nat}{q:Nat}{v:SV}{BS:List SB}:(handSt s o ks q v BS).toSt=applyE s.toSt (handLoc ops s o ks q v BS).e:=by
 unfold handSt handLoc
 cases o.dst<;>simp only[applyE,dstW,insL,SSt.put,SSt.toSt,insL_mapk,ins_mapk]
def handKs(s:SSt)(vs:List SV):List Nat:=reachK s.toSt.hp 64 (keysVs ((SV.toAVs vs).filter notOwn)) []
def handVs(s:SSt)(vs:List SV):List Nat:=rmK (handKs s vs) (keysVs ((SV.toAVs vs).filter isOwn))
def handK{R:Type}(P:Program)(ck:CallK)(s:SSt)(o:Oper)(k:List Nat→SV→List SB→Option R):Option R:=
 match o.op with
 | .call c=>match goS P s c with
  |some (f,vs)=>match P.funcs[f]? with
   |some fn=>if fnOk fn&&s.okDst o.dst then
     match pickBS (posOf · (handKs s vs)) s.hp (handKs s vs)with
     |some bs=>if(nodupB (handKs s vs)&&(handVs s vs).all (fun κ=>(gt κ s.toSt.hp).isSome))&&(decide ((handKs s vs).length≤16)&&(handKs s vs).all (fun κ=>decide (κ<maxK s.toSt.hp (16+s.n))))then
       ck R f (argsS P s (handKs s vs) (handVs s vs) fn.params.toList vs) bs (fun v BS=>if(handVs s vs).isEmpty||(flatV v.toAV&&(BS.map SB.toB).all flatB)then k (handKs s vs) v BS else none)
      else none
     |none=>none
    else none
   |none=>none
  |none=>none
 |_=>none
theorem handK_ok{R:Type}{P:Program}{ck:CallK}(hck:CallOk P ck){ops:Array Oper}{s:SSt}{o:Oper}{k:List Nat→SV→List SB→Option R}{r:R}(hg:o.guard=none)(h:handK P ck s o k=some r):
  ∃ks v BS,LOp P ops s.toSt (handLoc ops s o ks (maxK s.toSt.hp (16+s.n)) v BS)∧k ks v BS=some r:=by
 unfold handK at h
 split at h
 ·rename_i c ho
  split at h
  ·rename_i f vs hgo
   split at h
   ·rename_i fn hfn
    split at h
    ·rename_i hk
     simp only[Bool.and_eq_true]at hk
     split at h
     ·rename_i bs hb
      split at h
      ·rename_i hc
       simp only[Bool.and_eq_true,decide_eq_true_eq,List.all_eq_true]at hc
       obtain⟨⟨hc1,hcV⟩,hc2⟩:=hc
       obtain⟨v,BS,hl,hcall,hn⟩:=hck _ _ _ _ _ _ h
       split at hn
       ·rename_i hfl
        refine⟨_,v,BS,?_,hn⟩
        rw[argsS_img]at hcall
        have:=lop_handV (ops:=ops) hg ho (isFn_of hfn hk.1) (goS_img hgo) (by rw[okDst_img];exact hk.2) (q:=maxK s.toSt.hp (16+s.n)) (Nat.le_trans (Nat.le_add_right 16 s.n) (maxK_le _ _)) (nodupB_get hc1) hc2.1 (fun κ hκ=>hc2.2 κ hκ) (pickBS_img hb) (by simpa using hl)
         (fun κ hκ=>⟨keysVs_filter (List.mem_filter.1 hκ).1,fun hin=>by have:=(List.mem_filter.1 hκ).2;simp[hin]at this,hcV κ hκ⟩)
         (by
          rcases Bool.or_eq_true_iff.1 hfl with e|e
          ·exact .inl (List.isEmpty_iff.1 e)
          ·rw[Bool.and_eq_true]at e
           exact .inr ⟨e.1,fun B hB=>List.all_eq_true.1 e.2 B hB⟩) hcall
        simpa only[handLoc,renS_img,backS_img,List.length_map]using this
       ·cases hn
      ·cases h
     ·cases h
    ·cases h
   ·cases h
  ·cases h
 ·cases h
theorem lop_blkH{P:Program}{ops:Array Oper}{s:St}{o:Oper}{k:Bool}{κ:Nat}{B0 B:Blk}{v:AV}(hg:o.guard=none)(h:blkE P s o=some (k,κ,B0,v))(hok:s.okDst o.dst=true)(hle:BLe B0 B):LOp P ops s (blkLocH ops s o (k,κ,B,v)):=by
 refine lopLe_iff fun s2 hn hr hk hn1 hn2=> ?_
 refine awpl_mono ?_ (lop_blkH0 (ops:=ops) hg h hok s2 hn hr hk (fun t w hw=>hn1 t w hw) (fun j C hC=>by
  have:=hn2 j C hC
  simp only[blkLocH,gt]at this ⊢
  split<;>simp_all))
 intro s3 hs3
 refine LeSt.trans ?_ (sub_le hs3)
 have hB0:gt κ (applyE s2 (blkLocH ops s o (k,κ,B0,v)).e).hp=some B0:=by simp only[applyE,blkLocH,gt_insL,gt,if_true]
 have hs:Sub (applyE s2 (blkLocH ops s o (k,κ,B,v)).e) {applyE s2 (blkLocH ops s o (k,κ,B0,v)).e with hp:=ins κ B (applyE s2 (blkLocH ops s o (k,κ,B0,v)).e).hp}:=by
  refine⟨rfl,fun t u hu=> .inr hu,fun j C hC=> ?_⟩
  simp only[applyE,blkLocH,gt_ins,gt_insL,gt]at hC ⊢
  split
  ·rename_i e;rw[if_pos e]at hC;exact hC
  ·rename_i e;rw[if_neg e]at hC;exact hC
 exact LeSt.trans (sub_le hs) (le_blk hB0 hle)
def blkLocS(ops:Array Oper)(s:SSt)(o:Oper)(x:BlkR):Loc:=blkLocH ops s.toSt o (x.kill,x.κ,x.B.toB,x.v.toAV)
def namesS(κ:Nat)(l:List (Nat×SV)):List (Nat×SV):=(l.filter fun p=>nm [κ] p.2.toAV).map fun p=>(p.1,.bot)
theorem namesS_img(κ:Nat): ∀l:List (Nat×SV),mapk SV.toAV (namesS κ l)=((mapk SV.toAV l).filter fun p=>nm [κ] p.2).map fun p=>(p.1,AV.bot)
 | []=>rfl
 |(t,v)::l=>by
  have ih:=namesS_img κ l
  unfold namesS at ih ⊢
  simp only[List.filter_cons,mapk]
  split
  ·simp only[List.map_cons,mapk,SV.toAV,ih]
  ·exact ih
def namesHS(κ:Nat)(hp:List (Nat×SB)):List (Nat×SB):=(hp.map (·.1)).filterMap fun j=>if j=κ then none else match gt j hp with
 |some C=>if nmB [κ] C.toB then some (j,killSB κ C)else none
 |none=>none
theorem mapk_fst{α β:Type}(f:α→β): ∀l:List (Nat×α),(mapk f l).map (·.1)=l.map (·.1)
 | []=>rfl
 |(k,v)::l=>by simp only[mapk,List.map_cons,mapk_fst f l]
theorem mapk_filterMap{α β:Type}(f:α→β)(g:Nat→Option (Nat×α))(h:Nat→Option (Nat×β))(hgh: ∀j,h j=(g j).map fun p=>(p.1,f p.2)): ∀l:List Nat,mapk f (l.filterMap g)=l.filterMap h
 | []=>rfl
 |j::l=>by
  have ih:=mapk_filterMap f g h hgh l
  cases hg:g j with
  |none=>rw[List.filterMap_cons_none hg,List.filterMap_cons_none (by rw[hgh,hg];rfl),ih]
  |some p=>rw[List.filterMap_cons_some hg,List.filterMap_cons_some (by rw[hgh,hg];rfl)];simp only[mapk,ih]
theorem namesHS_img(κ:Nat)(s:SSt):mapk SB.toB (namesHS κ s.hp)=namesH s.toSt κ:=by
 unfold namesHS namesH
 simp only[SSt.toSt,mapk_fst]
 refine mapk_filterMap _ _ _ (fun j=> ?_) _
 rw[gt_mapk]
 split
 ·rfl
 ·cases gt j s.hp with
  |none=>rfl
  |some C=>
   simp only[Option.map_some]
   split
   ·simp only[Option.map_some,killSB_img]
   ·rfl
def blkSt(s:SSt)(o:Oper)(x:BlkR):SSt:=
 {s with tm:=(match o.dst with|some d=>ins d x.v (insL (if x.kill then namesS x.κ s.tm else []) s.tm)|none=>insL (if x.kill then namesS x.κ s.tm else []) s.tm),hp:=ins x.κ x.B (insL (if x.kill then namesHS x.κ s.hp else []) s.hp)}
theorem blkSt_img{ops:Array Oper}{s:SSt}{o:Oper}{x:BlkR}:(blkSt s o x).toSt=applyE s.toSt (blkLocS ops s o x).e:=by
 unfold blkSt blkLocS blkLocH
 have e:=namesHS_img x.κ s
 cases hd:o.dst<;>cases hk:x.kill<;>simp only[applyE,dstW,insL,SSt.toSt,insL_mapk,ins_mapk,List.nil_append,List.cons_append,Bool.false_eq_true,if_false,if_true,namesS_img,namesW]<;>rw[e]<;>rfl
def blkK{R:Type}(P:Program)(s:SSt)(o:Oper)(k:BlkR→Option R):Option R:=
 match blkS P s o with
 |some x=>cond (x.ob&&s.okDst o.dst) (k x) none
 |none=>none
theorem blkK_ok{R:Type}{P:Program}{ops:Array Oper}{s:SSt}{o:Oper}{k:BlkR→Option R}{r:R}(hg:o.guard=none)(h:blkK P s o k=some r): ∃x,LOp P ops s.toSt (blkLocS ops s o x)∧k x=some r:=by
 unfold blkK at h
 split at h
 ·rename_i x hx
  cases hc:x.ob&&s.okDst o.dst with
  |false=>rw[hc]at h;cases h
  |true=>
   rw[hc]at h
   simp only[Bool.and_eq_true]at hc
   obtain⟨B0,h1,h2⟩:=blkS_img hx hc.1
   exact⟨x,lop_blkH (ops:=ops) hg h1 (by rw[okDst_img];exact hc.2) h2,h⟩
 ·cases h
def isInvO:Op→Bool
 | .call c=>match c.callee with
  | .invoke _ _=>true
  |_=>false
 |_=>false
def Sh.dec:(s:Sh)→DecidableEq s.T
 | .i _=>inferInstanceAs (DecidableEq Int)
 | .b=>inferInstanceAs (DecidableEq Bool)
 | .s=>inferInstanceAs (DecidableEq ByteArray)
 | .ints _=>inferInstanceAs (DecidableEq (List Int))
 | .intc _=>inferInstanceAs (DecidableEq (List Int×Nat))
 | .row e=> @instDecidableEqList _ e.dec
 | .nil=>inferInstanceAs (DecidableEq Unit)
 | .cons h t=> @instDecidableEqProd _ _ h.dec t.dec
def pkVal:Value→Value→Bool
 | .int k x,.int k' y=>decide (k=k')&&decide (x=y)
 | .bool x,.bool y=>decide (x=y)
 | .nilIface,.nilIface=>true
 | .nilFunc,.nilFunc=>true
 | .slice none 0 0,.slice none 0 0=>true
 | .pointer none,.pointer none=>true
 | .map none,.map none=>true
 | .string x,.string y=>decide (x=y)
 |_,_=>false
theorem pkVal_ok{a b:Value}(h:pkVal a b=true):a=b:=by
 unfold pkVal at h
 split at h<;>first|rfl|(cases h;done)|(simp only[Bool.and_eq_true,decide_eq_true_eq]at h;first|(obtain⟨rfl,rfl⟩:=h;rfl)|(subst h;rfl))
mutual
def pkDat:D→D→Bool
 | .v x,.v y=>pkVal x y
 | .ints k xs c,.ints k' ys c'=>decide (k=k')&&(decide (c=c')&&decide (xs=ys))
 | .agg l,.agg l'=>pkDats l l'
 |_,_=>false
termination_by structural x=>x
def pkDats:List D→List D→Bool
 | [],[]=>true
 |x::l,y::l'=>pkDat x y&&pkDats l l'
 |_,_=>false
termination_by structural x=>x
end
mutual
theorem pkDat_ok: ∀ {a b:D},pkDat a b=true→a=b
 | .v x,b,h=>by
  cases b<;>simp only[pkDat]at h
  ·rw[pkVal_ok h]
  all_goals cases h
 | .ints k xs c,b,h=>by
  cases b<;>simp only[pkDat]at h
  case ints=>simp only[Bool.and_eq_true,decide_eq_true_eq]at h;obtain⟨rfl,rfl,rfl⟩:=h;rfl
  all_goals cases h
 | .agg l,b,h=>by
  cases b<;>simp only[pkDat]at h
  case agg=>rw[pkDats_ok h]
  all_goals cases h
 | .sl n l c,b,h=>by
  cases b<;>simp only[pkDat]at h
  all_goals cases h
theorem pkDats_ok: ∀ {a b:List D},pkDats a b=true→a=b
 | [],b,h=>by cases b<;>simp only[pkDats]at h;rfl;cases h
 |x::l,b,h=>by
  cases b<;>simp only[pkDats]at h
  ·cases h
  ·simp only[Bool.and_eq_true]at h;rw[pkDat_ok h.1,pkDats_ok h.2]
end
def pkWr:Wr→Wr→Bool
 | .ifc a,.ifc b=>decide (a=b)
 | .mth a,.mth b=>decide (a=b)
 | .sl a,.sl b=>decide (a=b)
 | .at_ a,.at_ b=>decide (a=b)
 |_,_=>false
theorem pkWr_ok{a b:Wr}(h:pkWr a b=true):a=b:=by
 cases a<;>cases b<;>simp[pkWr]at h<;>subst h<;>rfl
def rowEq(e:Sh)(xs ys:List e.T):Bool:= @decide (xs=ys) (@instDecidableEqList _ e.dec xs ys)
theorem rowEq_ok{e:Sh}{xs ys:List e.T}(h:rowEq e xs ys=true):xs=ys:= @of_decide_eq_true _ (@instDecidableEqList _ e.dec xs ys) h
def boolEq(x y:Bool):Bool:=decide (x=y)
theorem boolEq_ok{x y:Bool}(h:boolEq x y=true):x=y:=of_decide_eq_true h
mutual
def pkSV:SV→SV→Bool
 | .d x,.d y=>pkDat x y
 | .d (.v (.int k x)),.i k' y=>decide (k=k')&&decide (x=y)
 | .i k x,.d (.v (.int k' y))=>decide (k=k')&&decide (x=y)
 | .i k x,.i k' y=>decide (k=k')&&decide (x=y)
 | .b x,.b y=>boolEq x y
 | .b x,.d (.v (.bool y))=>boolEq x y
 | .d (.v (.bool x)),.b y=>boolEq x y
 | .s x,.s y=>decide (x=y)
 | .ints k xs c,.ints k' ys c'=>decide (k=k')&&(decide (c=c')&&decide (xs=ys))
 | .row e xs c,.row e' ys c'=>match castSh e e' xs with
  |some zs=>decide (c=c')&&rowEq e' zs ys
  |none=>false
 | .ptr a b,.ptr a' b'=>decide (a=a')&&decide (b=b')
 | .own a,.own a'=>decide (a=a')
 | .agg l,.agg l'=>pkSVs l l'
 | .clos f l,.clos f' l'=>decide (f=f')&&pkSVs l l'
 | .wrap k v,.wrap k' v'=>pkWr k k'&&pkSV v v'
 |_,_=>false
termination_by structural x=>x
def pkSVs:List SV→List SV→Bool
 | [],[]=>true
 |x::l,y::l'=>pkSV x y&&pkSVs l l'
 |_,_=>false
termination_by structural x=>x
end
mutual
theorem pkSV_ok: ∀ {a b:SV},pkSV a b=true→a.toAV=b.toAV
 | .d x,b,h=>by
  cases b with
  |d y=>simp only[pkSV]at h;rw[pkDat_ok h]
  |i k y=>cases x with
   |v u=>cases u<;>simp only[pkSV]at h<;>first|(cases h;done)|(simp only[Bool.and_eq_true,decide_eq_true_eq]at h;obtain⟨rfl,rfl⟩:=h;rfl)
   |_=>simp[pkSV]at h
  |b y=>cases x with
   |v u=>cases u<;>simp only[pkSV]at h<;>first|(cases h;done)|(have h:=boolEq_ok h;subst h;rfl)
   |_=>simp[pkSV]at h
  |_=>cases x with
   |v u=>cases u<;>simp[pkSV]at h
   |_=>simp[pkSV]at h
 | .i k x,b,h=>by
  cases b with
  |d y=>cases y with
   |v u=>cases u<;>simp only[pkSV]at h<;>first|(cases h;done)|(simp only[Bool.and_eq_true,decide_eq_true_eq]at h;obtain⟨rfl,rfl⟩:=h;rfl)
   |_=>simp[pkSV]at h
  |i k' y=>simp only[pkSV,Bool.and_eq_true,decide_eq_true_eq]at h;obtain⟨rfl,rfl⟩:=h;rfl
  |_=>simp[pkSV]at h
 | .b x,b,h=>by
  cases b with
  |d y=>cases y with
   |v u=>cases u<;>simp only[pkSV]at h<;>first|(cases h;done)|(have h:=boolEq_ok h;subst h;rfl)
   |_=>simp[pkSV]at h
  |b y=>simp only[pkSV]at h;have h:=boolEq_ok h;subst h;rfl
  |_=>simp[pkSV]at h
 | .s x,b,h=>by
  cases b with
  |s y=>simp only[pkSV,decide_eq_true_eq]at h;subst h;rfl
  |_=>simp[pkSV]at h
 | .ints k xs c,b,h=>by
  cases b with
  |ints k' ys c'=>simp only[pkSV,Bool.and_eq_true,decide_eq_true_eq]at h;obtain⟨rfl,rfl,rfl⟩:=h;rfl
  |_=>simp[pkSV]at h
 | .row e xs c,b,h=>by
  cases b with
  |row e' ys c'=>
   simp only[pkSV]at h
   split at h
   ·rename_i zs hz
    simp only[Bool.and_eq_true,decide_eq_true_eq]at h
    obtain⟨rfl,h0⟩:=h
    have h0:=rowEq_ok h0
    subst h0
    obtain⟨h1,h2⟩:=castSh_some hz
    simp only[SV.toAV,h1,h2]
   ·cases h
  |_=>simp[pkSV]at h
 | .ptr x y,b,h=>by
  cases b with
  |ptr x' y'=>simp only[pkSV,Bool.and_eq_true,decide_eq_true_eq]at h;obtain⟨rfl,rfl⟩:=h;rfl
  |_=>simp[pkSV]at h
 | .own x,b,h=>by
  cases b with
  |own x'=>simp only[pkSV,decide_eq_true_eq]at h;subst h;rfl
  |_=>simp[pkSV]at h
 | .agg l,b,h=>by
  cases b with
  |agg l'=>simp only[pkSV]at h;simp only[SV.toAV,pkSVs_ok h]
  |_=>simp[pkSV]at h
 | .clos f l,b,h=>by
  cases b with
  |clos f' l'=>simp only[pkSV,Bool.and_eq_true,decide_eq_true_eq]at h;obtain⟨rfl,h⟩:=h;simp only[SV.toAV,pkSVs_ok h]
  |_=>simp[pkSV]at h
 | .wrap k v,b,h=>by
  cases b with
  |wrap k' v'=>simp only[pkSV,Bool.and_eq_true]at h;obtain⟨h1,h⟩:=h;simp only[SV.toAV,pkSV_ok h,pkWr_ok h1]
  |_=>simp[pkSV]at h
 | .pel _ _ _ _,b,h=>by cases b<;>simp[pkSV]at h
 | .aptr _ _,b,h=>by cases b<;>simp[pkSV]at h
 | .eaddr _,b,h=>by cases b<;>simp[pkSV]at h
 | .tup _,b,h=>by cases b<;>simp[pkSV]at h
 | .bot,b,h=>by cases b<;>simp[pkSV]at h
theorem pkSVs_ok: ∀ {a b:List SV},pkSVs a b=true→SV.toAVs a=SV.toAVs b
 | [],b,h=>by cases b<;>simp only[pkSVs]at h;rfl;cases h
 |x::l,b,h=>by
  cases b<;>simp only[pkSVs]at h
  ·cases h
  ·simp only[Bool.and_eq_true]at h;simp only[SV.toAVs,pkSV_ok h.1,pkSVs_ok h.2]
end
def pkCell{R:Type}(x y:SV)(k:Option R):Option R:=
 match x,y with
 | .i a x,.i b y=>cond (decide (a=b)) (cond (decide (x=y)) k none) none
 | .b x,.b y=>cond (boolEq x y) k none
 | .ints a xs c,.ints b ys c'=>cond (decide (a=b)) (cond (decide (c=c')) (cond (decide (xs=ys)) k none) none) none
 | .row e xs c,.row e' ys c'=>match castSh e e' xs with
  |some zs=>cond (decide (c=c')) (cond (rowEq e' zs ys) k none) none
  |none=>none
 |x,y=>cond (pkSV x y) k none
theorem cond_some{R:Type}{b:Bool}{k:Option R}{r:R}(h:cond b k none=some r):b=true∧k=some r:=by
 cases b with
 |false=>cases h
 |true=>exact⟨rfl,h⟩
theorem pkCell_ok{R:Type}{k:Option R}{r:R}{x y:SV}(h:pkCell x y k=some r):x.toAV=y.toAV∧k=some r:=by
 unfold pkCell at h
 split at h
 ·obtain⟨h1,g1⟩:=cond_some h
  obtain⟨h2,g2⟩:=cond_some g1
  refine⟨?_,g2⟩
  rw[of_decide_eq_true h1,of_decide_eq_true h2]
 ·obtain⟨h1,g1⟩:=cond_some h
  refine⟨?_,g1⟩
  rw[boolEq_ok h1]
 ·obtain⟨h1,g1⟩:=cond_some h
  obtain⟨h2,g2⟩:=cond_some g1
  obtain⟨h3,g3⟩:=cond_some g2
  refine⟨?_,g3⟩
  rw[of_decide_eq_true h1,of_decide_eq_true h2,of_decide_eq_true h3]
 ·split at h
  ·rename_i zs hz
   obtain⟨h1,g1⟩:=cond_some h
   obtain⟨h2,g2⟩:=cond_some g1
   obtain⟨e1,e2⟩:=castSh_some hz
   refine⟨?_,g2⟩
   simp only[SV.toAV,e1,e2,of_decide_eq_true h1,rowEq_ok h2]
  ·cases h
 ·obtain⟨h1,g1⟩:=cond_some h
  exact⟨pkSV_ok h1,g1⟩
def pkCells{R:Type}:List SV→List SV→Option R→Option R
 | [],[],k=>k
 |x::l,y::l',k=>pkCell x y (pkCells l l' k)
 |_,_,_=>none
theorem pkCells_ok{R:Type}{k:Option R}{r:R}: ∀ {l l':List SV},pkCells l l' k=some r→SV.toAVs l=SV.toAVs l'∧k=some r
 | [],[],h=>⟨rfl,h⟩
 | [],_::_,h=>by simp[pkCells]at h
 |_::_,[],h=>by simp[pkCells]at h
 |x::l,y::l',h=>by
  simp only[pkCells]at h
  obtain⟨h0,h⟩:=pkCell_ok h
  obtain⟨h1,h2⟩:=pkCells_ok h
  exact⟨by simp only[SV.toAVs,h0,h1],h2⟩
def pkBlk{R:Type}:SB→SB→Option R→Option R
 | .box e l,.box e' l',k=>cond (decide (e=e')) (pkCells l l' k) none
 |_,_,_=>none
theorem pkBlk_ok{R:Type}{k:Option R}{r:R}{a b:SB}(h:pkBlk a b k=some r):a.toB=b.toB∧k=some r:=by
 cases a<;>cases b<;>simp only[pkBlk]at h<;>first|(cases h;done)|skip
 rename_i e l e' l'
 cases hc:decide (e=e')with
 |false=>rw[hc]at h;cases h
 |true=>
  rw[hc]at h
  obtain⟨h1,h2⟩:=pkCells_ok h
  have:=of_decide_eq_true hc
  exact⟨by simp only[SB.toB,h1,this],h2⟩
def pkHp{R:Type}(ks:List Nat)(hp:List (Nat×SB)):List (Nat×SB)→Option R→Option R
 | [],k=>k
 |(κ,B)::l,k=>cond (ks.contains κ) (match gt κ hp with|some B'=>pkBlk B B' (pkHp ks hp l k)|none=>none) none
theorem pkHp_ok{R:Type}{k:Option R}{r:R}{ks:List Nat}{hp:List (Nat×SB)}: ∀ {l:List (Nat×SB)},pkHp ks hp l k=some r→(∀κ B,gt κ (mapk SB.toB l)=some B→κ∈ks∧gt κ (mapk SB.toB hp)=some B)∧k=some r
 | [],h=>⟨fun κ B hg=>by simp[mapk,gt]at hg,h⟩
 |(κ',B')::l,h=>by
  simp only[pkHp]at h
  cases hc:ks.contains κ' with
  |false=>rw[hc]at h;cases h
  |true=>
   rw[hc]at h
   simp only[cond_true]at h
   split at h
   ·rename_i C hC
    obtain⟨h1,h2⟩:=pkBlk_ok h
    obtain⟨h3,h4⟩:=pkHp_ok h2
    refine⟨fun κ B hg=> ?_,h4⟩
    simp only[mapk,gt]at hg
    split at hg
    ·rename_i e
     subst e
     cases hg
     exact⟨by simpa using hc,by rw[gt_mapk,hC,Option.map_some,h1]⟩
    ·exact h3 κ B hg
   ·cases h
theorem lop_peek{P:Program}{ops:Array Oper}{s:St}{q:Loc}(h:LOp P ops s q)(hk:q.kill= [])(hH: ∀κ B,gt κ q.e.H=some B→κ∈q.keys∧gt κ s.hp=some B):LOp P ops s {q with e:=⟨q.e.W,[]⟩}:=by
 intro s2 h1 h2 h3 h4 h5
 refine awpl_mono ?_ (h s2 h1 h2 h3 (fun t v _=> .inr (by rw[hk];simp[nm])) (fun κ B _=> .inr (by rw[hk];simp[nmB])))
 intro s3 hs3
 refine Sub.trans (b:=applyE s2 q.e) ⟨rfl,fun t v hv=> .inr hv,fun κ B hB=> ?_⟩ hs3
 simp only[applyE,gt_insL,gt]at hB ⊢
 cases hg:gt κ q.e.H with
 |none=>exact hB
 |some C=>
  obtain⟨e1,e2⟩:=hH κ C hg
  rw[h3 κ e1,e2]at hB
  exact hB
def peekO(fl:FuncId→Bool)(o:Oper):Bool:=match o.guard with
 |none=>match o.op with
  | .call c=>match c.callee with
   | .value (.func f)=>fl (13000000+f)
   |_=>false
  |_=>false
 |some _=>false
theorem peek_guard{fl:FuncId→Bool}{o:Oper}(h:peekO fl o=true):o.guard=none:=by
 unfold peekO at h
 split at h
 ·rename_i hg;exact hg
 ·cases h
def peekLoc(ops:Array Oper)(s:SSt)(o:Oper)(ks:List Nat)(q:Nat)(v:SV)(BS:List SB):Loc:=
 {handLoc ops s o ks q v BS with e:=⟨(handLoc ops s o ks q v BS).e.W,[]⟩}
def peekHK{R:Type}(P:Program)(ck:CallK)(ops:Array Oper)(s:SSt)(o:Oper)(k:Loc→SSt→Option R):Option R:=
 handK P ck s o fun ks v BS=>
  cond (handLoc ops s o ks (maxK s.toSt.hp (16+s.n)) v BS).kill.isEmpty
   (pkHp ks s.hp (backS (backK ks (maxK s.toSt.hp (16+s.n))) (backF ks (maxK s.toSt.hp (16+s.n)) BS.length) 0 BS)
    (k (peekLoc ops s o ks (maxK s.toSt.hp (16+s.n)) v BS) (s.put o.dst (renS (backF ks (maxK s.toSt.hp (16+s.n)) BS.length) v)))) none
theorem peekHK_ok{R:Type}{P:Program}{ck:CallK}(hck:CallOk P ck){ops:Array Oper}{s:SSt}{o:Oper}{k:Loc→SSt→Option R}{r:R}(hg:o.guard=none)(h:peekHK P ck ops s o k=some r):
  ∃q s2,LOp P ops s.toSt q∧q.o=o∧s2.toSt=applyE s.toSt q.e∧k q s2=some r:=by
 unfold peekHK at h
 obtain⟨ks,v,BS,h1,h2⟩:=handK_ok (ops:=ops) hck hg h
 cases hc:(handLoc ops s o ks (maxK s.toSt.hp (16+s.n)) v BS).kill.isEmpty with
 |false=>rw[hc]at h2;cases h2
 |true=>
  rw[hc]at h2
  obtain⟨h3,h4⟩:=pkHp_ok h2
  refine⟨_,_,lop_peek h1 (List.isEmpty_iff.1 hc) (fun κ B hB=> ?_),rfl,?_,h4⟩
  ·have:=h3 κ B hB
   exact⟨List.mem_append_right _ this.1,this.2⟩
  ·show(s.put o.dst _).toSt=applyE s.toSt ⟨dstW o.dst (renS (backF ks (maxK s.toSt.hp (16+s.n)) BS.length) v).toAV,[]⟩
   cases o.dst<;>simp only[applyE,dstW,insL,SSt.put,SSt.toSt,ins_mapk]
def peekG(fl:FuncId→Bool)(o:Oper):Bool:=match o.guard with
 |some _=>peekO fl {o with guard:=none}
 |none=>false
theorem lop_guardP{P:Program}{ops:Array Oper}{s:St}{q:Loc}{o:Oper}{j t:Nat}{b:Bool}(hg:o.guard=some (j,b))(ht:obind ops[j]? Oper.dst=some t)(hb:gt t s.tm=some (.d (.v (.bool b))))(h:LOp P ops s q)(ho:q.o= {o with guard:=none})
  (hr:q.reads=({o with guard:=none}:Oper).looksAt ops):LOp P ops s {q with o:=o,reads:=o.looksAt ops}:=by
 intro s2 h1 h2 h3 h4 h5
 have htl:t∈o.looksAt ops:=List.mem_append_right _ (by have hd':(ops[j]?).bind (·.dst)=some t:=ht
                                                       simp[hg,hd'])
 refine awpl_guard hg (Option.bind_eq_some_iff.2 ⟨t,ht,by rw[h2 t htl];exact hb⟩) ?_
 have key:=h s2 h1 (fun t' ht'=>h2 t' (by
  rw[hr]at ht'
  simp only[Oper.looksAt,List.mem_append]at ht' ⊢
  rcases ht' with h|h
  ·exact .inl h
  ·simp at h)) h3 h4 h5
 rw[ho]at key;exact key
theorem peekHK_ok2{R:Type}{P:Program}{ck:CallK}(hck:CallOk P ck){ops:Array Oper}{s:SSt}{o:Oper}{k:Loc→SSt→Option R}{r:R}(hg:o.guard=none)(h:peekHK P ck ops s o k=some r):
  ∃q s2,LOp P ops s.toSt q∧q.o=o∧q.reads=o.looksAt ops∧s2.toSt=applyE s.toSt q.e∧k q s2=some r:=by
 unfold peekHK at h
 obtain⟨ks,v,BS,h1,h2⟩:=handK_ok (ops:=ops) hck hg h
 cases hc:(handLoc ops s o ks (maxK s.toSt.hp (16+s.n)) v BS).kill.isEmpty with
 |false=>rw[hc]at h2;cases h2
 |true=>
  rw[hc]at h2
  obtain⟨h3,h4⟩:=pkHp_ok h2
  refine⟨_,_,lop_peek h1 (List.isEmpty_iff.1 hc) (fun κ B hB=> ?_),rfl,rfl,?_,h4⟩
  ·have:=h3 κ B hB
   exact⟨List.mem_append_right _ this.1,this.2⟩
  ·show(s.put o.dst _).toSt=applyE s.toSt ⟨dstW o.dst (renS (backF ks (maxK s.toSt.hp (16+s.n)) BS.length) v).toAV,[]⟩
   cases o.dst<;>simp only[applyE,dstW,insL,SSt.put,SSt.toSt,ins_mapk]
def peekG1{R:Type}(P:Program)(ck:CallK)(ops:Array Oper)(s:SSt)(o:Oper)(b want:Bool)(k:SSt→Loc→SSt→Option R):Option R:=
 if b=want then peekHK P ck ops s {o with guard:=none} (fun q s2=>k s {q with o:=o,reads:=o.looksAt ops} s2)
 else if s.okDst o.dst=true then k s (valLoc ops s o (.tup [])) (s.put o.dst (.tup []))else none
def peekGK{R:Type}(P:Program)(ck:CallK)(ops:Array Oper)(s:SSt)(o:Oper)(k:SSt→Loc→SSt→Option R):Option R:=
 match o.guard with
 |none=>none
 |some (j,want)=>match obind ops[j]? Oper.dst with
  |some t=>match gt t s.tm with
   |some (.d (.v (.bool b)))=>peekG1 P ck ops s o b want k
   |some (.tup [])=>if s.okDst o.dst=true then k s (valLoc ops s o (.tup [])) (s.put o.dst (.tup []))else none
   |some (.b x)=>cond x (peekG1 P ck ops (s.know t true) o true want k) (peekG1 P ck ops (s.know t false) o false want k)
   |_=>none
  |none=>none
theorem peekG1_ok{R:Type}{P:Program}{ck:CallK}(hck:CallOk P ck){ops:Array Oper}{s:SSt}{o:Oper}{k:SSt→Loc→SSt→Option R}{r:R}{j t:Nat}{b want:Bool}(hg:o.guard=some (j,want))(ht:obind ops[j]? Oper.dst=some t)
  (hb:gt t s.toSt.tm=some (.d (.v (.bool b))))(h:peekG1 P ck ops s o b want k=some r): ∃q s2,LOp P ops s.toSt q∧q.o=o∧s2.toSt=applyE s.toSt q.e∧k s q s2=some r:=by
 unfold peekG1 at h
 split at h
 ·rename_i hbw
  subst hbw
  obtain⟨q,s2,h1,h2,h3,h4,h5⟩:=peekHK_ok2 (ops:=ops) hck rfl h
  exact⟨_,s2,lop_guardP hg ht hb h1 h2 h3,rfl,h4,h5⟩
 ·rename_i hbw
  split at h
  ·rename_i hd
   exact⟨_,_,headSkip_l hg ht hd (.inr ⟨b,hb,hbw⟩),rfl,valSt_img,h⟩
  ·cases h
theorem peekGK_ok{R:Type}{P:Program}{ck:CallK}(hck:CallOk P ck){ops:Array Oper}{s:SSt}{o:Oper}{k:SSt→Loc→SSt→Option R}{r:R}(h:peekGK P ck ops s o k=some r): ∃s' q s2,s'.toSt=s.toSt∧LOp P ops s.toSt q∧q.o=o∧s2.toSt=applyE s.toSt q.e∧k s' q s2=some r:=by
 unfold peekGK at h
 split at h
 ·cases h
 ·rename_i j want hg
  split at h
  ·rename_i t ht
   have slot: ∀ {v:SV},gt t s.tm=some v→gt t s.toSt.tm=some v.toAV:=fun hv=>by simp only[SSt.toSt,gt_mapk,hv,Option.map_some]
   split at h
   ·rename_i b hb
    obtain⟨q,s2,h1,h2,h3,h4⟩:=peekG1_ok hck hg ht (slot hb) h
    exact⟨s,q,s2,rfl,h1,h2,h3,h4⟩
   ·rename_i hb
    split at h
    ·rename_i hd
     exact⟨s,_,_,rfl,headSkip_l hg ht hd (.inl (by have:=slot hb;simpa only[SV.toAV,SV.toAVs]using this)),rfl,valSt_img,h⟩
    ·cases h
   ·rename_i x hb
    have hk:=know_img hb
    have hs:gt t (s.know t x).toSt.tm=some (.d (.v (.bool x))):=by rw[hk];exact slot hb
    cases x with
    |true=>
     obtain⟨q,s2,h1,h2,h3,h4⟩:=peekG1_ok hck hg ht hs h
     rw[hk]at h1 h3
     exact⟨_,q,s2,hk,h1,h2,h3,h4⟩
    |false=>
     obtain⟨q,s2,h1,h2,h3,h4⟩:=peekG1_ok hck hg ht hs h
     rw[hk]at h1 h3
     exact⟨_,q,s2,hk,h1,h2,h3,h4⟩
   ·cases h
  ·cases h
def locHead(P:Program)(fl:FuncId→Bool)(o:Oper):Bool:=makesO P o||(ownF fl o||(peekO fl o||(peekG fl o||(!valKindO o.op||isInvO o.op))))
def handO(P:Program)(fl:FuncId→Bool)(s:SSt)(o:Oper):Bool:=match o.guard with
 |none=>isCallO o.op&&(makesO P o||(ownF fl o|| !noKeys P s.toSt o))
 |some _=>false
def blkO(o:Oper):Bool:=match o.guard with
 |none=> !valKindO o.op
 |some _=>false
theorem hand_guard{P:Program}{fl:FuncId→Bool}{s:SSt}{o:Oper}(h:handO P fl s o=true):o.guard=none:=by
 unfold handO at h
 split at h
 ·rename_i hg;exact hg
 ·cases h
theorem blk_guard{o:Oper}(h:blkO o=true):o.guard=none:=by
 unfold blkO at h
 split at h
 ·rename_i hg;exact hg
 ·cases h
def pureU(o:Oper):Bool:=o.guard.isNone&&match o.op with
 | .move _=>true
 | .assign _=>true
 | .nilCheck _=>true
 | .fieldAddr _ _ _=>true
 |_=>false
def pureLoc(ops:Array Oper)(o:Oper)(v:SV):Loc:=⟨o,⟨dstW o.dst v.toAV,[]⟩,o.looksAt ops,[],[]⟩
def pureK{R:Type}(P:Program)(s:SSt)(o:Oper)(k:SV→Option R):Option R:=if s.okDst o.dst=true then match valS P s o.op with
  |some r=>obV k r
  |none=>none
 else none
theorem pure_val{P:Program}{s s2:St}{o:Oper}(hp:pureU o=true)(hev: ∀x∈o.op.operands,s2.ev x=s.ev x):valOp P s2 o.op=valOp P s o.op:=by
 unfold pureU at hp
 rw[Bool.and_eq_true]at hp
 have hp2:=hp.2
 split at hp2
 ·rename_i x hx;rw[hx]at hev ⊢;simp only[valOp,hev x (by simp[Op.operands])]
 ·rename_i x hx;rw[hx]at hev ⊢;simp only[valOp,hev x (by simp[Op.operands])]
 ·rename_i x hx;rw[hx]at hev ⊢;simp only[valOp,hev x (by simp[Op.operands])]
 ·rename_i t x i hx;rw[hx]at hev ⊢
  simp only[valOp,hev x (by simp[Op.operands])]
 ·cases hp2
theorem pureK_ok{R:Type}{P:Program}{ops:Array Oper}{s:SSt}{o:Oper}{k:SV→Option R}{r:R}(hp:pureU o=true)(h:pureK P s o k=some r): ∃v,LOp P ops s.toSt (pureLoc ops o v)∧k v=some r:=by
 have hg:o.guard=none:=by
  unfold pureU at hp
  rw[Bool.and_eq_true]at hp
  simpa using hp.1
 unfold pureK at h
 split at h
 ·rename_i hd
  split at h
  ·rename_i x hv
   obtain⟨ob,v⟩:=x
   unfold obV at h
   cases ob with
   |false=>cases h
   |true=>
    obtain⟨u,h1,h2⟩:=valS_sound hv rfl
    refine⟨v,?_,h⟩
    unfold pureLoc
    refine lop_le (u:=u) (fun s2 hn hr hk _ _=> ?_) h2
    have hev: ∀x∈o.op.operands,s2.ev x=s.toSt.ev x:=fun x hx=>ev_congr fun t ht=>hr t (mem_looks (by subst ht;exact hx))
    have hst:stepV P ops s2 o=some u:=by
     unfold stepV
     have hok2:s2.okDst o.dst=true:=by
      have:s.toSt.okDst o.dst=true:=by rw[okDst_img];exact hd
      rw[←this];cases hd':o.dst<;>simp[St.okDst,hn]
     rw[hok2,hg,pure_val hp hev]
     simpa using h1
    refine awpl_mono ?_ (qop_val hst s2 rfl rfl (fun _ _=>rfl))
    rintro s3 rfl
    exact applyE_put
  ·cases h
 ·cases h
theorem datV_id(κ:Nat)(x:D): ∀v:AV,κ∉keysV v→datV κ x v=v:=by
 intro v
 induction v using AV.rec (motive_2:=fun vs=>κ∉keysVs vs→datVs κ x vs=vs)with
 |d y=>intro _;rfl
 |ptr j off=>intro _;rfl
 |own j=>intro h;simp only[keysV,List.mem_singleton]at h;simp only[datV,if_neg (Ne.symm h)]
 |pel j off=>intro _;rfl
 |eaddr y=>intro _;rfl
 |agg cs ih=>intro h;simp only[keysV]at h;simp only[datV,ih h]
 |tup vs ih=>intro h;simp only[keysV]at h;simp only[datV,ih h]
 |clos f caps ih=>intro h;simp only[keysV]at h;simp only[datV,ih h]
 |wrap k v ih=>intro h;simp only[keysV]at h;simp only[datV,ih h]
 |bot=>intro _;rfl
 |nil=>rfl
 |cons v vs ih1 ih2=>
  rename_i h
  simp only[keysVs,List.mem_append,not_or]at h
  simp only[datVs,ih1 h.1,ih2 h.2]
theorem datB_id(κ:Nat)(x:D)(B:Blk)(h:κ∉keysB B):datB κ x B=B:=by
 cases B with
 |box e cs=>
  have:datV κ x (.agg cs)= .agg cs:=datV_id κ x _ (by simpa only[keysV,keysB]using h)
  simp only[datV,AV.agg.injEq]at this
  simp only[datB,this]
 |map cs=>
  have:datV κ x (.agg cs)= .agg cs:=datV_id κ x _ (by simpa only[keysV,keysB]using h)
  simp only[datV,AV.agg.injEq]at this
  simp only[datB,this]
 |vrow e cs=>
  have:datV κ x (.agg cs)= .agg cs:=datV_id κ x _ (by simpa only[keysV,keysB]using h)
  simp only[datV,AV.agg.injEq]at this
  simp only[datB,this]
 |_=>rfl
def isCallArg(t:Nat)(o:Oper):Bool:=o.op.operands.toList.any fun x=>match x with| .tmp u=>u==t|_=>false
def looksC(P:Program)(fl:FuncId→Bool)(c:Oper):Bool:=isCallO c.op&&(!(makesO P c||ownF fl c)&&(match c.op with
 | .call cc=>match cc.callee with
  | .value (.func f)=> !fl f
  |_=>false
 |_=>false))
def datO(P:Program)(fl:FuncId→Bool)(ops:Array Oper)(s:SSt)(o:Oper):Bool:=match o.guard with
 |some _=>false
 |none=>match o.dst with
  |none=>false
  |some t=>match o.op with
   | .buildSlice _ _ _=>(fl (14000000+t)||ops.toList.any (fun c=>looksC P fl c&&isCallArg t c))&&(gt (kL t) s.hp).isNone
   | .call c=>(match c.callee with| .builtin .append=>fl (14000000+t)|_=>false)&&(gt (kL t) s.hp).isNone
   |_=>false
def rowDat(e:Bool):SB→Option SV
 | .ints _ k xs c=>some (cond e (.d (.ints k xs c)) (.ints k xs c))
 | .row _ sh xs c=>some (.row sh xs c)
 |_=>none
def datLoc(ops:Array Oper)(s:SSt)(o:Oper)(x:BlkR)(v:SV):Loc:=
 ⟨o,⟨dstW o.dst v.toAV++namesW s.toSt x.κ,namesH s.toSt x.κ⟩,o.looksAt ops,opsK s.toSt o.op.operands.toList++((namesH s.toSt x.κ).map (·.1)++ [x.κ]),[x.κ]⟩
def datSt(s:SSt)(o:Oper)(x:BlkR)(v:SV):SSt:=
 {s with tm:=(match o.dst with|some d=>ins d v (insL (namesS x.κ s.tm) s.tm)|none=>insL (namesS x.κ s.tm) s.tm),hp:=insL (namesHS x.κ s.hp) s.hp}
theorem datSt_img{ops:Array Oper}{s:SSt}{o:Oper}{x:BlkR}{v:SV}:(datSt s o x v).toSt=applyE s.toSt (datLoc ops s o x v).e:=by
 unfold datSt datLoc
 have e:=namesHS_img x.κ s
 cases hd:o.dst<;>simp only[applyE,dstW,insL,SSt.toSt,insL_mapk,ins_mapk,List.nil_append,List.cons_append,namesS_img,namesW]<;>rw[e]<;>rfl
theorem lop_dat{P:Program}{ops:Array Oper}{s:SSt}{o:Oper}{x:BlkR}{v:SV}{d:Nat}(h:LOp P ops s.toSt (blkLocS ops s o x))(hk:x.kill=true)(hv:x.v.toAV= .own x.κ)(hd:o.dst=some d)(hn:gt x.κ s.toSt.hp=none){e:Bool}(hr:rowDat e x.B=some v):LOp P ops s.toSt (datLoc ops s o x v):=by
 obtain⟨y,hy,hvy⟩: ∃y,x.B.toB.data=some y∧v.toAV= .d y:=by
  unfold rowDat at hr
  split at hr
  ·rename_i hB;cases hr;exact⟨_,by rw[hB];rfl,by cases e<;>simp only[cond_true,cond_false,SV.toAV]⟩
  ·rename_i hB;cases hr;exact⟨_,by rw[hB];rfl,by simp only[SV.toAV]⟩
  ·cases hr
 intro s2 h1 h2 h3 h4 h5
 have hκ:gt x.κ s2.hp=none:=by rw[h3 x.κ (by simp[datLoc])];exact hn
 have hdomW: ∀t,(gt t (datLoc ops s o x v).e.W).isSome=(gt t (blkLocS ops s o x).e.W).isSome:=by
  intro t
  simp only[datLoc,blkLocS,blkLocH,hk,if_true,hd,dstW,List.cons_append,List.nil_append,gt]
  split<;>rfl
 refine awpl_backLe (R:=fun s3=>Sub (applyE s2 (blkLocS ops s o x).e) s3) ?_ (h s2 h1 h2 (fun κ hκ'=>h3 κ (by
  simp only[blkLocS,blkLocH,hk,if_true,List.mem_append]at hκ'
  simp only[datLoc,List.mem_append]
  rcases hκ' with h|h
  ·exact .inl h
  ·exact .inr (.inl h))) (fun t w hw=>by rw[←hdomW];simpa[datLoc,blkLocS,blkLocH,hk]using h4 t w hw) (fun j B hB=>by
   have:=h5 j B hB
   simp only[datLoc]at this
   simp only[blkLocS,blkLocH,hk,if_true,gt]
   split
   ·exact .inl rfl
   ·exact this))
 intro s3 hs3
 refine⟨applyE s2 (datLoc ops s o x v).e,?_,Sub.refl _⟩
 have hgκ:gt x.κ (applyE s2 (blkLocS ops s o x).e).hp=some x.B.toB:=by
  simp only[applyE,blkLocS,blkLocH,gt_insL,gt,if_true]
 refine LeSt.trans ?_ (sub_le hs3)
 refine LeSt.trans (b:=(applyE s2 (blkLocS ops s o x).e).freeze x.κ y) (sub_le ?_) (fun c m a w hr=>hr.freeze hgκ hy)
 refine⟨rfl,fun t u hu=> ?_,fun j B hB=> ?_⟩
 ·simp only[applyE,gt_insL]at hu
  simp only[St.freeze,gt_mapv,applyE,gt_insL]
  by_cases htd:t=d
  ·subst htd
   simp only[datLoc,hd,dstW,List.cons_append,gt,if_true]at hu
   cases hu
   refine .inr ?_
   simp only[blkLocS,blkLocH,hd,dstW,List.cons_append,gt,if_true,Option.map_some,hv,datV,hvy]
  ·have hW:gt t (datLoc ops s o x v).e.W=gt t (namesW s.toSt x.κ):=by
    simp only[datLoc,hd,dstW,List.cons_append,List.nil_append,gt,if_neg htd]
   have hW2:gt t (blkLocS ops s o x).e.W=gt t (namesW s.toSt x.κ):=by
    simp only[blkLocS,blkLocH,hk,if_true,hd,dstW,List.cons_append,List.nil_append,gt,if_neg htd]
   rw[hW]at hu
   rw[hW2]
   cases hg:gt t (namesW s.toSt x.κ)with
   |some w=>
    rw[hg]at hu
    simp only[Option.some.injEq]at hu
    subst hu
    exact .inl (gt_namesW hg)
   |none=>
    rw[hg]at hu
    simp only at hu ⊢
    have:=h4 t u hu
    rw[hW,hg]at this
    simp only[Option.isSome_none,Bool.false_eq_true,false_or]at this
    refine .inr ?_
    rw[hu,Option.map_some,datV_id]
    exact nm_one this
 ·simp only[applyE,gt_insL]at hB
  simp only[St.freeze,gt_mapv,gt_del,applyE,gt_insL]
  have hne:j≠x.κ:=by
   rintro rfl
   cases hg:gt x.κ (datLoc ops s o x v).e.H with
   |some X=>
    obtain⟨_,_,_,hne,_⟩:=gt_namesH (show gt x.κ (namesH s.toSt x.κ)=some X from hg)
    exact hne rfl
   |none=>rw[hg]at hB;simp only at hB;rw[hκ]at hB;cases hB
  have hH2:gt j (blkLocS ops s o x).e.H=gt j (namesH s.toSt x.κ):=by
   simp only[blkLocS,blkLocH,hk,if_true,gt,if_neg hne]
  rw[if_neg hne,hH2]
  have hH1:gt j (datLoc ops s o x v).e.H=gt j (namesH s.toSt x.κ):=rfl
  rw[hH1]at hB
  cases hg:gt j (namesH s.toSt x.κ)with
  |some X=>
   rw[hg]at hB
   simp only[Option.some.injEq]at hB
   subst hB
   simp only[Option.map_some]
   rw[datB_id]
   obtain⟨C,hC,rfl,_,_⟩:=gt_namesH hg
   cases C with
   |box e cs=>
    intro hm
    have hm':x.κ∈keysV (killV x.κ (.agg cs)):=by simpa only[killV,keysV,killB,keysB]using hm
    exact(keysV_kill x.κ _ x.κ hm').1 rfl
   |map cs=>
    intro hm
    have hm':x.κ∈keysV (killV x.κ (.agg cs)):=by simpa only[killV,keysV,killB,keysB]using hm
    exact(keysV_kill x.κ _ x.κ hm').1 rfl
   |vrow e cs=>
    intro hm
    have hm':x.κ∈keysV (killV x.κ (.agg cs)):=by simpa only[killV,keysV,killB,keysB]using hm
    exact(keysV_kill x.κ _ x.κ hm').1 rfl
   |_=>simp[killB,keysB]
  |none=>
   rw[hg]at hB
   simp only at hB ⊢
   rw[hB,Option.map_some,datB_id]
   have:=h5 j B hB
   rw[hH1,hg]at this
   simp only[Option.isSome_none,Bool.false_eq_true,false_or]at this
   exact nmB_one this
def isOwnK(κ:Nat):SV→Bool
 | .own j=>decide (j=κ)
 |_=>false
def datE(fl:FuncId→Bool)(o:Oper):Bool:=match o.op,o.dst with
 | .buildSlice _ _ _,some t=>fl (14000000+t)
 |_,_=>false
def datK{R:Type}(P:Program)(e:Bool)(s:SSt)(o:Oper)(k:BlkR→SV→Option R):Option R:=
 match o.dst with
 |none=>none
 |some _=>blkK P s o fun x=>match rowDat e x.B with
  |some v=>cond (x.kill&&(isOwnK x.κ x.v&&(gt x.κ s.hp).isNone)) (k x v) none
  |none=>none
theorem datK_ok{R:Type}{P:Program}{ops:Array Oper}{s:SSt}{o:Oper}{e:Bool}{k:BlkR→SV→Option R}{r:R}(hg:o.guard=none)(h:datK P e s o k=some r): ∃x v,LOp P ops s.toSt (datLoc ops s o x v)∧k x v=some r:=by
 unfold datK at h
 split at h
 ·cases h
 rename_i d hd
 obtain⟨x,h1,h2⟩:=blkK_ok (ops:=ops) hg h
 split at h2
 ·rename_i v hv
  cases hc:x.kill&&(isOwnK x.κ x.v&&(gt x.κ s.hp).isNone)with
  |false=>rw[hc]at h2;cases h2
  |true=>
   rw[hc]at h2
   simp only[Bool.and_eq_true]at hc
   obtain⟨c1,c2,c3⟩:=hc
   refine⟨x,v,lop_dat h1 c1 ?_ hd ?_ hv,h2⟩
   ·unfold isOwnK at c2
    split at c2
    ·rename_i j hj;simp only[decide_eq_true_eq]at c2;subst c2;rw[hj];simp only[SV.toAV]
    ·cases c2
   ·simp only[SSt.toSt,gt_mapk]
    cases hx:gt x.κ s.hp with
    |none=>rfl
    |some B=>rw[hx]at c3;cases c3
 ·cases h2
theorem dat_guard{P:Program}{fl:FuncId→Bool}{ops:Array Oper}{s:SSt}{o:Oper}(h:datO P fl ops s o=true):o.guard=none:=by
 unfold datO at h
 split at h
 ·cases h
 ·rename_i hg;exact hg
def locK0{R:Type}(P:Program)(ck:CallK)(fl:FuncId→Bool)(ops:Array Oper)(s:SSt)(o:Oper)(k:SSt→Loc→SSt→Option R):Option R:=
 cond (peekG fl o) (peekGK P ck ops s o k) <| cond (peekO fl o) (peekHK P ck ops s o fun q s2=>k s q s2) (cond (handO P fl s o) (handK P ck s o fun ks v BS=>k s (handLoc ops s o ks (maxK s.toSt.hp (16+s.n)) v BS) (handSt s o ks (maxK s.toSt.hp (16+s.n)) v BS))
  (cond (blkO o) (blkK P s o fun x=>k s (blkLocS ops s o x) (blkSt s o x))
   (cond (pureU o) (pureK P s o fun v=>k s (pureLoc ops o v) (s.put o.dst v))
    (cond (noKeys P s.toSt o) (headK P ck ops s o fun s' v=>k s' (valLoc ops s' o v) (s'.put o.dst v)) none))))
theorem locK0_ok{R:Type}{P:Program}{ck:CallK}(hck:CallOk P ck){fl:FuncId→Bool}{ops:Array Oper}{s:SSt}{o:Oper}{k:SSt→Loc→SSt→Option R}{r:R}(h:locK0 P ck fl ops s o k=some r):
  ∃s' q s2,s'.toSt=s.toSt∧LOp P ops s.toSt q∧q.o=o∧s2.toSt=applyE s.toSt q.e∧k s' q s2=some r:=by
 unfold locK0 at h
 cases hpg:peekG fl o with
 |true=>
  rw[hpg]at h
  exact peekGK_ok hck h
 |false=>
 rw[hpg]at h
 simp only[cond_false]at h
 cases hpk:peekO fl o with
 |true=>
  rw[hpk]at h
  simp only[cond_true]at h
  obtain⟨q,s2,h1,h2,h3,h4⟩:=peekHK_ok (ops:=ops) hck (peek_guard hpk) h
  exact⟨s,q,s2,rfl,h1,h2,h3,h4⟩
 |false=>
 rw[hpk]at h
 simp only[cond_false]at h
 cases hm:handO P fl s o with
 |true=>
  rw[hm]at h
  simp only[cond_true]at h
  obtain⟨ks,v,BS,h1,h2⟩:=handK_ok (ops:=ops) hck (hand_guard hm) h
  exact⟨s,_,_,rfl,h1,rfl,handSt_img,h2⟩
 |false=>
  rw[hm]at h
  simp only[cond_false]at h
  cases hb:blkO o with
  |true=>
   rw[hb]at h
   simp only[cond_true]at h
   obtain⟨x,h1,h2⟩:=blkK_ok (ops:=ops) (blk_guard hb) h
   exact⟨s,_,_,rfl,h1,rfl,blkSt_img,h2⟩
  |false=>
   rw[hb]at h
   simp only[cond_false]at h
   cases hp:pureU o with
   |true=>
    rw[hp]at h
    simp only[cond_true]at h
    obtain⟨v,h1,h2⟩:=pureK_ok (ops:=ops) hp h
    refine⟨s,_,_,rfl,h1,rfl,?_,h2⟩
    rw[valSt_img (ops:=ops)]
    rfl
   |false=>
    rw[hp]at h
    simp only[cond_false]at h
    cases h0:noKeys P s.toSt o with
    |false=>rw[h0]at h;cases h
    |true=>
     rw[h0]at h
     simp only[cond_true]at h
     obtain⟨s',v,h1,h2,h3⟩:=headK_l hck h0 h
     refine⟨s',valLoc ops s' o v,_,h1,?_,rfl,?_,h3⟩
     ·unfold valLoc;rw[h1];exact h2
     ·rw[valSt_img (ops:=ops),h1]
def datCO(fl:FuncId→Bool)(o:Oper):Bool:=match o.guard,o.dst with
 |none,some t=>(match o.op with
  | .call c=>(match c.callee with| .value (.func _)=>fl (14000000+t)|_=>false)
  |_=>false)
 |_,_=>false
theorem datC_guard{fl:FuncId→Bool}{o:Oper}(h:datCO fl o=true):o.guard=none:=by
 unfold datCO at h
 split at h
 ·rename_i hg _;exact hg
 ·cases h
def datCLoc(ops:Array Oper)(s:SSt)(o:Oper)(q:Nat)(v:SV):Loc:=
 ⟨o,⟨dstW o.dst v.toAV,[]⟩,o.looksAt ops,q::opsK s.toSt o.op.operands.toList,[q]⟩
theorem datCSt_img{ops:Array Oper}{s:SSt}{o:Oper}{q:Nat}{v:SV}:(s.put o.dst v).toSt=applyE s.toSt (datCLoc ops s o q v).e:=by
 unfold datCLoc
 cases o.dst<;>simp only[applyE,dstW,insL,SSt.put,SSt.toSt,ins_mapk]
theorem lop_datC{P:Program}{ops:Array Oper}{s:SSt}{o:Oper}{q d:Nat}{e:TypeId}{k:IntKind}{xs:List Int}{c:Option Nat}(hd:o.dst=some d)(hn:gt q s.toSt.hp=none)(h:LOp P ops s.toSt (handLoc ops s o [] q (.own 0) [.ints e k xs c])):LOp P ops s.toSt (datCLoc ops s o q (.ints k xs c)):=by
 have eW:(handLoc ops s o [] q (.own 0) [.ints e k xs c]).e.W= [(d,.own q)]:=by
  simp only[handLoc,hd,dstW,renS,backF,backK,List.length_cons,List.length_nil,SV.toAV];rfl
 have eH:(handLoc ops s o [] q (.own 0) [.ints e k xs c]).e.H= [(q,.ints e k xs c)]:=rfl
 have eK:(handLoc ops s o [] q (.own 0) [.ints e k xs c]).kill= [q]:=rfl
 intro s2 h1 h2 h3 h4 h5
 have hκ:gt q s2.hp=none:=by rw[h3 q (by simp[datCLoc])];exact hn
 have eW':(datCLoc ops s o q (.ints k xs c)).e.W= [(d,.d (.ints k xs c))]:=by simp only[datCLoc,hd,dstW,SV.toAV]
 refine awpl_backLe (R:=fun s3=>Sub (applyE s2 (handLoc ops s o [] q (.own 0) [.ints e k xs c]).e) s3) ?_ (h s2 h1 h2 (fun κ hκ'=>h3 κ (by
  simp only[handLoc,List.append_nil]at hκ'
  simp only[datCLoc];exact List.mem_cons_of_mem _ hκ')) (fun t w hw=>by
   have:=h4 t w hw
   rw[eW']at this
   rw[eW,eK]
   simp only[gt]at this ⊢
   split
   ·exact .inl rfl
   ·rename_i hne;rw[if_neg hne]at this;exact this) (fun j B hB=>by
   have:=h5 j B hB
   simp only[datCLoc,gt,Option.isSome_none,Bool.false_eq_true,false_or]at this
   rw[eK];exact .inr this))
 intro s3 hs3
 refine⟨applyE s2 (datCLoc ops s o q (.ints k xs c)).e,?_,Sub.refl _⟩
 have hgκ:gt q (applyE s2 (handLoc ops s o [] q (.own 0) [.ints e k xs c]).e).hp=some (.ints e k xs c):=by
  simp only[applyE,eH,gt_insL,gt,if_true]
 refine LeSt.trans ?_ (sub_le hs3)
 refine LeSt.trans (b:=(applyE s2 (handLoc ops s o [] q (.own 0) [.ints e k xs c]).e).freeze q (.ints k xs c)) (sub_le ?_) (fun c' m a w hr=>hr.freeze hgκ rfl)
 refine⟨rfl,fun t u hu=> ?_,fun j B hB=> ?_⟩
 ·simp only[applyE,gt_insL,eW']at hu
  simp only[St.freeze,gt_mapv,applyE,gt_insL,eW]
  by_cases htd:t=d
  ·subst htd
   simp only[gt,if_true]at hu ⊢
   cases hu
   refine .inr ?_
   simp only[Option.map_some,datV,if_true]
  ·simp only[gt,if_neg htd]at hu ⊢
   have:=h4 t u hu
   rw[eW']at this
   simp only[gt,if_neg htd,Option.isSome_none,Bool.false_eq_true,false_or]at this
   refine .inr ?_
   rw[hu,Option.map_some,datV_id]
   exact nm_one this
 ·have hB2:gt j s2.hp=some B:=by simpa only[applyE,datCLoc,insL]using hB
  simp only[St.freeze,gt_mapv,gt_del,applyE,gt_insL,eH]
  have hne:j≠q:=fun hj=>by rw[hj,hκ]at hB2;cases hB2
  rw[if_neg hne]
  simp only[gt,if_neg hne]
  have:=h5 j B hB2
  simp only[datCLoc,gt,Option.isSome_none,Bool.false_eq_true,false_or]at this
  rw[hB2,Option.map_some,datB_id]
  exact nmB_one this
def datCK{R:Type}(P:Program)(ck:CallK)(s:SSt)(o:Oper)(k:SV→Option R):Option R:=
 match o.dst with
 |none=>none
 |some _=>handK P ck s o fun ks v BS=>match ks,v,BS with
  | [],.own 0,[.ints e kk xs c]=>cond (gt (maxK s.toSt.hp (16+s.n)) s.hp).isNone (k (.ints kk xs c)) none
  |_,_,_=>none
theorem datCK_ok{R:Type}{P:Program}{ck:CallK}(hck:CallOk P ck){ops:Array Oper}{s:SSt}{o:Oper}{k:SV→Option R}{r:R}(hg:o.guard=none)(h:datCK P ck s o k=some r): ∃v,LOp P ops s.toSt (datCLoc ops s o (maxK s.toSt.hp (16+s.n)) v)∧k v=some r:=by
 unfold datCK at h
 split at h
 ·cases h
 rename_i d hd
 obtain⟨ks,v,BS,h1,h2⟩:=handK_ok (ops:=ops) hck hg h
 split at h2
 ·rename_i e kk xs c
  cases hc:(gt (maxK s.toSt.hp (16+s.n)) s.hp).isNone with
  |false=>rw[hc]at h2;cases h2
  |true=>
   rw[hc]at h2
   refine⟨_,lop_datC hd ?_ h1,h2⟩
   simp only[SSt.toSt,gt_mapk]
   cases hx:gt (maxK (mapk SB.toB s.hp) (16+s.n)) s.hp with
   |none=>rfl
   |some B=>rw[show(gt (maxK s.toSt.hp (16+s.n)) s.hp)=some B from hx]at hc;cases hc
 ·cases h2
def locK{R:Type}(P:Program)(ck:CallK)(fl:FuncId→Bool)(ops:Array Oper)(s:SSt)(o:Oper)(k:SSt→Loc→SSt→Option R):Option R:=
 cond (datO P fl ops s o) (datK P (datE fl o) s o fun x v=>k s (datLoc ops s o x v) (datSt s o x v))
  (cond (datCO fl o) (datCK P ck s o fun v=>k s (datCLoc ops s o (maxK s.toSt.hp (16+s.n)) v) (s.put o.dst v)) (locK0 P ck fl ops s o k))
theorem locK_ok{R:Type}{P:Program}{ck:CallK}(hck:CallOk P ck){fl:FuncId→Bool}{ops:Array Oper}{s:SSt}{o:Oper}{k:SSt→Loc→SSt→Option R}{r:R}(h:locK P ck fl ops s o k=some r):
  ∃s' q s2,s'.toSt=s.toSt∧LOp P ops s.toSt q∧q.o=o∧s2.toSt=applyE s.toSt q.e∧k s' q s2=some r:=by
 unfold locK at h
 cases hm:datO P fl ops s o with
 |true=>
  rw[hm]at h
  simp only[cond_true]at h
  obtain⟨x,v,h1,h2⟩:=datK_ok (ops:=ops) (dat_guard hm) h
  exact⟨s,_,_,rfl,h1,rfl,datSt_img,h2⟩
 |false=>
  rw[hm]at h
  simp only[cond_false]at h
  cases hc:datCO fl o with
  |true=>
   rw[hc]at h
   simp only[cond_true]at h
   obtain⟨v,h1,h2⟩:=datCK_ok (ops:=ops) hck (datC_guard hc) h
   exact⟨s,_,_,rfl,h1,rfl,datCSt_img,h2⟩
  |false=>
   rw[hc]at h
   exact locK0_ok hck h
def locsK{R:Type}(P:Program)(ck:CallK)(fl:FuncId→Bool)(ops:Array Oper):Nat→List Oper→SSt→List Loc→(List Loc→List Oper→SSt→Option R)→Option R
 |0,l,s,L,k=>k L l s
 |p+1,o::l,s,L,k=>locK P ck fl ops s o fun _ q s2=>locsK P ck fl ops p l s2 (L++ [q]) k
 |_+1,[],_,_,_=>none
theorem locsK_ok{R:Type}{P:Program}{ck:CallK}(hck:CallOk P ck){fl:FuncId→Bool}{ops:Array Oper}{k:List Loc→List Oper→SSt→Option R}{r:R}: ∀ {p:Nat} {l:List Oper} {s:SSt} {L0:List Loc},locsK P ck fl ops p l s L0 k=some r→
  ∃L s',k (L0++L) (l.drop p) s'=some r∧L.length=p∧p≤l.length∧L.map (·.o)=l.take p∧(∀(i:Nat) q,L[i]? =some q→LOp P ops (maskE (fun k=>decide (k<i)) 0 L s.toSt) q)∧s'.toSt=maskE (fun _=>true) 0 L s.toSt
 |0,l,s,L0,h=>⟨[],s,by simpa only[locsK,List.append_nil,List.drop_zero]using h,rfl,Nat.zero_le _,by simp,by simp,rfl⟩
 |p+1,[],s,L0,h=>by simp[locsK]at h
 |p+1,o::l,s,L0,h=>by
  simp only[locsK]at h
  obtain⟨s1,q,s2,h1,h2,h3,h4,h5⟩:=locK_ok hck h
  obtain⟨L,s',e0,e1,e2,e3,e4,e5⟩:=locsK_ok hck h5
  refine⟨q::L,s',by simpa only[List.append_assoc,List.singleton_append,List.drop_succ_cons]using e0,by simp[e1],by simp;exact e2,by simp[e3,h3],fun i q' hi=> ?_,?_⟩
  ·cases i with
   |zero=>
    simp at hi;subst hi
    rw[maskE_none (fun k=>by simp)];exact h2
   |succ i=>
    have:=e4 i q' (by simpa using hi)
    simp only[maskE]
    rw[maskE_shift]
    simp only[Nat.zero_lt_succ,decide_true,if_true]
    have e:(fun k=>decide (k+1<i+1))=fun k=>decide (k<i):=by funext k;simp
    rw[e,←h4];exact this
  ·simp only[maskE,if_true]
   rw[maskE_shift,e5,h4]
def LocAt(P:Program)(l:List Oper)(L:List Loc)(s:St)(i:Nat)(q:Loc):Prop:=
 ∀D:Nat→Bool,D i=false→(∀j,j<L.length→D j=true→befB l i j=false)→(maskE D 0 L s).n=(maskE (fun k=>decide (k<i)) 0 L s).n→
  (∀t∈q.reads,gt t (maskE D 0 L s).tm=gt t (maskE (fun k=>decide (k<i)) 0 L s).tm)→(∀κ∈q.keys,gt κ (maskE D 0 L s).hp=gt κ (maskE (fun k=>decide (k<i)) 0 L s).hp)→
  (∀t v,gt t (maskE D 0 L s).tm=some v→(gt t q.e.W).isSome=true∨nm q.kill v=false)→(∀κ B,gt κ (maskE D 0 L s).hp=some B→(gt κ q.e.H).isSome=true∨nmB q.kill B=false)→
  AWpL P l.toArray [q.o] (fun s3=>Sub (applyE (maskE D 0 L s) q.e) s3) (maskE D 0 L s)
theorem locAt_of{P:Program}{l:List Oper}{L:List Loc}{s:St}{i:Nat}{q:Loc}(h:LOp P l.toArray (maskE (fun k=>decide (k<i)) 0 L s) q):LocAt P l L s i q:=
 fun D _ _ h1 h2 h3 h4 h5=>h _ h1 h2 h3 h4 h5
theorem awp_drawLG{P:Program}{l:List Oper}{Q:Exit→St→Prop}{s:St}(L:List Loc)(hb:edgesBack 0 l=true)(ht:tailOk L.length l=true)(hlen:L.length≤l.length)(hops:L.map (·.o)=l.take L.length)(hind:indepOk l s L=true)
  (hloc: ∀(i:Nat) q,L[i]? =some q→LocAt P l L s i q)
  (hend:AWpL P l.toArray (l.drop L.length) (Q .normal) (maskE (fun _=>true) 0 L s)):AWpA P l.toArray Q s:=by
 have hL: ∀(j:Nat) o,j<L.length→l[j]? =some o→ ∃q,L[j]? =some q∧q.o=o:=by
  intro j o hj ho
  have h1:(L.map (·.o))[j]? =some o:=by rw[hops,List.getElem?_take,if_pos hj];exact ho
  rw[List.getElem?_map]at h1
  obtain⟨q,h2,h3⟩:=Option.map_eq_some_iff.1 h1
  exact⟨q,h2,h3⟩
 have hL': ∀(j:Nat) q,L[j]? =some q→j<L.length∧l[j]? =some q.o:=by
  intro j q hj
  have hjp:j<L.length:=(List.getElem?_eq_some_iff.1 hj).1
  refine⟨hjp,?_⟩
  have h1:(L.map (·.o))[j]? =some q.o:=by rw[List.getElem?_map,hj];rfl
  rw[hops,List.getElem?_take,if_pos hjp]at h1
  exact h1
 refine awp_drawA (by simpa using hb) L.length (by simpa using hlen) (by simpa using ht) (fun D=>maskE D 0 L s) ?_ ?_ ?_
 ·obtain⟨f1,f2,f3⟩:=maskE_facts (fun _=>false) L 0 s
  have e1: ∀t (d:Option AV),lookW t (fun _=>false) 0 L d=d:=by
   have: ∀(L:List Loc) i t (d:Option AV),lookW t (fun _=>false) i L d=d:=by
    intro L;induction L with
    |nil=>intros;rfl
    |cons q L ih=>intro i t d;simp only[lookW];exact ih _ _ _
   exact fun t d=>this L 0 t d
  have e2: ∀t (d:Option Blk),lookH t (fun _=>false) 0 L d=d:=by
   have: ∀(L:List Loc) i t (d:Option Blk),lookH t (fun _=>false) i L d=d:=by
    intro L;induction L with
    |nil=>intros;rfl
    |cons q L ih=>intro i t d;simp only[lookH];exact ih _ _ _
   exact fun t d=>this L 0 t d
  exact⟨f1,fun t v hv=> .inr (by rw[f2,e1]at hv;exact hv),fun κ B hB=>by rw[f3,e2]at hB;exact hB⟩
 ·intro i o D hip ho hDi hpr hdc
  have ho':l[i]? =some o:=by simpa using ho
  have hdc': ∀(j:Nat) (o:Oper),l[j]? =some o→D j=true→predsIn o D:=fun j o hj=>hdc j o (by simpa using hj)
  obtain⟨q,hq,rfl⟩:=hL i o hip ho'
  have stand: ∀(j:Nat) q',L[j]? =some q'→j≠i→(D j=true∧j<i∧befB l j i=true)∨(D j=false∧i<j∧befB l i j=true)∨pairOk q q'=true:=by
   intro j q' hj hne
   rcases indep_get hind hq hj hne with h|h|h
   ·obtain⟨h1,h2⟩:=bef_done hdc' ho' hpr h.1
    exact .inl ⟨h1,h2,h.1⟩
   ·refine .inr (.inl ⟨?_,?_,h⟩)
    ·cases hDj:D j with
     |false=>rfl
     |true=>
      have:=(bef_done hdc' (hL' j q' hj).2 (hdc' j _ (hL' j q' hj).2 hDj) h).1
      rw[hDi]at this;cases this
    ·simp only[befB,Bool.and_eq_true,decide_eq_true_eq]at h;exact h.1
   ·exact .inr (.inr h.1)
  have quiet: ∀(j:Nat) q',L[j]? =some q'→j≠i→D j=true→quietW q q'.e.W=true∧quietH q q'.e.H=true:=by
   intro j q' hj hne hDj
   rcases indep_get hind hq hj hne with h|h|h
   ·exact h.2
   ·rcases stand j q' hj hne with h'|h'|h'
    ·simp only[befB,Bool.and_eq_true,decide_eq_true_eq]at h;omega
    ·rw[h'.1]at hDj;cases hDj
    ·have:=(bef_done hdc' (hL' j q' hj).2 (hdc' j _ (hL' j q' hj).2 hDj) h).1
     rw[hDi]at this;cases this
   ·exact h.2
  obtain⟨f1,f2,f3⟩:=maskE_facts D L 0 s
  obtain⟨g1,g2,g3⟩:=maskE_facts (fun k=>decide (k<i)) L 0 s
  obtain⟨k1,k2,k3⟩:=maskE_facts (setD D i) L 0 s
  have own:=indep_own hind hq
  refine awpl_mono ?_ (hloc i q hq D hDi (fun j hj hDj=>by
   cases hb:befB l i j with
   |false=>rfl
   |true=>
    obtain⟨q',hq',_⟩:=hL j _ hj (List.getElem?_eq_getElem (Nat.lt_of_lt_of_le hj hlen))
    have:=(bef_done hdc' (hL' j q' hq').2 (hdc' j _ (hL' j q' hq').2 hDj) hb).1
    rw[hDi]at this;cases this) (by rw[f1,g1]) (fun t htr=> ?_) (fun κ hκ=> ?_) (fun t v hv=> ?_) (fun κ B hB=> ?_))
  ·intro s3 hs3
   refine⟨by rw[←hs3.1];simp only[applyE];rw[k1,f1],fun t v hv=> ?_,fun κ B hB=> ?_⟩
   ·refine hs3.2.1 t v ?_
    simp only[applyE,gt_insL,f2]
    rw[k2]at hv
    cases hg:gt t q.e.W with
    |some u=>
     have:=lookW_at (t:=t) (D:=setD D i) (v:=u) (L:=L) (b:=0) (j:=i) (d:=gt t s.tm) hq hg (by simp[setD]) (fun k q' hk hs hik=>by
      rw[Nat.zero_add,setD,if_neg (by omega)]
      rcases stand k q' hk (by omega)with h'|h'|h'
      ·omega
      ·exact h'.1
      ·simp only[pairOk,Bool.and_eq_true]at h'
       exact absurd (List.mem_append_right _ (gt_key (by rw[hg];rfl))) (disjB_get h'.1 (gt_key hs)))
     rw[this]at hv;simpa using hv
    |none=>
     simp only
     rw[←hv]
     refine lookW_congr fun j q' hj hs=> ?_
     rw[Nat.zero_add,setD]
     split
     ·rename_i e;subst e;rw[hq]at hj;cases hj;rw[hg]at hs;cases hs
     ·rfl
   ·refine hs3.2.2 κ B ?_
    simp only[applyE,gt_insL,f3]
    rw[k3]at hB
    cases hg:gt κ q.e.H with
    |some u=>
     have:=lookH_at (t:=κ) (D:=setD D i) (v:=u) (L:=L) (b:=0) (j:=i) (d:=gt κ s.hp) hq hg (by simp[setD]) (fun k q' hk hs hik=>by
      rw[Nat.zero_add,setD,if_neg (by omega)]
      rcases stand k q' hk (by omega)with h'|h'|h'
      ·omega
      ·exact h'.1
      ·simp only[pairOk,Bool.and_eq_true]at h'
       exact absurd (List.mem_append_right _ (gt_key (by rw[hg];rfl))) (disjB_get h'.2 (gt_key hs)))
     rw[this]at hB;simpa using hB
    |none=>
     simp only
     rw[←hB]
     refine lookH_congr fun j q' hj hs=> ?_
     rw[Nat.zero_add,setD]
     split
     ·rename_i e;subst e;rw[hq]at hj;cases hj;rw[hg]at hs;cases hs
     ·rfl
  ·rw[f2,g2]
   refine lookW_congr fun j q' hj hs=> ?_
   rw[Nat.zero_add]
   by_cases hji:j=i
   ·subst hji;rw[hDi];simp
   ·rcases stand j q' hj hji with h'|h'|h'
    ·rw[h'.1];simp[h'.2.1]
    ·rw[h'.1];simp;omega
    ·simp only[pairOk,Bool.and_eq_true]at h'
     exact absurd (List.mem_append_left _ htr) (disjB_get h'.1 (gt_key hs))
  ·rw[f3,g3]
   refine lookH_congr fun j q' hj hs=> ?_
   rw[Nat.zero_add]
   by_cases hji:j=i
   ·subst hji;rw[hDi];simp
   ·rcases stand j q' hj hji with h'|h'|h'
    ·rw[h'.1];simp[h'.2.1]
    ·rw[h'.1];simp;omega
    ·simp only[pairOk,Bool.and_eq_true]at h'
     exact absurd (List.mem_append_left _ hκ) (disjB_get h'.2 (gt_key hs))
  ·rw[f2]at hv
   rcases lookW_from hv with h'|⟨j,q',hj,hDj,hvj⟩
   ·exact quietW_get own.1 h'
   ·rw[Nat.zero_add]at hDj
    have hne:j≠i:=fun e=>by subst e;rw[hDi]at hDj;cases hDj
    exact quietW_get (quiet j q' hj hne hDj).1 hvj
  ·rw[f3]at hB
   rcases lookH_from hB with h'|⟨j,q',hj,hDj,hvj⟩
   ·exact quietH_get own.2 h'
   ·rw[Nat.zero_add]at hDj
    have hne:j≠i:=fun e=>by subst e;rw[hDi]at hDj;cases hDj
    exact quietH_get (quiet j q' hj hne hDj).2 hvj
 ·intro D hD
  have hl:l.toArray.toList.drop L.length=l.drop L.length:=by simp
  rw[hl]
  refine awpl_sub ?_ hend
  obtain⟨f1,f2,f3⟩:=maskE_facts D L 0 s
  obtain⟨g1,g2,g3⟩:=maskE_facts (fun _=>true) L 0 s
  refine⟨by rw[g1,f1],fun t v hv=> .inr ?_,fun κ B hB=> ?_⟩
  ·rw[f2];rw[g2]at hv;rw[←hv]
   exact lookW_congr fun j q' hj _=>by rw[Nat.zero_add,hD j (hL' j q' hj).1]
  ·rw[f3];rw[g3]at hB;rw[←hB]
   exact lookH_congr fun j q' hj _=>by rw[Nat.zero_add,hD j (hL' j q' hj).1]
def cellOf(P:Program)(s:SSt)(o:Oper):Option (Nat×Nat×Nat):=match o.guard with
 |some _=>none
 |none=>match o.op with
  | .load t ad=>match s.ev ad with
   |some (.ptr κ off)=>match aggT P t with
    |some false=>match gt κ s.hp with
     |some (.box _ cs)=>match cs[off]? with
      |some (.own j)=>some (κ,off,j)
      |_=>none
     |_=>none
    |_=>none
   |_=>none
  |_=>none
def isCell(c:Nat×Nat×Nat)(B:Blk):Bool:=match B with
 | .box _ cs=>match cs[c.2.1]? with
  |some (.own j)=>decide (j=c.2.2)
  |_=>false
 |_=>false
def cellLoc(ops:Array Oper)(o:Oper)(c:Nat×Nat×Nat):Loc:=⟨o,⟨dstW o.dst (.own c.2.2),[]⟩,o.looksAt ops,[],[]⟩
def CellAt(P:Program)(ops:Array Oper)(s:St)(q:Loc)(c:Nat×Nat×Nat):Prop:=
 ∀s2:St,s2.n=s.n→(∀t∈q.reads,gt t s2.tm=gt t s.tm)→(∃B,gt c.1 s2.hp=some B∧isCell c B=true)→AWpL P ops [q.o] (fun s3=>Sub (applyE s2 q.e) s3) s2
theorem cellOf_ok{P:Program}{ops:Array Oper}{s:SSt}{o:Oper}{c:Nat×Nat×Nat}(h:cellOf P s o=some c)(hd:s.okDst o.dst=true):CellAt P ops s.toSt (cellLoc ops o c) c:=by
 unfold cellOf at h
 split at h
 ·cases h
 rename_i hg
 split at h
 ·rename_i t ad ho
  split at h
  ·rename_i κ off had
   split at h
   ·rename_i hagg
    split at h
    ·rename_i e cs hB
     split at h
     ·rename_i j hj
      cases h
      intro s2 hn hr hc
      obtain⟨B,hB2,hcell⟩:=hc
      have hev: ∀x∈o.op.operands,s2.ev x=s.toSt.ev x:=fun x hx=>ev_congr fun t ht=>hr t (mem_looks (by subst ht;exact hx))
      have had2:s2.ev ad=some (.ptr κ off):=by
       rw[hev ad (by rw[ho];simp[Op.operands]),SSt.ev_img had];simp only[SV.toAV]
      unfold isCell at hcell
      split at hcell
      ·rename_i e2 cs2
       split at hcell
       ·rename_i j2 hj2
        simp only[decide_eq_true_eq]at hcell
        simp only at hj2
        subst hcell
        have hst:stepV P ops s2 o=some (.own j2):=by
         unfold stepV
         have hok2:s2.okDst o.dst=true:=by
          have:s.toSt.okDst o.dst=true:=by rw[okDst_img];exact hd
          rw[←this];cases hd':o.dst<;>simp[St.okDst,hn]
         simp only at hB2
         have h1:loadV P s2 t (.ptr κ off)=some (.own j2):=by unfold loadV loadV0;simp only[hB2,hagg,hj2]
         rw[hok2,hg,ho]
         simp[valOp,had2,obind,h1]
        refine awpl_mono ?_ (qop_val hst s2 rfl rfl (fun _ _=>rfl))
        rintro s3 rfl
        exact applyE_put
       ·cases hcell
      ·cases hcell
     ·cases h
    ·cases h
   ·cases h
  ·cases h
 ·cases h
def fullLoc(ops:Array Oper)(s:SSt)(o:Oper)(c:Nat×Nat×Nat):Loc:=⟨o,⟨dstW o.dst (.own c.2.2),[]⟩,o.looksAt ops,opsK s.toSt o.op.operands.toList,[]⟩
theorem cellOf_full{P:Program}{ops:Array Oper}{s:SSt}{o:Oper}{c:Nat×Nat×Nat}(h:cellOf P s o=some c)(hd:s.okDst o.dst=true):LOp P ops s.toSt (fullLoc ops s o c):=by
 have h0:=h
 unfold cellOf at h
 split at h
 ·cases h
 rename_i hg
 split at h
 ·rename_i t ad ho
  split at h
  ·rename_i κ off had
   split at h
   ·rename_i hagg
    split at h
    ·rename_i e cs hB
     split at h
     ·rename_i j hj
      cases h
      have hB2:=gt_hp hB
      simp only[SB.toB]at hB2
      have hj2:(SV.toAVs cs)[off]? =some (.own j):=by rw[toAVs_map,List.getElem?_map,hj];simp[SV.toAV]
      have h1:loadV P s.toSt t (.ptr κ off)=some (.own j):=by unfold loadV loadV0;simp only[hB2,hagg,hj2]
      have had2:s.toSt.ev ad=some (.ptr κ off):=by rw[SSt.ev_img had];simp only[SV.toAV]
      have hst:stepV P ops s.toSt o=some (.own j):=by
       unfold stepV
       rw[okDst_img,hd,hg,ho]
       simp[valOp,had2,obind,h1]
      exact ql_step hst
     ·cases h
    ·cases h
   ·cases h
  ·cases h
 ·cases h
def locsC{R:Type}(P:Program)(ck:CallK)(fl:FuncId→Bool)(ops:Array Oper):Nat→List Oper→SSt→List Loc→List Loc→List (Option (Nat×Nat×Nat))→(List Loc→List Loc→List (Option (Nat×Nat×Nat))→List Oper→SSt→Option R)→Option R
 |0,l,s,L,L',C,k=>k L L' C l s
 |p+1,o::l,s,L,L',C,k=>match cellOf P s o with
  |some c=>cond (s.okDst o.dst) (locsC P ck fl ops p l (s.put o.dst (.own c.2.2)) (L++ [fullLoc ops s o c]) (L'++ [cellLoc ops o c]) (C++ [some c]) k) none
  |none=>locK P ck fl ops s o fun _ q s2=>locsC P ck fl ops p l s2 (L++ [q]) (L'++ [q]) (C++ [none]) k
 |_+1,[],_,_,_,_,_=>none
theorem locsC_ok{R:Type}{P:Program}{ck:CallK}(hck:CallOk P ck){fl:FuncId→Bool}{ops:Array Oper}{k:List Loc→List Loc→List (Option (Nat×Nat×Nat))→List Oper→SSt→Option R}{r:R}: ∀ {p:Nat} {l:List Oper} {s:SSt} {L0 L0':List Loc} {C0:List (Option (Nat×Nat×Nat))},locsC P ck fl ops p l s L0 L0' C0 k=some r→
  ∃L L' C s',k (L0++L) (L0'++L') (C0++C) (l.drop p) s'=some r∧(L.length=p∧L'.length=p)∧p≤l.length∧(L.map (·.o)=l.take p∧L'.map (·.o)=l.take p)∧(∀(i:Nat) q,L[i]? =some q→LOp P ops (maskE (fun k=>decide (k<i)) 0 L s.toSt) q)∧
   (∀(i:Nat) q,L'[i]? =some q→LOp P ops (maskE (fun k=>decide (k<i)) 0 L' s.toSt) q∨ ∃c,C[i]? =some (some c)∧CellAt P ops (maskE (fun k=>decide (k<i)) 0 L' s.toSt) q c)∧(s'.toSt=maskE (fun _=>true) 0 L s.toSt∧s'.toSt=maskE (fun _=>true) 0 L' s.toSt)
 |0,l,s,L0,L0',C0,h=>⟨[],[],[],s,by simpa only[locsC,List.append_nil,List.drop_zero]using h,⟨rfl,rfl⟩,Nat.zero_le _,by simp,by simp,by simp,rfl,rfl⟩
 |p+1,[],s,L0,L0',C0,h=>by simp[locsC]at h
 |p+1,o::l,s,L0,L0',C0,h=>by
  have go: ∀(q q':Loc) (co:Option (Nat×Nat×Nat)) (s2:SSt),q.o=o→q'.o=o→s2.toSt=applyE s.toSt q.e→s2.toSt=applyE s.toSt q'.e→LOp P ops s.toSt q→(LOp P ops s.toSt q'∨ ∃c,co=some c∧CellAt P ops s.toSt q' c)→locsC P ck fl ops p l s2 (L0++ [q]) (L0'++ [q']) (C0++ [co]) k=some r→
    ∃L L' C s',k (L0++L) (L0'++L') (C0++C) ((o::l).drop (p+1)) s'=some r∧(L.length=p+1∧L'.length=p+1)∧p+1≤(o::l).length∧(L.map (·.o)=(o::l).take (p+1)∧L'.map (·.o)=(o::l).take (p+1))∧(∀(i:Nat) q,L[i]? =some q→LOp P ops (maskE (fun k=>decide (k<i)) 0 L s.toSt) q)∧
     (∀(i:Nat) q,L'[i]? =some q→LOp P ops (maskE (fun k=>decide (k<i)) 0 L' s.toSt) q∨ ∃c,C[i]? =some (some c)∧CellAt P ops (maskE (fun k=>decide (k<i)) 0 L' s.toSt) q c)∧(s'.toSt=maskE (fun _=>true) 0 L s.toSt∧s'.toSt=maskE (fun _=>true) 0 L' s.toSt):=by
   intro q q' co s2 h3 h3' h4 h4' h2 h2' h5
   obtain⟨L,L',C,s',e0,⟨e1,e1'⟩,e2,⟨e3,e3'⟩,e4,e4',e5,e5'⟩:=locsC_ok hck h5
   have e: ∀i,(fun k=>decide (k+1<i+1))=fun k=>decide (k<i):=by intro i;funext k;simp
   refine⟨q::L,q'::L',co::C,s',by simpa only[List.append_assoc,List.singleton_append,List.drop_succ_cons]using e0,by simp[e1,e1'],by simp;exact e2,by simp[e3,h3,e3',h3'],fun i u hi=> ?_,fun i u hi=> ?_,?_,?_⟩
   ·cases i with
    |zero=>
     simp at hi;subst hi
     rw[maskE_none (fun k=>by simp)];exact h2
    |succ i=>
     have:=e4 i u (by simpa using hi)
     simp only[maskE]
     rw[maskE_shift]
     simp only[Nat.zero_lt_succ,decide_true,if_true]
     rw[e,←h4];exact this
   ·cases i with
    |zero=>
     simp at hi;subst hi
     rw[maskE_none (fun k=>by simp)]
     rcases h2' with h2'|⟨c,rfl,h2'⟩
     ·exact .inl h2'
     ·exact .inr ⟨c,rfl,h2'⟩
    |succ i=>
     have:=e4' i u (by simpa using hi)
     simp only[maskE,List.getElem?_cons_succ]
     rw[maskE_shift]
     simp only[Nat.zero_lt_succ,decide_true,if_true]
     rw[e,←h4'];exact this
   ·simp only[maskE,if_true]
    rw[maskE_shift,e5,h4]
   ·simp only[maskE,if_true]
    rw[maskE_shift,e5',h4']
  simp only[locsC]at h
  split at h
  ·rename_i c hc
   cases hd:s.okDst o.dst with
   |false=>rw[hd]at h;cases h
   |true=>
    rw[hd]at h
    simp only[cond_true]at h
    have hs:(s.put o.dst (.own c.2.2)).toSt=applyE s.toSt (cellLoc ops o c).e:=by
     unfold cellLoc
     cases o.dst<;>simp only[applyE,dstW,insL,SSt.put,SSt.toSt,ins_mapk,SV.toAV]
    exact go (fullLoc ops s o c) (cellLoc ops o c) (some c) _ rfl rfl hs hs (cellOf_full hc hd) (.inr ⟨c,rfl,cellOf_ok hc hd⟩) h
  ·obtain⟨s1,q,s2,h1,h2,h3,h4,h5⟩:=locK_ok hck h
   exact go q q none s2 h3 h3 h4 h4 h2 (.inl h2) h5
def cellsOk(l:List Oper)(s:St)(L:List Loc)(C:List (Option (Nat×Nat×Nat))):Bool:=
 C.zipIdx.all fun p=>match p.1 with
  |none=>true
  |some c=>(match gt c.1 s.hp with|some B=>isCell c B|none=>false)&&L.zipIdx.all fun q=>befB l p.2 q.2||match gt c.1 q.1.e.H with|some B=>isCell c B|none=>true
theorem lookH_cell{κ:Nat}{D:Nat→Bool}{p:Blk→Bool}: ∀ {L:List Loc} {b:Nat} {d:Option Blk},(∀(j:Nat) q,L[j]? =some q→D (b+j)=true→ ∀B,gt κ q.e.H=some B→p B=true)→(∃B,d=some B∧p B=true)→ ∃B,lookH κ D b L d=some B∧p B=true
 | [],b,d,_,h=>h
 |q::l,b,d,h,hd=>by
  simp only[lookH]
  refine lookH_cell (fun j q' hj hD=>h (j+1) q' (by simpa using hj) (by rw[show b+(j+1)=b+1+j by omega];exact hD)) ?_
  split
  ·rename_i hDb
   cases hg:gt κ q.e.H with
   |none=>exact hd
   |some B=>exact⟨B,rfl,h 0 q rfl (by simpa using hDb) B hg⟩
  ·exact hd
theorem cells_get{P:Program}{l:List Oper}{s:St}{L:List Loc}{C:List (Option (Nat×Nat×Nat))}(h:cellsOk l s L C=true)(hl:L.length≤l.length){i:Nat}{c:Nat×Nat×Nat}(hi:C[i]? =some (some c)){q:Loc}(hc:CellAt P l.toArray (maskE (fun k=>decide (k<i)) 0 L s) q c):LocAt P l L s i q:=by
 intro D hDi hbef hn hr _ _ _
 have h1:=List.all_eq_true.1 h (some c,i) (zip_get hi)
 simp only[Bool.and_eq_true]at h1
 refine hc _ hn hr ?_
 obtain⟨f1,f2,f3⟩:=maskE_facts D L 0 s
 rw[f3]
 refine lookH_cell (p:=isCell c) (fun j q' hj hDj B hB=> ?_) ?_
 ·have h2:=List.all_eq_true.1 h1.2 (q',j) (zip_get hj)
  simp only[hB,Bool.or_eq_true]at h2
  rw[Nat.zero_add]at hDj
  rw[hbef j (List.getElem?_eq_some_iff.1 hj).1 hDj]at h2
  simpa using h2
 ·have h2:=h1.1
  split at h2
  ·rename_i B hB;exact⟨B,hB,h2⟩
  ·cases h2
def drawLK{R:Type}(P:Program)(ck:CallK)(fl:FuncId→Bool)(ops:Array Oper)(p:Nat)(s:SSt)(k:SSt→Option R):Option R:=
 locsC P ck fl ops p ops.toList s [] [] [] fun L L' C l' s'=>cond (edgesBack 0 ops.toList&&(tailOk p ops.toList&&(indepOk ops.toList s.toSt L||(indepOk ops.toList s.toSt L'&&cellsOk ops.toList s.toSt L' C)))) (opsR P ck fl ops l' s' k) none
theorem drawLK_ok{R:Type}{P:Program}{ck:CallK}(hck:CallOk P ck){fl:FuncId→Bool}{ops:Array Oper}{p:Nat}{s:SSt}{k:SSt→Option R}{r:R}(h:drawLK P ck fl ops p s k=some r): ∃s',k s'=some r∧ ∀Q:Exit→St→Prop,Q .normal s'.toSt→AWpA P ops Q s.toSt:=by
 have e:ops=ops.toList.toArray:=by simp
 obtain⟨L,L',C,s1,e0,⟨e1,e1'⟩,e2,⟨e3,e3'⟩,e4,e4',e5,e5'⟩:=locsC_ok hck h
 simp only[List.nil_append]at e0
 cases hc:edgesBack 0 ops.toList&&(tailOk p ops.toList&&(indepOk ops.toList s.toSt L||(indepOk ops.toList s.toSt L'&&cellsOk ops.toList s.toSt L' C)))with
 |false=>rw[hc]at e0;cases e0
 |true=>
  rw[hc]at e0
  simp only[Bool.and_eq_true,Bool.or_eq_true]at hc
  obtain⟨c1,c2,c3⟩:=hc
  obtain⟨s',h4,h5⟩:=opsR_ok hck (show opsR P ck fl ops (ops.toList.drop p) s1 k=some r from e0)
  refine⟨s',h4,fun Q hq=> ?_⟩
  rcases c3 with c3|⟨c3,c4⟩
  ·subst e1
   rw[e]
   refine awp_drawLA L c1 c2 e2 e3 c3 (by simpa using e4) ?_
   rw[←e,←e5]
   exact h5 (Q .normal) hq
  ·subst e1'
   rw[e]
   refine awp_drawLG L' c1 c2 e2 e3' c3 (fun i q hi=> ?_) ?_
   ·rcases e4' i q hi with h6|⟨c,h6,h7⟩
    ·exact locAt_of (by simpa using h6)
    ·exact cells_get c4 e2 h6 (by simpa using h7)
   ·rw[←e,←e5']
    exact h5 (Q .normal) hq
def ownsIn:List SV→List Nat
 | []=> []
 |v::l=>(match v with| .own κ=> [κ]|_=> [])++ownsIn l
def litRows1(s:SSt)(t:Nat):List Oper→List Nat
 | []=> []
 |o::l=>(if o.dst=some t then match o.op with
   | .load _ ad=>match s.ev ad with
    |some (.ptr κ 0)=>match gt κ s.hp with
     |some (.box _ cs)=>ownsIn cs
     |_=> []
    |_=> []
   |_=> []
  else [])++litRows1 s t l
def litRows(s:SSt)(ops:List Oper):List Oper→List Nat
 | []=> []
 |o::l=>(match o.op with
   | .buildSlice _ _ ps=>ps.toList.flatMap fun p=>match p.2 with| .tmp t=>litRows1 s t ops|_=> []
   |_=> [])++litRows s ops l
def pureSt(P:Program)(s:SSt):List Oper→SSt
 | []=>s
 |o::l=>pureSt P (if pureU o then(match valS P s o.op with|some (true,v)=>s.put o.dst v|_=>s)else s) l
def loadRows1(P:Program)(s:SSt)(t:Nat):List Oper→List Nat
 | []=> []
 |o::l=>(if o.dst=some t then match o.op with
   | .load ty ad=>match s.ev ad with
    |some (.ptr κ off)=>match gt κ s.hp with
     |some (.box _ cs)=>ownsIn ((cs.drop off).take (match aggT P ty with|some true=>(match szT P ty with|some n=>n|none=>1)|_=>1))
     |_=> []
    |_=> []
   |_=> []
  else [])++loadRows1 P s t l
def callRows(P:Program)(fl:FuncId→Bool)(s:SSt)(ops:List Oper):List Oper→List Nat
 | []=> []
 |o::l=>(match o.op with
   | .call c=>if isCallO o.op then(if(match c.callee with| .value (.func f)=>fl f|_=>false)then []else(c.args.toList.flatMap fun x=>match x with| .tmp t=>loadRows1 P s t ops|_=> []))else []
   |_=> [])++callRows P fl s ops l
def fl15(fl:FuncId→Bool):FuncId→Bool:=fun f=>fl (15000000+f)
def drawK{R:Type}(P:Program)(ck:CallK)(fl:FuncId→Bool)(ops:Array Oper)(s:SSt)(k:SSt→Option R):Option R:=
 match leastOk ops.toList (ops.size+1) 0 with
 |some p=>if(ops.toList.take p).any (locHead P fl)then
   match s.freezeL (dedup (headRows fl s (ops.toList.take p)++headRows fl (pureSt P s (ops.toList.take p)) (ops.toList.take p)++(callRows P (fl15 fl) (pureSt P s (ops.toList.take p)) (ops.toList.take p) (ops.toList.take p)++litRows s (ops.toList.take p) (ops.toList.take p))))with
   |some s1=>drawLK P ck fl ops p s1 k
   |none=>none
  else if drawOk ops.toList p&&(ops.toList.take p).all (fun o=>valKindO o.op)then
   match s.freezeL (dedup (headRows fl s (ops.toList.take p)++headRows fl (pureSt P s (ops.toList.take p)) (ops.toList.take p)++callRows P fl (pureSt P s (ops.toList.take p)) (ops.toList.take p) (ops.toList.take p)))with
   |some s1=>headsK P ck ops p ops.toList (s1.fixAll (headBoxes s1 (ops.toList.take p))) fun l' s'=>opsR P ck fl ops l' s' k
   |none=>none
  else none
 |none=>none
theorem drawK_ok{R:Type}{P:Program}{ck:CallK}(hck:CallOk P ck){fl:FuncId→Bool}{ops:Array Oper}{s:SSt}{k:SSt→Option R}{r:R}(h:drawK P ck fl ops s k=some r): ∃s',k s'=some r∧ ∀Q:Exit→St→Prop,Q .normal s'.toSt→AWpA P ops Q s.toSt:=by
 have e:ops=ops.toList.toArray:=by simp
 unfold drawK at h
 split at h
 ·rename_i p hp
  split at h
  ·split at h
   ·rename_i s1 h1
    obtain⟨s',h4,h5⟩:=drawLK_ok hck h
    exact⟨s',h4,fun Q hq=>awpA_le (freezeL_le h1) (h5 Q hq)⟩
   ·cases h
  split at h
  ·rename_i hok
   simp only[Bool.and_eq_true]at hok
   split at h
   ·rename_i s1 h1
    obtain⟨l',s2,h2,h3⟩:=headsK_ok hck h
    obtain⟨s',h4,h5⟩:=opsR_ok hck h2
    refine⟨s',h4,fun Q hq=>awpA_le ((fixAll_le (headBoxes s1 (ops.toList.take p)) s1).trans (freezeL_le h1)) ?_⟩
    rw[e]
    refine awp_drawqA p hok.1 ?_
    rw[←e]
    exact h3 (fun l' s'=>AWpL P ops l' (Q .normal) s') (h5 (Q .normal) hq)
   ·cases h
  ·cases h
 ·cases h
theorem opsR_ok2{R:Type}{P:Program}{ck:CallK}(hck:CallOk P ck){fl:FuncId→Bool}{ops:Array Oper}{k:SSt→Option R}{r:R}(l2:List Oper): ∀ {l:List Oper} {s:SSt},opsR P ck fl ops l s k=some r→ ∃s',k s'=some r∧ ∀Q:St→Prop,AWpL P ops l2 Q s'.toSt→AWpL P ops (l++l2) Q s.toSt
 | [],s,h=>⟨s,h,fun Q hq=>hq⟩
 |o::l,s,h=>by
  simp only[opsR]at h
  obtain⟨s1,h1,h2⟩:=opGK_ok hck h
  obtain⟨s',h3,h4⟩:=opsR_ok2 hck l2 h2
  exact⟨s',h3,fun Q hq=>h1 (l++l2) Q (h4 Q hq)⟩
def noPeek(fl:FuncId→Bool)(o:Oper):Bool:=match o.op with
 | .slice _ _ _ _ _=>match o.dst with
  |some t=> !fl (2000000+t)
  |none=>true
 |_=>true
def intR{R:Type}(ob:Bool)(s:SSt)(d1 d2:Option Nat)(k:SSt→Option R):Bool×SV→Option R:=fun r=>match r.2 with
 | .i kk x=>cond (ob&&r.1) (k ((s.put d1 .bot).put d2 (.i kk x))) none
 |_=>none
def peekK{R:Type}(P:Program)(s:SSt)(o1 o2:Oper)(k:SSt→Option R):Option R:=
 match s.freezeL (takenK s.toSt o1)with
 |some sf=>match o1.guard,o2.guard,s.okDst o1.dst&&(sf.okDst o1.dst&&s.okDst o2.dst)with
  |none,none,true=>match valS P sf o1.op with
   |some r1=>match valS P (sf.put o1.dst r1.2) o2.op with
    |some r2=>intR r1.1 s o1.dst o2.dst k r2
    |none=>none
   |none=>none
  |_,_,_=>none
 |none=>none
theorem wp_yld{P:Program}{o:Oper}{a:Act}{w:World}{u:Value}{ops:Array Oper}{l:List Oper}{K:Exit→Act→World→Prop}(hg:o.guard=none)(h:Yld P o a w u)(next:wpList P ops K l (a.put o.dst u) w):wpList P ops K (o::l) a w:=by
 unfold wpList
 rw[if_pos (wanted_none hg _)]
 refine .inl ?_
 unfold Oper.wp
 unfold Yld at h
 rw[h]
 exact next
theorem peekK_ok{R:Type}{P:Program}{s:SSt}{o1 o2:Oper}{k:SSt→Option R}{r:R}{ops:Array Oper}(h:peekK P s o1 o2 k=some r): ∃s',k s'=some r∧ ∀(l:List Oper) (Q:St→Prop),AWpL P ops l Q s'.toSt→AWpL P ops (o1::o2::l) Q s.toSt:=by
 unfold peekK at h
 split at h
 ·rename_i sf hf
  split at h
  ·rename_i hg1 hg2 hd
   simp only[Bool.and_eq_true]at hd
   obtain⟨hd1,hd1f,hd2⟩:=hd
   split at h
   ·rename_i r1 hv1
    obtain⟨ob1,v1⟩:=r1
    split at h
    ·rename_i r2 hv2
     obtain⟨ob2,v2⟩:=r2
     unfold intR at h
     split at h
     ·rename_i kk x hx
      simp only at hx
      subst hx
      simp only at h hv2
      cases hb:(ob1&&ob2)with
      |false=>rw[hb]at h;cases h
      |true=>
       rw[hb]at h
       simp only[Bool.and_eq_true]at hb
       refine⟨_,h,fun l Q next=> ?_⟩
       intro cx m a w K hr hk
       obtain⟨u1',e1,l1⟩:=valS_sound hv1 hb.1
       obtain⟨u2',e2,l2⟩:=valS_sound hv2 hb.2
       have hrf:=freezeL_le hf cx m a w hr
       obtain⟨u1,y1,q1⟩:=valOp_sound hrf e1
       have hrf1:SRep cx m (sf.put o1.dst v1).toSt (a.put o1.dst u1) w:=by
        rw[put_img]
        exact hrf.put (by rw[okDst_img];exact hd1f) (l1 w _ m u1 q1)
       obtain⟨u2,y2,q2⟩:=valOp_sound hrf1 e2
       have q2':=l2 w _ m u2 q2
       refine wp_yld hg1 y1 (wp_yld hg2 y2 (next cx m _ w K ?_ hk))
       rw[put_img,put_img]
       have hr1:=hr.put (dst:=o1.dst) (v:= .bot) (u:=u1) (by rw[okDst_img];exact hd1) (by simp only[RepV])
       have hd2':(s.put o1.dst .bot).toSt.okDst o2.dst=true:=by
        rw[okDst_img,okDst_n (s:=s) (by cases o1.dst<;>rfl)];exact hd2
       rw[put_img]at hd2'
       refine hr1.put hd2' ?_
       simp only[SV.toAV,RepV,RepD]at q2' ⊢
       exact q2'
     ·cases h
    ·cases h
   ·cases h
  ·cases h
 ·cases h
def regK0{R:Type}(P:Program)(ck:CallK)(fl:FuncId→Bool)(ops:Array Oper)(draw:Bool)(s:SSt)(k:SSt→Option R):Option R:=
 match draw with
 |true=>drawK P ck fl ops s k
 |false=>match ops.toList.dropWhile (noPeek fl)with
  |o1::o2::post=>opsR P ck fl ops (ops.toList.takeWhile (noPeek fl)) s fun s1=>peekK P s1 o1 o2 fun s2=>opsR P ck fl ops post s2 k
  |_=>opsR P ck fl ops ops.toList s k
def AWpG(P:Program)(ops:Array Oper)(draw:Bool)(Q:Exit→St→Prop)(s:St):Prop:=match draw with
 |true=>AWpA P ops Q s
 |false=>AWpL P ops ops.toList (Q .normal) s
theorem awp_of_G{P:Program}(hm:P.follows .mixedOrders=true){ops:Array Oper}{draw:Bool}{id:Nat}{Q:Exit→St→Prop}{s:St}(h:AWpG P ops draw Q s):AWp P (.region id ops draw) Q s:=by
 cases draw with
 |true=>exact awp_of_A hm h
 |false=>exact awp_region h
theorem regK0_ok{R:Type}{P:Program}{ck:CallK}(hck:CallOk P ck){fl:FuncId→Bool}{ops:Array Oper}{draw:Bool}{s:SSt}{k:SSt→Option R}{r:R}(h:regK0 P ck fl ops draw s k=some r): ∃s',k s'=some r∧ ∀Q:Exit→St→Prop,Q .normal s'.toSt→AWpG P ops draw Q s.toSt:=by
 cases draw with
 |true=>exact drawK_ok hck h
 |false=>
  simp only[regK0]at h
  split at h
  ·rename_i o1 o2 post hd
   obtain⟨s1,h1,h2⟩:=opsR_ok2 hck (o1::o2::post) h
   obtain⟨s2,h3,h4⟩:=peekK_ok (ops:=ops) h1
   obtain⟨s',h5,h6⟩:=opsR_ok hck h3
   refine⟨s',h5,fun Q hq=> ?_⟩
   show AWpL P ops ops.toList (Q .normal) s.toSt
   have e:ops.toList=ops.toList.takeWhile (noPeek fl)++(o1::o2::post):=by rw[←hd];exact(List.takeWhile_append_dropWhile ..).symm
   rw[e]
   exact h2 _ (h4 post _ (h6 (Q .normal) hq))
  ·obtain⟨s',h1,h2⟩:=opsR_ok hck h
   exact⟨s',h1,fun Q hq=>h2 (Q .normal) hq⟩
def regK{R:Type}(P:Program)(ck:CallK)(fl:FuncId→Bool)(ops:Array Oper)(draw:Bool)(s:SSt)(k:SSt→Option R):Option R:=
 regK0 P ck fl ops draw s fun s'=>k (matR P fl ops s')
theorem regK_ok{R:Type}{P:Program}(hm:P.follows .mixedOrders=true){ck:CallK}(hck:CallOk P ck){fl:FuncId→Bool}{id:Nat}{ops:Array Oper}{draw:Bool}{s:SSt}{k:SSt→Option R}{r:R}(h:regK P ck fl ops draw s k=some r): ∃s',k s'=some r∧ ∀Q:Exit→St→Prop,Q .normal s'.toSt→AWp P (.region id ops draw) Q s.toSt:=by
 obtain⟨s',h1,h2⟩:=regK0_ok hck h
 exact⟨_,h1,fun Q hq=>awp_post_gst (awp_of_G hm (h2 (fun e s'=> ∃s2,GSt s2 s'∧Q e s2) ⟨_,matR_le s',hq⟩))⟩
def sameE:Exit→Exit→Bool
 | .normal,.normal=>true
 | .exit i,.exit j=>decide (i=j)
 | .goto i,.goto j=>decide (i=j)
 | .ret,.ret=>true
 |_,_=>false
theorem sameE_eq{a b:Exit}(h:sameE a b=true):a=b:=by
 cases a<;>cases b<;>simp_all[sameE]
structure OPat (Y:Type) where
 get:Exit→SSt→Option Y
 put:(R:Type)→Y→(Exit→SSt→Option R)→Option R
 law: ∀e s y,get e s=some y→ ∀(R:Type) (k:Exit→SSt→Option R) (r:R),put R y k=some r→ ∃s',k e s'=some r∧GSt s'.toSt s.toSt
def one{X:Type}(e0:Exit)(gh:List Gh)(p:SPat X):OPat X where
 get e s:=if sameE e e0=true then p.get (Gh.runs gh s)else none
 put R y k:=k e0 (p.put y)
 law e s y h R k r hk:=by
  split at h
  ·rename_i he
   have:=sameE_eq he
   subst this
   exact⟨_,hk,(p.le _ _ h).gst.trans (Gh.runs_le gh s)⟩
  ·cases h
def orL{A B:Type}(x:Option A)(y:Option B):Option (A ⊕ B):=
 match x with
 |some a=>some (.inl a)
 |none=>match y with
  |some b=>some (.inr b)
  |none=>none
def sumK{A B C:Type}(x:A ⊕ B)(f:A→C)(g:B→C):C:=match x with| .inl a=>f a| .inr b=>g b
def two{A B:Type}(p:OPat A)(q:OPat B):OPat (A ⊕ B) where
 get e s:=orL (p.get e s) (q.get e s)
 put R y k:=sumK y (fun x=>p.put R x k) (fun x=>q.put R x k)
 law e s y h R k r hk:=by
  unfold orL at h
  split at h
  ·rename_i a ha;cases h;exact p.law e s a ha R k r hk
  ·split at h
   ·rename_i b hb;cases h;exact q.law e s b hb R k r hk
   ·cases h
inductive AT:Type 1 where
 |leaf
 |node (a b:AT)
 |loop (X Y:Type) (inp:SPat X) (gh:List Gh) (outs:OPat Y) (L:X→Option Y)
 |cut (X Y:Type) (inp:SPat X) (gh:List Gh) (outs:OPat Y) (L:(R:Type)→X→(Y→Option R)→Option R) (next:AT)
 |loopE (X Y:Type) (inp:SPat X) (gh:List Gh) (outs:OPat Y) (L:X→Option Y) (next:AT)
def AT.isLoop:AT→Bool
 | .loop _ _ _ _ _ _=>true
 | .loopE _ _ _ _ _ _ _=>true
 |_=>false
def AT.l:AT→AT
 | .node a _=>a
 |_=> .leaf
def AT.r:AT→AT
 | .node _ b=>b
 |_=> .leaf
def bnd{A B:Type}(x:Option A)(f:A→Option B):Option B:=x.bind f
def thenK{R:Type}(k1:SSt→Option R)(k:Exit→SSt→Option R):Exit→SSt→Option R:=fun e s=>match e with
 | .normal=>k1 s
 |e=>k e s
def blockK{R:Type}(i:Nat)(k:Exit→SSt→Option R):Exit→SSt→Option R:=fun e s=>match e with
 | .exit j=>if j=i then k .normal s else k (.exit j) s
 |e=>k e s
def noGoto{R:Type}(k:Exit→SSt→Option R):Exit→SSt→Option R:=fun e s=>match e with
 | .goto _=>none
 |e=>k e s
def scopeK{R:Type}(c:Code)(kr:Code→SSt→Option R)(k:Exit→SSt→Option R):Exit→SSt→Option R:=fun e s=>match e with
 | .goto l=>match findLabel c l with
  |some rest=>kr rest s
  |none=>none
 |e=>k e s
def loopK{R:Type}(X Y:Type)(inp:SPat X)(gh:List Gh)(outs:OPat Y)(L:X→Option Y)(s:SSt)(k:Exit→SSt→Option R):Option R:=
 match inp.get (Gh.runs gh s)with
 |some x=>bnd (L x) fun y=>outs.put R y k
 |none=>none
def cutK{R:Type}:AT→SSt→(Exit→SSt→Option R)→(AT→Option R)→Option R
 | .cut X Y inp gh outs L next,s,k,f=>match inp.get (Gh.runs gh s)with
  |some x=>L R x fun y=>outs.put R y k
  |none=>cutK next s k f
 | .leaf,_,_,f=>f .leaf
 | .node a b,_,_,f=>f (.node a b)
 | .loop X Y inp gh outs L,_,_,f=>f (.loop X Y inp gh outs L)
 | .loopE X Y inp gh outs L next,_,_,f=>f (.loopE X Y inp gh outs L next)
def codeK{R:Type}(P:Program)(ck:CallK)(fl:FuncId→Bool):Nat→AT→Code→SSt→(Exit→SSt→Option R)→Option R
 |0,_,_,_,_=>none
 |n+1,t,c,s,k=>match c with
  | .skip=>k .normal s
  | .label _=>k .normal s
  | .exit i=>k (.exit i) s
  | .ret=>k .ret s
  | .goto l=>k (.goto l) s
  | .seq a b=>cutK t.l s (thenK (fun s'=>codeK P ck fl n t.r b s' k) k) fun t'=>codeK P ck fl n t' a s (thenK (fun s'=>codeK P ck fl n t.r b s' k) k)
  | .cond c a b=>match s.ev c with
   |some (.d (.v (.bool true)))=>codeK P ck fl n t.l a s k
   |some (.d (.v (.bool false)))=>codeK P ck fl n t.r b s k
   |some (.b x)=>cond x (codeK P ck fl n t.l a (s.knowO c true) k) (codeK P ck fl n t.r b (s.knowO c false) k)
   |_=>none
  | .block i c=>codeK P ck fl n t.l c s (blockK i k)
  | .scope c=>codeK P ck fl n t.l c s (scopeK c (fun rest s'=>codeK P ck fl n t.r rest s' (noGoto k)) k)
  | .loop c=>match t with
   | .loop X Y inp gh outs L=>loopK X Y inp gh outs L s k
   | .loopE X Y inp gh outs L next=>match inp.get (Gh.runs gh s)with
    |some x=>bnd (L x) fun y=>outs.put R y k
    |none=>codeK P ck fl n next (.loop c) s k
   |t=>codeK P ck fl n t.l c s (thenK (fun s'=>codeK P ck fl n t (.loop c) s' k) k)
  | .region _ ops draw=>regK P ck fl ops draw s (k .normal)
  |_=>none
def LoopOk(P:Program)(X Y:Type)(inp:SPat X)(outs:OPat Y)(L:X→Option Y)(c:Code):Prop:=
 ∀x y,L x=some y→ ∀(R:Type) (k:Exit→SSt→Option R) (r:R),outs.put R y k=some r→ ∃e s',k e s'=some r∧
  ∀(cx:Ctx) (m:Nat→Value) (a:Act) (w:World) (Q:Exit→Act→World→Prop),(∀m' a' w',SRep cx m' s'.toSt a' w'→Q e a' w')→SRep cx m (inp.put x).toSt a w→LoopAt P c Q a w
def CutOk(P:Program)(X Y:Type)(inp:SPat X)(outs:OPat Y)(L:(R:Type)→X→(Y→Option R)→Option R)(c:Code):Prop:=
 ∀(R:Type) x (K:Y→Option R) (r:R),L R x K=some r→ ∃y,K y=some r∧ ∀(R':Type) (k:Exit→SSt→Option R') (r':R'),outs.put R' y k=some r'→ ∃e s',k e s'=some r'∧ ∀Q:Exit→St→Prop,Q e s'.toSt→AWp P c Q (inp.put x).toSt
def TreeOk(P:Program):AT→Code→Prop
 | .leaf,_=>True
 | .cut X Y inp gh outs L next,c=>CutOk P X Y inp outs L c∧TreeOk P next c
 | .node a b,c=>match c with
  | .seq x y=>TreeOk P a x∧TreeOk P b y
  | .cond _ x y=>TreeOk P a x∧TreeOk P b y
  | .block _ c=>TreeOk P a c
  | .scope c=>TreeOk P a c∧ ∀l rest,findLabel c l=some rest→TreeOk P b rest
  | .loop c=>TreeOk P a c
  |_=>True
 | .loop X Y inp gh outs L,c=>match c with
  | .loop c=>LoopOk P X Y inp outs L c
  |_=>False
 | .loopE X Y inp gh outs L next,c=>(match c with
  | .loop c=>LoopOk P X Y inp outs L c
  |_=>False)∧TreeOk P next c
theorem cutK_ok{R:Type}{P:Program}{c:Code}{s:SSt}{k:Exit→SSt→Option R}{f:AT→Option R}{r:R}: ∀(t:AT),TreeOk P t c→cutK t s k f=some r→
  (∃e s',k e s'=some r∧ ∀Q:Exit→St→Prop,Q e s'.toSt→AWp P c Q s.toSt)∨ ∃t',TreeOk P t' c∧f t'=some r
 | .cut X Y inp gh outs L next,ht,h=>by
  simp only[cutK]at h
  split at h
  ·rename_i x hx
   obtain⟨y,h1,h2⟩:=ht.1 R x _ r h
   obtain⟨e,s',h3,h4⟩:=h2 R k r h1
   refine .inl ⟨e,s',h3,fun Q hq cx m a w hr=> ?_⟩
   obtain⟨m',hr'⟩:=((inp.le _ _ hx).gst.trans (Gh.runs_le gh s)) cx m a w hr
   exact h4 Q hq cx m' a w hr'
  ·exact cutK_ok next ht.2 h
 | .leaf,ht,h=> .inr ⟨_,ht,h⟩
 | .node a b,ht,h=> .inr ⟨_,ht,h⟩
 | .loop X Y inp gh outs L,ht,h=> .inr ⟨_,ht,h⟩
 | .loopE X Y inp gh outs L next,ht,h=> .inr ⟨_,ht,h⟩
theorem codeK_ok{R:Type}{P:Program}(hm:P.follows .mixedOrders=true){ck:CallK}(hck:CallOk P ck){fl:FuncId→Bool}: ∀n,
  (∀(t:AT) (c:Code) (s:SSt) (k:Exit→SSt→Option R) (r:R),TreeOk P t c→codeK P ck fl n t c s k=some r→ ∃e s',k e s'=some r∧ ∀Q:Exit→St→Prop,Q e s'.toSt→AWp P c Q s.toSt)∧
  (∀(t:AT) (c:Code) (s:SSt) (k:Exit→SSt→Option R) (r:R),TreeOk P t (.loop c)→codeK P ck fl n t (.loop c) s k=some r→ ∃e s',k e s'=some r∧
   ∀(cx:Ctx) (m:Nat→Value) (a:Act) (w:World) (Q:Exit→Act→World→Prop),(∀m' a' w',SRep cx m' s'.toSt a' w'→Q e a' w')→SRep cx m s.toSt a w→LoopAt P c Q a w):=by
 intro n
 induction n with
 |zero=>exact⟨fun t c s k r _ h=>by simp[codeK]at h,fun t c s k r _ h=>by simp[codeK]at h⟩
 |succ n ih=>
  obtain⟨ih1,ih2⟩:=ih
  have loop: ∀(t:AT) (c:Code) (s:SSt) (k:Exit→SSt→Option R) (r:R),TreeOk P t (.loop c)→codeK P ck fl (n+1) t (.loop c) s k=some r→ ∃e s',k e s'=some r∧
   ∀(cx:Ctx) (m:Nat→Value) (a:Act) (w:World) (Q:Exit→Act→World→Prop),(∀m' a' w',SRep cx m' s'.toSt a' w'→Q e a' w')→SRep cx m s.toSt a w→LoopAt P c Q a w:=by
   intro t c s k r ht h
   have unroll:TreeOk P t.l c→codeK P ck fl n t.l c s (thenK (fun s'=>codeK P ck fl n t (.loop c) s' k) k)=some r→ ∃e s',k e s'=some r∧
    ∀(cx:Ctx) (m:Nat→Value) (a:Act) (w:World) (Q:Exit→Act→World→Prop),(∀m' a' w',SRep cx m' s'.toSt a' w'→Q e a' w')→SRep cx m s.toSt a w→LoopAt P c Q a w:=by
    intro htl h
    obtain⟨e,s1,h1,h2⟩:=ih1 _ _ _ _ _ htl h
    cases e with
    |normal=>
     simp only[thenK]at h1
     obtain⟨e',s',h3,h4⟩:=ih2 _ _ _ _ _ ht h1
     refine⟨e',s',h3,fun cx m a w Q hQ hr=> ?_⟩
     have:=h2 (fun e s2=>e= .normal∧s2=s1.toSt) ⟨rfl,rfl⟩ cx m a w hr
     refine loopAt_step (Code.wp_mono ?_ this)
     rintro e' a' w' ⟨s2,m',⟨rfl,rfl⟩,hr'⟩
     exact h4 cx m' a' w' Q hQ hr'
    |_=>
     refine⟨_,s1,h1,fun cx m a w Q hQ hr=> ?_⟩
     have:=h2 (fun e s2=>e=_∧s2=s1.toSt) ⟨rfl,rfl⟩ cx m a w hr
     refine loopAt_step (Code.wp_mono ?_ this)
     rintro e' a' w' ⟨s2,m',⟨rfl,rfl⟩,hr'⟩
     exact hQ m' a' w' hr'
   cases t with
   |leaf=>exact unroll trivial (by simpa only[codeK]using h)
   |cut X Y inp gh outs L next=>exact unroll trivial (by simpa only[codeK]using h)
   |node a b=>exact unroll ht (by simpa only[codeK]using h)
   |loop X Y inp gh outs L=>
    simp only[codeK,loopK]at h
    split at h
    ·rename_i x hx
     unfold bnd at h
     obtain⟨y,hy,hk⟩:=Option.bind_eq_some_iff.1 h
     obtain⟨e,s',h1,h2⟩:=ht x y hy R k r hk
     refine⟨e,s',h1,fun cx m a w Q hQ hr=> ?_⟩
     obtain⟨m',hr'⟩:=((inp.le _ _ hx).gst.trans (Gh.runs_le gh s)) cx m a w hr
     exact h2 cx m' a w Q hQ hr'
    ·cases h
   |loopE X Y inp gh outs L next=>
    simp only[codeK]at h
    split at h
    ·rename_i x hx
     unfold bnd at h
     obtain⟨y,hy,hk⟩:=Option.bind_eq_some_iff.1 h
     obtain⟨e,s',h1,h2⟩:=ht.1 x y hy R k r hk
     refine⟨e,s',h1,fun cx m a w Q hQ hr=> ?_⟩
     obtain⟨m',hr'⟩:=((inp.le _ _ hx).gst.trans (Gh.runs_le gh s)) cx m a w hr
     exact h2 cx m' a w Q hQ hr'
    ·exact ih2 _ _ _ _ _ ht.2 h
  refine⟨?_,loop⟩
  intro t c s k r ht h
  have tl: ∀ {x y:Code},(∀a b,t= .node a b→TreeOk P a x)→t.isLoop=false→TreeOk P t.l x:=by
   intro x y h1 h2
   cases t with
   |leaf=>trivial
   |cut X Y inp gh outs L next=>trivial
   |node a b=>exact h1 a b rfl
   |loop X Y inp gh outs L=>cases h2
   |loopE X Y inp gh outs L next=>cases h2
  have tr: ∀ {x:Code},(∀a b,t= .node a b→TreeOk P b x)→t.isLoop=false→TreeOk P t.r x:=by
   intro x h1 h2
   cases t with
   |leaf=>trivial
   |cut X Y inp gh outs L next=>trivial
   |node a b=>exact h1 a b rfl
   |loop X Y inp gh outs L=>cases h2
   |loopE X Y inp gh outs L next=>cases h2
  cases c with
  |skip=>exact⟨_,s,h,fun Q hq=>awp_skip hq⟩
  |label l=>exact⟨_,s,h,fun Q hq=>awp_label hq⟩
  |exit i=>exact⟨_,s,h,fun Q hq=>awp_exit hq⟩
  |ret=>exact⟨_,s,h,fun Q hq=>awp_ret hq⟩
  |goto l=>exact⟨_,s,h,fun Q hq=>awp_goto hq⟩
  |seq x y=>
   have hne:t.isLoop=false:=by
    cases t with
    |loop X Y inp gh outs L=>exact ht.elim
    |loopE X Y inp gh outs L next=>exact ht.1.elim
    |_=>rfl
   have h1:=tl (x:=x) (y:=y) (fun a b e=>by subst e;exact ht.1) hne
   have h2:=tr (x:=y) (fun a b e=>by subst e;exact ht.2) hne
   simp only[codeK]at h
   have h34: ∃e s1,thenK (fun s'=>codeK P ck fl n t.r y s' k) k e s1=some r∧ ∀Q:Exit→St→Prop,Q e s1.toSt→AWp P x Q s.toSt:=by
    rcases cutK_ok _ h1 h with h|⟨t',h1',h⟩
    ·exact h
    ·exact ih1 _ _ _ _ _ h1' h
   obtain⟨e,s1,h3,h4⟩:=h34
   cases e with
   |normal=>
    simp only[thenK]at h3
    obtain⟨e',s',h5,h6⟩:=ih1 _ _ _ _ _ h2 h3
    exact⟨e',s',h5,fun Q hq=>awp_seq (h4 _ (h6 Q hq))⟩
   |_=>exact⟨_,s1,h3,fun Q hq=>awp_seq (h4 _ hq)⟩
  |cond x a b=>
   have hne:t.isLoop=false:=by
    cases t with
    |loop X Y inp gh outs L=>exact ht.elim
    |loopE X Y inp gh outs L next=>exact ht.1.elim
    |_=>rfl
   have h1:=tl (x:=a) (y:=b) (fun a b e=>by subst e;exact ht.1) hne
   have h2:=tr (x:=b) (fun a b e=>by subst e;exact ht.2) hne
   simp only[codeK]at h
   split at h
   ·rename_i hx
    obtain⟨e,s',h3,h4⟩:=ih1 _ _ _ _ _ h1 h
    exact⟨e,s',h3,fun Q hq=>awp_cond_true (by simpa only[SV.toAV]using SSt.ev_img hx) (h4 Q hq)⟩
   ·rename_i hx
    obtain⟨e,s',h3,h4⟩:=ih1 _ _ _ _ _ h2 h
    exact⟨e,s',h3,fun Q hq=>awp_cond_false (by simpa only[SV.toAV]using SSt.ev_img hx) (h4 Q hq)⟩
   ·rename_i z hx
    cases z with
    |true=>
     obtain⟨e,s',h3,h4⟩:=ih1 _ _ _ _ _ h1 h
     rw[knowO_img hx]at h4
     exact⟨e,s',h3,fun Q hq=>awp_cond_true (by simpa only[SV.toAV]using SSt.ev_img hx) (h4 Q hq)⟩
    |false=>
     obtain⟨e,s',h3,h4⟩:=ih1 _ _ _ _ _ h2 h
     rw[knowO_img hx]at h4
     exact⟨e,s',h3,fun Q hq=>awp_cond_false (by simpa only[SV.toAV]using SSt.ev_img hx) (h4 Q hq)⟩
   ·cases h
  |block i c=>
   have hne:t.isLoop=false:=by
    cases t with
    |loop X Y inp gh outs L=>exact ht.elim
    |loopE X Y inp gh outs L next=>exact ht.1.elim
    |_=>rfl
   have h1:=tl (x:=c) (y:=c) (fun a b e=>by subst e;exact ht) hne
   simp only[codeK]at h
   obtain⟨e,s1,h3,h4⟩:=ih1 _ _ _ _ _ h1 h
   cases e with
   |exit j=>
    simp only[blockK]at h3
    split at h3
    ·rename_i e;exact⟨_,s1,h3,fun Q hq=>awp_block (h4 _ (by simp only[Xblock];rw[if_pos e];exact hq))⟩
    ·rename_i e;exact⟨_,s1,h3,fun Q hq=>awp_block (h4 _ (by simp only[Xblock];rw[if_neg e];exact hq))⟩
   |_=>exact⟨_,s1,h3,fun Q hq=>awp_block (h4 _ hq)⟩
  |scope c=>
   have hne:t.isLoop=false:=by
    cases t with
    |loop X Y inp gh outs L=>exact ht.elim
    |loopE X Y inp gh outs L next=>exact ht.1.elim
    |_=>rfl
   have h1:=tl (x:=c) (y:=c) (fun a b e=>by subst e;exact ht.1) hne
   simp only[codeK]at h
   obtain⟨e,s1,h3,h4⟩:=ih1 _ _ _ _ _ h1 h
   cases e with
   |goto l=>
    simp only[scopeK]at h3
    split at h3
    ·rename_i rest hf
     have h2:=tr (x:=rest) (fun a b e=>by subst e;exact ht.2 l rest hf) hne
     obtain⟨e',s',h5,h6⟩:=ih1 _ _ _ _ _ h2 h3
     cases e' with
     |goto l'=>simp[noGoto]at h5
     |_=>exact⟨_,s',h5,fun Q hq=>awp_scope_fwd l hf (h4 _ ⟨rfl,h6 _ hq⟩)⟩
    ·cases h3
   |_=>exact⟨_,s1,h3,fun Q hq=>awp_scope (h4 _ hq)⟩
  |loop c=>
   obtain⟨e,s',h1,h2⟩:=loop t c s k r ht h
   refine⟨e,s',h1,fun Q hq cx m a w hr=> ?_⟩
   exact loopAt_of (h2 cx m a w _ (fun m' a' w' hr'=>⟨s'.toSt,m',hq,hr'⟩) hr)
  |region id ops draw=>
   simp only[codeK]at h
   obtain⟨s',h1,h2⟩:=regK_ok (id:=id) hm hck h
   exact⟨_,s',h1,h2⟩
  |rangeFunc f ps a b=>simp[codeK]at h
  |refuse w=>simp[codeK]at h
def roundK{X Y:Type}(inp:SPat X)(gh:List Gh)(outs:OPat Y)(L:X→Option Y):Exit→SSt→Option Y:=fun e s=>match e with
 | .normal=>match inp.get (Gh.runs gh s)with
  |some x=>L x
  |none=>none
 |e=>outs.get e s
theorem loop_ok{P:Program}(hm:P.follows .mixedOrders=true){ck:CallK}(hck:CallOk P ck){fl:FuncId→Bool}{X Y:Type}{inp:SPat X}{gh:List Gh}{outs:OPat Y}(L:Nat→X→Option Y){N:Nat}{t:AT}{c:Code}(ht:TreeOk P t c)
  (h0: ∀x,L 0 x=none)(hs: ∀n x,L (n+1) x=codeK P ck fl N t c (inp.put x) (roundK inp gh outs (L n))): ∀n,LoopOk P X Y inp outs (L n) c:=by
 intro n
 induction n with
 |zero=>intro x y h;rw[h0]at h;cases h
 |succ n ih=>
  intro x y h R k r hk
  rw[hs]at h
  obtain⟨e,s1,h1,h2⟩:=(codeK_ok hm hck N).1 _ _ _ _ _ ht h
  cases e with
  |normal=>
   simp only[roundK]at h1
   split at h1
   ·rename_i x' hx
    obtain⟨e,s',h3,h4⟩:=ih x' y h1 R k r hk
    refine⟨e,s',h3,fun cx m a w Q hQ hr=> ?_⟩
    have:=h2 (fun e s2=>e= .normal∧s2=s1.toSt) ⟨rfl,rfl⟩ cx m a w hr
    refine loopAt_step (Code.wp_mono ?_ this)
    rintro e' a' w' ⟨s2,m',⟨rfl,rfl⟩,hr'⟩
    obtain⟨m2,hr2⟩:=((inp.le _ _ hx).gst.trans (Gh.runs_le gh s1)) cx m' a' w' hr'
    exact h4 cx m2 a' w' Q hQ hr2
   ·cases h1
  |_=>
   obtain⟨s',h3,h4⟩:=outs.law _ _ _ h1 R k r hk
   refine⟨_,s',h3,fun cx m a w Q hQ hr=> ?_⟩
   have:=h2 (fun e s2=>e=_∧s2=s1.toSt) ⟨rfl,rfl⟩ cx m a w hr
   refine loopAt_step (Code.wp_mono ?_ this)
   rintro e' a' w' ⟨s2,m',⟨rfl,rfl⟩,hr'⟩
   obtain⟨m2,hr2⟩:=h4 cx m' a' w' hr'
   exact hQ m2 a' w' hr2
theorem cut_ok{P:Program}(hm:P.follows .mixedOrders=true){ck:CallK}(hck:CallOk P ck){fl:FuncId→Bool}{X Y:Type}{inp:SPat X}{outs:OPat Y}{L:(R:Type)→X→(Y→Option R)→Option R}{N:Nat}{t:AT}{c:Code}(ht:TreeOk P t c)
  (hs: ∀(R:Type) x (K:Y→Option R),L R x K=codeK P ck fl N t c (inp.put x) (fun e s=>bnd (outs.get e s) K)):CutOk P X Y inp outs L c:=by
 intro R x K r h
 rw[hs]at h
 obtain⟨e,s1,h1,h2⟩:=(codeK_ok hm hck N).1 _ _ _ _ _ ht h
 unfold bnd at h1
 obtain⟨y,hy,hK⟩:=Option.bind_eq_some_iff.1 h1
 refine⟨y,hK,fun R' k r' hk=> ?_⟩
 obtain⟨s',h3,h4⟩:=outs.law _ _ _ hy R' k r' hk
 exact⟨e,s',h3,fun Q hq=>awp_post_gst (h2 (fun e s'=> ∃s2,GSt s2 s'∧Q e s2) ⟨_,h4,hq⟩)⟩
def resOneS(P:Program)(s:SSt):ResultVar→Option SV
 | .tmp t=>gt t s.tm
 | .cell t ty=>match gt t s.tm with
  |some v=>match loadS P s ty v with
   |some (true,u)=>some u
   |_=>none
  |none=>none
def resAllS(P:Program)(s:SSt):List ResultVar→Option (List SV)
 | []=>some []
 |x::l=>match resOneS P s x,resAllS P s l with
  |some v,some r=>some (v::r)
  |_,_=>none
def resS(P:Program)(s:SSt)(l:List ResultVar):Option SV:=
 match resAllS P s l with
 |some [v]=>some v
 |some vs=>some (.tup vs)
 |none=>none
def AStr(u v:AV):Prop:=u=v∨(keysV u= []∧keysV v= []∧AVLe u v)
theorem keysVs_d: ∀ds:List D,keysVs (ds.map .d)= []
 | []=>rfl
 |d::l=>by simp only[List.map_cons,keysVs,keysV,keysVs_d l,List.nil_append]
mutual
theorem dat_keys: ∀(v:SV) (x:D),v.dat=some x→keysV v.toAV= []
 | .d y,x,h=>by simp only[SV.toAV,keysV]
 | .i k y,x,h=>by simp only[SV.toAV,keysV]
 | .b y,x,h=>by simp only[SV.toAV,keysV]
 | .s y,x,h=>by simp only[SV.toAV,keysV]
 | .ints k y c,x,h=>by simp only[SV.toAV,keysV]
 | .row e y c,x,h=>by simp only[SV.toAV,keysV]
 | .agg l,x,h=>by
  simp only[SV.dat]at h
  split at h
  ·rename_i ds hd;simp only[SV.toAV,keysV,dats_keys l ds hd]
  ·cases h
 | .ptr _ _,x,h=>by simp[SV.dat]at h
 | .own _,x,h=>by simp[SV.dat]at h
 | .pel _ _ _ _,x,h=>by simp[SV.dat]at h
 | .aptr _ _,x,h=>by simp[SV.dat]at h
 | .eaddr _,x,h=>by simp[SV.dat]at h
 | .tup _,x,h=>by simp[SV.dat]at h
 | .clos _ _,x,h=>by simp[SV.dat]at h
 | .wrap _ _,x,h=>by simp[SV.dat]at h
 | .bot,x,h=>by simp[SV.dat]at h
theorem dats_keys: ∀(l:List SV) (ds:List D),SV.dats l=some ds→keysVs (SV.toAVs l)= []
 | [],ds,h=>rfl
 |v::l,ds,h=>by
  simp only[SV.dats]at h
  split at h
  ·rename_i d ds' h1 h2;simp only[SV.toAVs,keysVs,dat_keys v d h1,dats_keys l ds' h2,List.nil_append]
  ·cases h
end
mutual
theorem renV_id(f:Nat→Option Nat): ∀v:AV,keysV v= []→renV f v=v
 | .d x,_=>by simp only[renV]
 | .ptr κ o,h=>by simp[keysV]at h
 | .own κ,h=>by simp[keysV]at h
 | .pel κ o,h=>by simp[keysV]at h
 | .eaddr x,_=>by simp only[renV]
 | .agg l,h=>by simp only[keysV]at h;simp only[renV,renVs_id f l h]
 | .tup l,h=>by simp only[keysV]at h;simp only[renV,renVs_id f l h]
 | .clos g l,h=>by simp only[keysV]at h;simp only[renV,renVs_id f l h]
 | .wrap k v,h=>by simp only[keysV]at h;simp only[renV,renV_id f v h]
 | .bot,_=>by simp only[renV]
theorem renVs_id(f:Nat→Option Nat): ∀l:List AV,keysVs l= []→renVs f l=l
 | [],_=>rfl
 |v::l,h=>by
  simp only[keysVs,List.append_eq_nil_iff]at h
  simp only[renVs,renV_id f v h.1,renVs_id f l h.2]
end
theorem AStr.ren{u v:AV}(h:AStr u v)(f:Nat→Option Nat):AVLe (renV f u) (renV f v):=by
 rcases h with rfl|⟨h1,h2,h3⟩
 ·exact AVLe.refl _
 ·rw[renV_id f u h1,renV_id f v h2];exact h3
theorem AStr.keys{u v:AV}(h:AStr u v):keysV u=keysV v:=by
 rcases h with rfl|⟨h1,h2,_⟩
 ·rfl
 ·rw[h1,h2]
theorem mkAgg_str(cs:List AV):AStr (mkAgg cs) (.agg cs):=by
 cases h:allD cs with
 |none=>left;simp only[mkAgg,h]
 |some ds=>
  right
  refine⟨by simp only[mkAgg,h,keysV],?_,mkAgg_le cs⟩
  rw[allD_map h];simp only[keysV,keysVs_d]
theorem sub_str(cs:List SV)(o n:Nat):AStr (mkAgg (((SV.toAVs cs).drop o).take n)) (SV.agg ((cs.drop o).take n)).toAV:=by
 simp only[SV.toAV,toAVs_take,toAVs_drop];exact mkAgg_str _
theorem loadS0_str{P:Program}{s:SSt}{t:TypeId}{x:SV}{v:SV}(h:loadS0 P s t x=some (true,v)): ∃u,loadV0 P s.toSt t x.toAV=some u∧AStr u v.toAV:=by
 obtain⟨u0,h1,h2⟩:=loadS0_sound h rfl
 unfold loadS0 at h
 split at h
 ·rename_i κ off
  split at h
  ·rename_i e cs hB
   have hB:=gt_hp hB
   simp only[SB.toB]at hB
   split at h
   ·rename_i ha
    split at h
    ·rename_i n hn
     split at h
     ·rename_i hle
      cases h
      exact⟨_,by simp only[SV.toAV,loadV0,hB,ha,hn,toAVs_len,if_pos hle],sub_str cs off n⟩
     ·cases h
    ·cases h
   ·rename_i ha
    exact⟨_,by simp only[SV.toAV,loadV0,hB,ha];exact part1_sound h,.inl rfl⟩
   ·cases h
  ·cases h
 ·rename_i κ z n
  refine⟨u0,h1,.inr ⟨?_,?_,h2⟩⟩
  ·simp only[SV.toAV,loadV0]at h1
   split at h1
   ·split at h1
    ·obtain⟨y,_,rfl⟩:=Option.map_eq_some_iff.1 h1;simp only[keysV]
    ·cases h1
   ·split at h1
    ·split at h1
     ·split at h1
      ·cases h1;simp only[keysV]
      ·cases h1
     ·cases h1
    ·cases h1
   ·cases h1
  ·split at h
   ·split at h
    ·simp only[Option.some.injEq,Prod.mk.injEq]at h;obtain⟨_,rfl⟩:=h;simp only[SV.toAV,keysV]
    ·cases h
   ·split at h
    ·simp only[Option.some.injEq,Prod.mk.injEq]at h;obtain⟨_,rfl⟩:=h;exact dat_keys _ _ (Sh.sv_dat _ _)
    ·cases h
   ·split at h
    ·split at h
     ·split at h
      ·simp only[Option.some.injEq,Prod.mk.injEq]at h;obtain⟨_,rfl⟩:=h;exact dat_keys _ _ (D.sv_dat _)
      ·cases h
     ·cases h
    ·cases h
   ·cases h
 ·rename_i i κ
  split at h
  ·rename_i e xs hB
   have hB2:=gt_hp hB
   simp only[SB.toB]at hB2
   split at h
   ·rename_i hc
    split at h
    ·rename_i a ha
     exact⟨_,by simp only[SV.toAV,loadV0,hB2,if_pos hc,ha];rfl,.inl (by rw[avS_ok h])⟩
    ·cases h
   ·cases h
  ·cases h
 ·split at h
  ·rename_i y hy
   split at h
   ·rename_i hc
    cases h
    exact⟨.d y,by simp only[SV.toAV,hy,loadV0,if_pos hc],.inr ⟨by simp only[keysV],dat_keys _ _ hy,SV.dat_ge _ _ hy⟩⟩
   ·cases h
  ·cases h
 ·cases h
theorem loadS_str{P:Program}{s:SSt}{t:TypeId}{x:SV}{v:SV}(h:loadS P s t x=some (true,v)): ∃u,loadV P s.toSt t x.toAV=some u∧AStr u v.toAV:=by
 unfold loadS at h
 split at h
 ·rename_i r h0
  cases h
  obtain⟨u,h1,h2⟩:=loadS0_str h0
  exact⟨u,by unfold loadV;rw[h1],h2⟩
 ·split at h
  ·rename_i r h0
   cases h
   obtain⟨h1,d,h2,h3⟩:=loadSF_sound h0 rfl
   exact⟨.d d,by unfold loadV;rw[h1];exact h2,.inr ⟨by simp only[keysV],dat_keys _ _ h3,SV.dat_ge _ _ h3⟩⟩
  ·obtain⟨h1,_⟩:=loadAS_sound h rfl
   exact⟨_,by unfold loadV;rw[h1],.inl rfl⟩
theorem resOneS_img{P:Program}{s:SSt}{x:ResultVar}{v:SV}(h:resOneS P s x=some v): ∃u,resOne P s.toSt x=some u∧AStr u v.toAV:=by
 unfold resOneS at h
 split at h
 ·exact⟨_,by simp only[resOne,SSt.toSt,gt_mapk,h,Option.map_some],.inl rfl⟩
 ·split at h
  ·rename_i u hu
   split at h
   ·rename_i w hw
    cases h
    have:=loadS_str hw
    simpa only[resOne,SSt.toSt,gt_mapk,hu,Option.map_some,obind_some]using this
   ·cases h
  ·cases h
def AStrs:List AV→List AV→Prop
 | [],[]=>True
 |u::l,v::l'=>AStr u v∧AStrs l l'
 |_,_=>False
theorem AStrs.keys: ∀ {l l':List AV},AStrs l l'→keysVs l=keysVs l'
 | [],[],_=>rfl
 |u::l,v::l',h=>by simp only[keysVs,h.1.keys,AStrs.keys h.2]
 | [],_::_,h=>h.elim
 |_::_,[],h=>h.elim
theorem AStrs.ren(f:Nat→Option Nat): ∀ {l l':List AV},AStrs l l'→RepsLe (renVs f l) (renVs f l')
 | [],[],_=>fun w F m us hr=>hr
 |u::l,v::l',h=>by
  intro w F m us hr
  simp only[renVs,RepVs]at hr ⊢
  obtain⟨z,rest,e,r1,r2⟩:=hr
  exact⟨z,rest,e,h.1.ren f w F m z r1,AStrs.ren f h.2 w F m rest r2⟩
 | [],_::_,h=>h.elim
 |_::_,[],h=>h.elim
theorem resAllS_img{P:Program}{s:SSt}: ∀ {l:List ResultVar} {vs:List SV},resAllS P s l=some vs→ ∃us,resAll P s.toSt l=some us∧AStrs us (SV.toAVs vs)
 | [],vs,h=>by simp only[resAllS]at h;cases h;exact⟨[],rfl,trivial⟩
 |x::l,vs,h=>by
  simp only[resAllS]at h
  split at h
  ·rename_i v r h1 h2
   cases h
   obtain⟨u,h3,h4⟩:=resOneS_img h1
   obtain⟨us,h5,h6⟩:=resAllS_img h2
   exact⟨u::us,by simp only[resAll,h3,h5],h4,h6⟩
  ·cases h
theorem resS_img{P:Program}{s:SSt}{l:List ResultVar}{v:SV}(h:resS P s l=some v): ∃u,resA P s.toSt l=some u∧keysV u=keysV v.toAV∧ ∀f,AVLe (renV f u) (renV f v.toAV):=by
 unfold resS at h
 split at h
 ·rename_i u hu
  cases h
  obtain⟨us,h1,h2⟩:=resAllS_img hu
  cases us with
  |nil=>exact h2.elim
  |cons x us=>
   cases us with
   |nil=>exact⟨x,by simp only[resA,h1],h2.1.keys,fun f=>h2.1.ren f⟩
   |cons y us=>exact h2.2.elim
 ·rename_i vs hne hv
  cases h
  obtain⟨us,h1,h2⟩:=resAllS_img hv
  refine⟨.tup us,?_,by simp only[SV.toAV,keysV,h2.keys],fun f=> ?_⟩
  ·unfold resA
   rw[h1]
   split
   ·rename_i x e
    simp only[Option.some.injEq]at e
    subst e
    exfalso
    cases vs with
    |nil=>exact h2.elim
    |cons y ys=>
     cases ys with
     |nil=>exact hne y rfl
     |cons z ys=>exact h2.2.elim
   ·rename_i e;simp only[Option.some.injEq]at e;rw[e]
   ·rename_i e;cases e
  ·intro w F m z hr
   simp only[SV.toAV,renV,RepV]at hr ⊢
   obtain⟨zs,rfl,r1⟩:=hr
   exact⟨zs,rfl,h2.ren f w F m zs r1⟩
 ·cases h
def doneS(s':SSt)(n:Nat)(r:SV):Option (SV×List SB):=
 let ks:=List.range n++(reachK s'.toSt.hp 64 (List.range n++keysV r.toAV) []).filter fun κ=>decide (n≤κ)
 if nodupB ks then match pickBS (posOf · ks) s'.hp ks with
  |some bs=>some (renS (posOf · ks) r,bs)
  |none=>none
 else none
def tmFromS(i:Nat):List SV→List (Nat×SV)
 | []=> []
 |v::l=>(i,v)::tmFromS (i+1) l
theorem tmFromS_img: ∀(l:List SV) (i:Nat),mapk SV.toAV (tmFromS i l)=tmFrom i (SV.toAVs l)
 | [],i=>rfl
 |v::l,i=>by simp only[tmFromS,mapk,SV.toAVs,tmFrom,tmFromS_img l (i+1)]
def hpFromS(i:Nat):List SB→List (Nat×SB)
 | []=> []
 |B::l=>(i,B)::hpFromS (i+1) l
theorem hpFromS_img: ∀(l:List SB) (i:Nat),mapk SB.toB (hpFromS i l)=hpFrom i (l.map SB.toB)
 | [],i=>rfl
 |v::l,i=>by simp only[hpFromS,mapk,List.map_cons,hpFrom,hpFromS_img l (i+1)]
def retK{R:Type}(P:Program)(res:List ResultVar)(n:Nat)(k:SV→List SB→Option R)(s:SSt):Option R:=
 match resS P s res with
 |some v=>match doneS s n v with
  |some (r,BS)=>k r BS
  |none=>none
 |none=>none
def emptyOf:SB→Option SB
 | .ints e k _ _=>some (.ints e k [] (some 0))
 | .row e sh _ _=>some (.row e sh [] (some 0))
 |_=>none
def backRows:Nat→List SB→SSt→SSt
 |_,[],s=>s
 |i,B::l,s=>backRows (i+1) l (match emptyOf B with
  |some E=>(match gt i s.hp with
   |none=>s.setB true i E
   |some _=>s)
  |none=>s)
def endK{R:Type}(P:Program)(res:List ResultVar)(n:Nat)(hs:List SB)(k:SV→List SB→Option R):Exit→SSt→Option R:=fun e s=>match e with
 | .ret=>retK P res n k (backRows 0 hs s)
 | .normal=>retK P res n k (backRows 0 hs s)
 |_=>none
def funK{R:Type}(P:Program)(ck:CallK)(fl:FuncId→Bool)(N:Nat)(t:AT)(f:FuncId)(vs:List SV)(hs:List SB)(k:SV→List SB→Option R):Option R:=
 match P.funcs[f]? with
 |some fn=>match fn.body with
  |some c=>if decide (vs.length≤fn.ntmps)=true then codeK P ck fl N t c ⟨fn.ntmps,tmFromS 0 vs,hpFromS 0 hs⟩ (endK P fn.results.toList hs.length hs k)else none
  |none=>none
 |none=>none
theorem ACall.back{P:Program}{f:FuncId}{vs:List AV}{hs:List Blk}{Post:AV→List Blk→Prop}{Post':AV→List Blk→Prop}(h:ACall P f vs hs Post)(hp: ∀r hs',Post r hs'→ ∃r' hs'',Post' r' hs''∧AVLe r r'∧BsLe hs' hs''):ACall P f vs hs Post':=by
 intro cx m us w hr hu hpn
 refine(h cx m us w hr hu hpn).mono ?_
 rintro e w' ⟨u,m',r,hs',he,hP,hl,h1,h2⟩
 obtain⟨r',hs'',h3,h4,h5⟩:=hp r hs' hP
 exact⟨u,m',r',hs'',he,h3,by rw[←h5.len];exact hl,le_bare h5 _ _ _ _ h1,by rw[←forb_le h5];exact h4 _ _ _ _ h2⟩
theorem BsLe.refl: ∀l:List Blk,BsLe l l
 | []=>trivial
 |B::l=>⟨BLe.refl B,BsLe.refl l⟩
theorem retK_ok{R:Type}{P:Program}{s:SSt}{res:List ResultVar}{n:Nat}{k:SV→List SB→Option R}{r:R}{e:Exit}(he:e= .ret∨e= .normal)(h:retK P res n k s=some r):
  ∃v BS,n≤BS.length∧k v BS=some r∧FPost P res n (fun r' hs'=> ∃u,r'=u∧AVLe u v.toAV∧hs'=BS.map SB.toB) e s.toSt:=by
 unfold retK at h
 split at h
 ·rename_i v hv
  split at h
  ·rename_i R' BS hd
   obtain⟨u,h1,h2,h3⟩:=resS_img hv
   unfold doneS at hd
   simp only at hd
   split at hd
   ·rename_i hn
    split at hd
    ·rename_i bs hb
     simp only[Option.some.injEq,Prod.mk.injEq]at hd
     obtain⟨rfl,rfl⟩:=hd
     have hb':=pickBS_img hb
     have hl:=(pickB_get hb').1
     refine⟨_,_,?_,h,fret _ he ?_ (by simp) (nodupB_get hn) hb' h1 ⟨_,rfl,?_,rfl⟩⟩
     ·simp only[List.length_map,List.length_append,List.length_range]at hl;omega
     ·rw[List.take_append_of_le_length (by simp),List.take_of_length_le (by simp)]
     ·rw[renS_img];exact h3 _
    ·cases hd
   ·cases hd
  ·cases h
 ·cases h
theorem srep_mat0{c:Ctx}{m:Nat→Value}{s:St}{a:Act}{w:World}(h:SRep c m s a w)(κ:Nat)(B:Blk)(hpin:c.pin κ=none)(hB:(∃e k,B= .ints e k [] (some 0))∨(∃e n,B= .row e n [] (some 0))):SRep c (upm m κ (.slice none 0 0)) (s.setB true κ B) a w:=by
 refine(h.setB true κ B (.slice none 0 0) (.inl rfl) (.inl hpin) (Fr.refl _ _) (fun b hb=>by simp[blkOf]at hb) ?_).1
 rcases hB with⟨e,k,rfl⟩|⟨e,n,rfl⟩
 ·simp only[RepB,upm_same];exact⟨⟨by simp,.inl ⟨rfl,none,rfl⟩⟩,fun n hn=>by cases hn;exact⟨_,_,rfl⟩⟩
 ·simp only[RepB,upm_same];exact⟨[],⟨by simp,.inl ⟨rfl,none,rfl⟩⟩,fun n hn=>by cases hn;exact⟨_,_,rfl⟩,by simp only[RepRow]⟩
theorem emptyOf_img{B E:SB}(h:emptyOf B=some E):((∃e k,E.toB= .ints e k [] (some 0))∨(∃e n,E.toB= .row e n [] (some 0)))∧((∃e k xs c,B.toB= .ints e k xs c)∨ ∃e n xs c,B.toB= .row e n xs c):=by
 unfold emptyOf at h
 split at h
 ·cases h;exact⟨.inl ⟨_,_,rfl⟩,.inl ⟨_,_,_,_,rfl⟩⟩
 ·cases h;exact⟨.inr ⟨_,_,rfl⟩,.inr ⟨_,_,_,_,rfl⟩⟩
 ·cases h
def RowsFree(cx:Ctx)(hs:List Blk):Prop:= ∀κ B,hs[κ]? =some B→((∃e k xs c,B= .ints e k xs c)∨ ∃e n xs c,B= .row e n xs c)→cx.pin κ=none
theorem backRows_rep{cx:Ctx}{a:Act}{w:World}: ∀(hs:List SB) (i:Nat) (s:SSt) (m:Nat→Value),(∀κ B,hs[κ]? =some B→((∃e k xs c,B.toB= .ints e k xs c)∨ ∃e n xs c,B.toB= .row e n xs c)→cx.pin (i+κ)=none)→
  SRep cx m s.toSt a w→ ∃m',SRep cx m' (backRows i hs s).toSt a w
 | [],i,s,m,_,hr=>⟨m,hr⟩
 |B::l,i,s,m,hp,hr=>by
  have next: ∀(s1:SSt) (m1:Nat→Value),SRep cx m1 s1.toSt a w→ ∃m',SRep cx m' (backRows (i+1) l s1).toSt a w:=fun s1 m1 h1=>
   backRows_rep l (i+1) s1 m1 (fun κ C hC hx=>by have:=hp (κ+1) C (by simpa using hC) hx;rwa [show i+(κ+1)=i+1+κ by omega]at this) h1
  simp only[backRows]
  split
  ·rename_i E hE
   split
   ·obtain⟨h1,h2⟩:=emptyOf_img hE
    have:=srep_mat0 hr i E.toB (by simpa using hp 0 B rfl h2) h1
    rw[←setB_img]at this
    exact next _ _ this
   ·exact next _ _ hr
  ·exact next _ _ hr
theorem acall_of2{P:Program}{f:FuncId}{fn:Func}{c:Code}{vs:List AV}{hs:List Blk}{Post:AV→List Blk→Prop}(hf:P.funcs[f]? =some fn)(hb:fn.body=some c)(hle:vs.length≤fn.ntmps)
  (h: ∀(cx:Ctx) (m:Nat→Value) (a:Act) (w:World),RowsFree cx hs→SRep cx m ⟨fn.ntmps,tmFrom 0 vs,hpFrom 0 hs⟩ a w→c.wp P (fun e a' w'=> ∃s' m',FPost P fn.results.toList hs.length Post e s'∧SRep cx m' s' a' w') a w):ACall P f vs hs Post:=by
 intro cx m us w h1 h2 h3
 have hul:=(RepVs_iff.1 h2).1
 have hfree:RowsFree cx hs:=by
  intro κ B hB hrow
  cases hp:cx.pin κ with
  |none=>rfl
  |some v=>
   exfalso
   have e1:=h1.pin κ v hp
   obtain⟨_,b,rfl⟩:=h1.pinp κ v hp
   have hg:gt κ (St.bare hs).hp=some B:=gt_hp0.2 hB
   have hrep:=h1.heap κ B hg
   rcases hrow with⟨e,k,xs,c,rfl⟩|⟨e,n,xs,c,rfl⟩
   ·simp only[RepB]at hrep
    rcases hrep.1.2 with⟨_,a,ha⟩|⟨g,o,cap,cur,ha,_⟩<;>rw[e1]at ha<;>cases ha
   ·simp only[RepB]at hrep
    obtain⟨vals,ho,_⟩:=hrep
    rcases ho.2 with⟨_,a,ha⟩|⟨g,o,cap,cur,ha,_⟩<;>rw[e1]at ha<;>cases ha
 refine calls_of_marks hf hb (Code.wp_mono ?_ (h cx m _ w hfree ⟨Marks.nil _ _,?_,?_,h1.heap,h1.sep,h1.nox,h1.old,h1.fr,h1.xlt,h1.pin,h1.pinp,h1.gl⟩))
 ·rintro e a' w' ⟨s',m',⟨he,ks,r,bs,k1,k1',k2,k3,k4,k5⟩,hr0⟩
  obtain⟨w2,hleft,hr⟩:=hr0.left
  refine⟨he,w2,hleft,?_⟩
  obtain⟨u,r1,r2⟩:=resA_run hr k4
  obtain⟨p1,p2⟩:=pickB_get k3
  have hdom: ∀κ,κ∈ks→ ∃B,gt κ s'.hp=some B:=by
   intro κ hκ
   obtain⟨j,hj⟩:=List.getElem?_of_mem hκ
   obtain⟨B,h4,_⟩:=p2 j κ hj
   exact⟨B,h4⟩
  obtain⟨q1,q2⟩:=hr.hand (c':=cx) ks k2 k3 (fun b hb=> .inl hb) (fun κ b hκ hb=>by obtain⟨B,hB⟩:=hdom κ hκ;exact hr.nox κ B b hB hb)
   (fun κ b hκ hb=>by obtain⟨B,hB⟩:=hdom κ hκ;exact hr.old κ B b hB hb) hr.fr hr.xlt (fun j v hj=>by rw[mapOf_get (k1 j (h3 j v hj))];exact hr.pin j v hj) hr.pinp hr.gl
  have post: ∃v,(results fn a'.tmps).run P w2= .ok v w2∧ ∃u m' r hs',Ending.returned v= .returned u∧Post r hs'∧hs.length≤hs'.length∧SRep cx m' (St.bare hs') Act.none0 w2∧RepV w2 (Forb cx m' (hpFrom 0 hs')) m' r u:=
   ⟨u,r1,u,_,_,bs,rfl,k5,by rw[p1];exact k1',q1,q2 _ _ r2⟩
  exact post
 ·simp;omega
 ·intro t v ht
  obtain⟨_,hv⟩:=gt_tmFrom ht
  obtain⟨u,h4,h5⟩:=(RepVs_iff.1 h2).2 _ v hv
  simp only[Nat.sub_zero]at h4
  have hlt:t<us.length:=(List.getElem?_eq_some_iff.1 h4).1
  have:(us.toArray++Array.replicate (fn.ntmps - us.toArray.size) undef).getD t undef=u:=by
   rw[Array.getD_eq_getD_getElem?,Array.getElem?_append_left (by simpa using hlt)]
   simp[h4]
  rw[this];exact h5
theorem funK_ok{R:Type}{P:Program}(hm:P.follows .mixedOrders=true){ck:CallK}(hck:CallOk P ck){fl:FuncId→Bool}{N:Nat}{t:AT}{f:FuncId}{vs:List SV}{hs:List SB}{k:SV→List SB→Option R}{r:R}
  (ht: ∀fn c,P.funcs[f]? =some fn→fn.body=some c→TreeOk P t c)(h:funK P ck fl N t f vs hs k=some r): ∃v BS,hs.length≤BS.length∧(ACall P f (SV.toAVs vs) (hs.map SB.toB) fun r' hs'=>r'=v.toAV∧hs'=BS.map SB.toB)∧k v BS=some r:=by
 unfold funK at h
 split at h
 ·rename_i fn hfn
  split at h
  ·rename_i c hc
   split at h
   ·rename_i hle
    obtain⟨e,s',h1,h2⟩:=(codeK_ok hm hck N).1 _ _ _ _ _ (ht fn c hfn hc) h
    have key: ∀(he:e= .ret∨e= .normal),retK P fn.results.toList hs.length k (backRows 0 hs s')=some r→ ∃v BS,hs.length≤BS.length∧(ACall P f (SV.toAVs vs) (hs.map SB.toB) fun r' hs'=>r'=v.toAV∧hs'=BS.map SB.toB)∧k v BS=some r:=by
     intro he hret
     obtain⟨v,BS,h3,h4,h5⟩:=retK_ok he hret
     refine⟨v,BS,h3,?_,h4⟩
     have e1:(⟨fn.ntmps,tmFromS 0 vs,hpFromS 0 hs⟩:SSt).toSt=⟨fn.ntmps,tmFrom 0 (SV.toAVs vs),hpFrom 0 (hs.map SB.toB)⟩:=by
      simp only[SSt.toSt,tmFromS_img,hpFromS_img]
     rw[e1]at h2
     have:=acall_of2 (P:=P) (f:=f) (vs:=SV.toAVs vs) (hs:=hs.map SB.toB) (Post:=fun r' hs'=> ∃u,r'=u∧AVLe u v.toAV∧hs'=BS.map SB.toB) hfn hc (by rw[toAVs_len];simpa using hle) (fun cx m a w hfree hr=>by
      refine Code.wp_mono ?_ (h2 (fun e1 s1=>e1=e∧s1=s'.toSt) ⟨rfl,rfl⟩ cx m a w hr)
      rintro e2 a' w' ⟨s1,m',⟨rfl,rfl⟩,hr'⟩
      obtain⟨m2,hr2⟩:=backRows_rep hs 0 s' m' (fun κ B hB hx=>by rw[Nat.zero_add];exact hfree κ B.toB (by rw[List.getElem?_map,hB];rfl) hx) hr'
      exact⟨_,m2,by rw[List.length_map];exact h5,hr2⟩)
     refine this.back ?_
     rintro r' hs' ⟨u,rfl,hu,rfl⟩
     exact⟨_,_,⟨rfl,rfl⟩,hu,BsLe.refl _⟩
    cases e with
    |ret=>exact key (.inl rfl) h1
    |normal=>exact key (.inr rfl) h1
    |_=>simp[endK]at h1
   ·cases h
  ·cases h
 ·cases h
structure RPat (n:Nat) (Y:Type) where
 get:SV→List SB→Option Y
 put:(R:Type)→Y→(SV→List SB→Option R)→Option R
 law: ∀v BS y,get v BS=some y→ ∀(R:Type) (k:SV→List SB→Option R) (r:R),put R y k=some r→ ∃v' BS',k v' BS'=some r∧
  ∀(P:Program) (f:FuncId) (vs:List AV) (hs:List Blk),hs.length=n→n≤BS.length→(ACall P f vs hs fun r' hs'=>r'=v.toAV∧hs'=BS.map SB.toB)→n≤BS'.length∧ACall P f vs hs fun r' hs'=>r'=v'.toAV∧hs'=BS'.map SB.toB
theorem back_le{P:Program}{f:FuncId}{vs:List AV}{hs:List Blk}{n:Nat}{v v':SV}{BS BS':List SB}(hv:AVLe v.toAV v'.toAV)(hb:BsLe (BS.map SB.toB) (BS'.map SB.toB))(hn:n≤BS.length)(h:ACall P f vs hs fun r' hs'=>r'=v.toAV∧hs'=BS.map SB.toB):
  n≤BS'.length∧ACall P f vs hs fun r' hs'=>r'=v'.toAV∧hs'=BS'.map SB.toB:=by
 refine⟨?_,h.back ?_⟩
 ·have:=hb.len
  simp only[List.length_map]at this
  omega
 ·rintro r' hs' ⟨rfl,rfl⟩
  exact⟨_,_,⟨rfl,rfl⟩,hv,hb⟩
theorem datLastS_len: ∀ {k:Nat} {R R':SV} {BS BS':List SB},datLastS k R BS=some (R',BS')→BS'.length=BS.length - k∧k≤BS.length
 |0,R,R',BS,BS',h=>by simp only[datLastS,Option.some.injEq,Prod.mk.injEq]at h;obtain⟨rfl,rfl⟩:=h;simp
 |k+1,R,R',BS,BS',h=>by
  simp only[datLastS]at h
  split at h
  ·rename_i B hB
   split at h
   ·have:=datLastS_len h
    simp only[List.length_map,List.length_dropLast]at this
    cases BS with
    |nil=>simp at hB
    |cons b l=>simp only[List.length_cons]at this ⊢;omega
   ·cases h
  ·cases h
def rone{A B:Type}(n:Nat)(p:VPat A)(q:BsPat B):RPat n (A×B) where
 get v BS:=bothO (p.get v) (q.get BS)
 put R y k:=k (p.put y.1) (q.put y.2)
 law v BS y h R k r hk:=by
  obtain⟨h1,h2⟩:=bothO_some h
  exact⟨_,_,hk,fun P f vs hs _ hl hc=>back_le (p.le _ _ h1) (q.le _ _ h2) hl hc⟩
def rfz{A B:Type}(n:Nat)(p:VPat A)(q:BsPat B):RPat n (A×B) where
 get v BS:=match datLastS (BS.length - n) v BS with
  |some (v',BS')=>bothO (p.get v') (q.get BS')
  |none=>none
 put R y k:=k (p.put y.1) (q.put y.2)
 law v BS y h R k r hk:=by
  split at h
  ·rename_i v' BS' hd
   obtain⟨h1,h2⟩:=bothO_some h
   refine⟨_,_,hk,fun P f vs hs hn hl hc=> ?_⟩
   have h3:=acall_datLast (k:=BS.length - n) hc (by simp only[List.length_map];omega) (datLastS_img hd)
   have h4:=datLastS_len hd
   exact back_le (p.le _ _ h1) (q.le _ _ h2) (by omega) h3
  ·cases h
def rfk{A B:Type}(n j:Nat)(p:VPat A)(q:BsPat B):RPat n (A×B) where
 get v BS:=if n+j≤BS.length then match datLastS j v BS with
  |some (v',BS')=>bothO (p.get v') (q.get BS')
  |none=>none else none
 put R y k:=k (p.put y.1) (q.put y.2)
 law v BS y h R k r hk:=by
  split at h
  ·rename_i hnj
   split at h
   ·rename_i v' BS' hd
    obtain⟨h1,h2⟩:=bothO_some h
    refine⟨_,_,hk,fun P f vs hs hn hl hc=> ?_⟩
    have h3:=acall_datLast (k:=j) hc (by simp only[List.length_map];omega) (datLastS_img hd)
    have h4:=datLastS_len hd
    exact back_le (p.le _ _ h1) (q.le _ _ h2) (by omega) h3
   ·cases h
  ·cases h
def rtwo{n:Nat}{A B:Type}(p:RPat n A)(q:RPat n B):RPat n (A ⊕ B) where
 get v BS:=orL (p.get v BS) (q.get v BS)
 put R y k:=sumK y (fun x=>p.put R x k) (fun x=>q.put R x k)
 law v BS y h R k r hk:=by
  unfold orL at h
  split at h
  ·rename_i a ha;cases h;exact p.law v BS a ha R k r hk
  ·split at h
   ·rename_i b hb;cases h;exact q.law v BS b hb R k r hk
   ·cases h
structure Con:Type 1 where
 X:Type
 B:Type
 Y:Type
 inV:VsPat X
 inB:BsPat B
 n:Nat
 len: ∀b,(inB.put b).length=n
 outs:RPat n Y
 F:X→B→Option Y
def ConOk(P:Program)(f:FuncId)(A:Con):Prop:= ∀x b y,A.F x b=some y→ ∀(R:Type) (k:SV→List SB→Option R) (r:R),A.outs.put R y k=some r→
 ∃v BS,(A.inB.put b).length≤BS.length∧(ACall P f (SV.toAVs (A.inV.put x)) ((A.inB.put b).map SB.toB) fun r' hs'=>r'=v.toAV∧hs'=BS.map SB.toB)∧k v BS=some r
theorem con_ok{P:Program}(hm:P.follows .mixedOrders=true){ck:CallK}(hck:CallOk P ck){fl:FuncId→Bool}{N:Nat}{t:AT}{f:FuncId}{A:Con}
  (ht: ∀fn c,P.funcs[f]? =some fn→fn.body=some c→TreeOk P t c)(hF: ∀x b,A.F x b=funK P ck fl N t f (A.inV.put x) (A.inB.put b) A.outs.get):ConOk P f A:=by
 intro x b y h R k r hk
 rw[hF]at h
 obtain⟨v,BS,h1,h2,h3⟩:=funK_ok hm hck ht h
 obtain⟨v',BS',h4,h5⟩:=A.outs.law _ _ _ h3 R k r hk
 rw[A.len]at h1
 obtain⟨h6,h7⟩:=h5 P f _ _ (by rw[List.length_map];exact A.len b) h1 h2
 exact⟨v',BS',by rw[A.len];exact h6,h7,h4⟩
def sub:List Bool→Code→Code
 | [],c=>c
 |d::l,c=>match c with
  | .seq a b=>sub l (if d then b else a)
  | .cond _ a b=>sub l (if d then b else a)
  | .block _ c=>sub l c
  | .scope c=>sub l c
  | .loop c=>sub l c
  |c=>c
def bdA(P:Program)(f:FuncId)(l:List Bool):Code:=match P.funcs[f]? with
 |some fn=>match fn.body with
  |some c=>sub l c
  |none=> .skip
 |none=> .skip
theorem trO{P:Program}{f:FuncId}{t:AT}(h:TreeOk P t (bdA P f [])): ∀fn c,P.funcs[f]? =some fn→fn.body=some c→TreeOk P t c:=by
 intro fn c h1 h2
 unfold bdA at h
 rw[h1]at h
 simp only[h2,sub]at h
 exact h
inductive Ent:Type 1 where
 |con (A:Con)
 |inl (t:AT)
def conK{R:Type}(A:Con)(vs:List SV)(hs:List SB)(k:SV→List SB→Option R)(next:Option R):Option R:=
 match A.inV.get vs with
 |some x=>match A.inB.get hs with
  |some b=>bnd (A.F x b) fun y=>A.outs.put R y k
  |none=>next
 |none=>next
def findEnt{R:Type}(P:Program)(ck:CallK)(fl:FuncId→Bool)(N:Nat)(f:FuncId)(vs:List SV)(hs:List SB)(k:SV→List SB→Option R):List (FuncId×Ent)→Option R
 | []=>funK P ck fl N .leaf f vs hs k
 |(g,e)::l=>if g=f then match e with
   | .con A=>conK A vs hs k (findEnt P ck fl N f vs hs k l)
   | .inl t=>funK P ck fl N t f vs hs k
  else findEnt P ck fl N f vs hs k l
def EntOk(P:Program)(f:FuncId):Ent→Prop
 | .con A=>ConOk P f A
 | .inl t=> ∀fn c,P.funcs[f]? =some fn→fn.body=some c→TreeOk P t c
def TabOk(P:Program):List (FuncId×Ent)→Prop
 | []=>True
 |(g,e)::l=>EntOk P g e∧TabOk P l
theorem findEnt_ok{R:Type}{P:Program}(hm:P.follows .mixedOrders=true){ck:CallK}(hck:CallOk P ck){fl:FuncId→Bool}{N:Nat}{f:FuncId}{vs:List SV}{hs:List SB}{k:SV→List SB→Option R}{r:R}:
  ∀ {l:List (FuncId×Ent)},TabOk P l→findEnt P ck fl N f vs hs k l=some r→ ∃v BS,hs.length≤BS.length∧(ACall P f (SV.toAVs vs) (hs.map SB.toB) fun r' hs'=>r'=v.toAV∧hs'=BS.map SB.toB)∧k v BS=some r
 | [],_,h=>funK_ok hm hck (t:= .leaf) (fun _ _ _ _=>trivial) (by simpa only[findEnt]using h)
 |(g,e)::l,ht,h=>by
  simp only[findEnt]at h
  split at h
  ·rename_i hg
   subst hg
   cases e with
   |con A=>
    simp only[conK]at h
    split at h
    ·rename_i x hx
     split at h
     ·rename_i b hb
      unfold bnd at h
      obtain⟨y,hy,hk⟩:=Option.bind_eq_some_iff.1 h
      obtain⟨v,BS,h1,h2,h3⟩:=ht.1 x b y hy R k r hk
      have hv:=A.inV.le _ _ hx
      have hB:=A.inB.le _ _ hb
      refine⟨v,BS,?_,h2.le hv hB,h3⟩
      have:=hB.len
      simp only[List.length_map]at this
      omega
     ·exact findEnt_ok hm hck ht.2 h
    ·exact findEnt_ok hm hck ht.2 h
   |inl t=>exact funK_ok hm hck ht.1 h
  ·exact findEnt_ok hm hck ht.2 h
def tabK(P:Program)(fl:FuncId→Bool)(N:Nat)(tab:List (FuncId×Ent)):Nat→CallK
 |0=>fun _ _ _ _ _=>none
 |d+1=>fun R f vs hs k=>findEnt P (tabK P fl N tab d) fl N f vs hs k tab
theorem tabK_ok{P:Program}(hm:P.follows .mixedOrders=true){fl:FuncId→Bool}{N:Nat}{tab:List (FuncId×Ent)}(ht:TabOk P tab): ∀d,CallOk P (tabK P fl N tab d)
 |0=>fun R f vs hs k r h=>by simp[tabK]at h
 |d+1=>fun R f vs hs k r h=>findEnt_ok hm (tabK_ok hm ht d) ht (by simpa only[tabK]using h)
theorem tbn{P:Program}:TabOk P []:=trivial
theorem tbc{P:Program}{f:FuncId}{A:Con}{l:List (FuncId×Ent)}(h:ConOk P f A)(t:TabOk P l):TabOk P ((f,.con A)::l):=⟨h,t⟩
end Go.Proofs.Ytngghkoghbpceaa
