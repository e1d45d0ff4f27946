/-
  The statement ControlsFew of the law's package plugboardlaw08: for every two transfers, every handler and any two packets that do not arrive the law returns true, and its arguments read afterwards as before.
  Conditions: none.
-/
import Derived.Test.YtngghkoghbpceaaRows
import Derived.Test.YtngghkoghbpceaaKF
import Derived.Test.YtngghkoghbpceaaFeL
namespace Go.Proofs.Ytngghkoghbpceaa.Fe
open Go.ChangeShapes Go.WideShapes Go.ChangeAt Go.RowKit
set_option linter.unusedVariables false
set_option linter.constructorNameAsVariable false
def tSh:Sh:= .cons (.i .u8) (.cons (.i .u8) (.cons (.i .u16) (.cons (.i .u16) (.cons (.i .u16) (.cons (.ints .u8) (.cons (.i .u8) .nil))))))
def rSh:Sh:= .cons (.i .u8) (.cons (.ints .u8) .nil)
def aSh:Sh:= .cons (.i .u8) (.cons (.i .u8) .nil)
theorem own:ownKnob Try.prog.godebug=none:=by kernel_rfl
theorem laidOut:laidOutB Try.prog=true:=by kernel_rfl
theorem arr2_shape{P:Program}{W:World}{r:Reach}{base:Nat}{t e:TypeId}{s:Sh}{v:Value}(hu:P.underlying t=some (.array 2 e))(hs:shN P 8 e=some s)(hk:okN P 8 e=true)(hce:P.cellsOf e=s.size)(hct:P.cellsOf t=s.size+s.size)(hg:s.agg=true)
  (ho:Value.okWide P W r base t v)(h:Tr P W t v.cells.toList): ∃x y:s.T,s.wf x∧s.wf y∧RepD W nobody ((s.join s).toD (joinT s s x y)) v:=by
 obtain⟨cs,rfl,hsz⟩:=okWide_array hu ho
 have hl:cs.toList.length=s.size+s.size:=by simpa using hsz.trans hct
 have h':Tr P W t cs.toList:=by simpa[Value.cells]using h
 have h0:=Tr.elem (k:=0) (n:=2) (m:=s.size) hu hce (by decide) h'
 have h1:=Tr.elem (k:=1) (n:=2) (m:=s.size) hu hce (by decide) h'
 rw[Nat.zero_mul,List.drop_zero]at h0
 rw[Nat.one_mul]at h1
 obtain⟨x,hx,rx⟩:=tr_shape 8 e s _ hs hk h0 (by rw[List.length_take];omega)
 obtain⟨y,hy,ry⟩:=tr_shape 8 e s _ hs hk h1 (by rw[List.length_take,List.length_drop];omega)
 refine⟨x,y,hx,hy,?_⟩
 rw[Sh.cd_agg x hg]at rx
 rw[Sh.cd_agg y hg]at ry
 have e1:(cs.toList.drop s.size).take s.size=cs.toList.drop s.size:=List.take_of_length_le (by rw[List.length_drop];omega)
 rw[e1]at ry
 have hr:=RepRow_append rx ry
 rw[List.take_append_drop,←joinT_cells]at hr
 have e0:=((s.join s).toD2_agg (joinT s s x y) (join_agg hg hg)).1
 show RepD W nobody ((s.join s).toD2 (joinT s s x y)).1 _
 rw[e0]
 simp only[RepD]
 exact⟨cs.toList,by simp,hr⟩
theorem u8r{x:Int}(h:IntKind.u8.min≤x∧x≤IntKind.u8.max):0≤x∧x<256:=⟨h.1,Int.lt_of_le_of_lt h.2 (by decide)⟩
theorem u16r{x:Int}(h:IntKind.u16.min≤x∧x≤IntKind.u16.max):0≤x∧x<65536:=⟨h.1,Int.lt_of_le_of_lt h.2 (by decide)⟩
theorem walk(t u:tSh.T)(r:rSh.T)(a b:Int)(wt:tSh.wf t)(wu:tSh.wf u)(ha:0≤a∧a<256)(hb:0≤b∧b<256):AFun Try.prog 6 [(tSh.join tSh).toD (joinT tSh tSh t u),rSh.toD r,.agg [.v (.int .u8 a),.v (.int .u8 b)]] (.v (.bool true)):=by
 obtain⟨r1,r2,r3,r4,r5,d,n,⟨⟩⟩:=t
 obtain⟨s1,s2,s3,s4,s5,dd,n2,⟨⟩⟩:=u
 obtain⟨R1,R2,⟨⟩⟩:=r
 obtain⟨w1,w2,w3,w4,w5,w6,w7,_⟩:=wt
 obtain⟨v1,v2,v3,v4,v5,v6,v7,_⟩:=wu
 exact afun_con (fewL_ok 1000) [⟨tSh.join tSh,(r1,r2,r3,r4,r5,d,n,s1,s2,s3,s4,s5,dd,n2,())⟩,⟨rSh,(R1,R2,())⟩,⟨aSh,(a,b,())⟩] rfl ((r1,r2,r3,r4,r5,d,n,s1,s2,s3,s4,s5,dd,n2,()),(R1,R2,()),(a,b,()),()) () (true,()) rfl rfl
  (few_true r1 r2 r3 r4 r5 d n s1 s2 s3 s4 s5 dd n2 R1 R2 a b (u8r w1) (u8r w2) (u16r w3) (u16r w4) (u16r w5).1 (u8r w7).1 (u8r v1) (u8r v2) (u16r v3) (u16r v4) (u16r v5).1 ha hb) rfl
set_option maxRecDepth 100000 in
theorem lifted(os:Os)(started:os.Started)(H:Type)(enc:TypeId×Value→H):
  ReturnsInHanded {} Try.checked os 6 .any (Rows.controlsFewSpec.pre6 enc Try.prog Try.f6 Rows.controlsFewRow.domain false) (Rows.controlsFewSpec.post enc Try.prog Try.f6 false true false false):=by
 refine returnsInHanded_of_change (C:=Try.checked) own started (by kernel_rfl) Try.func6
  (ChangeSpec.witness6 (enc:=enc) (C:=Try.checked) false ⟨#[],#[.agg #[.int .u8 0,.int .u8 0,.int .u16 0,.int .u16 0,.int .u16 0,.slice none 0 0,.int .u8 0,.int .u8 0,.int .u8 0,.int .u16 0,.int .u16 0,.int .u16 0,.slice none 0 0,.int .u8 0],.agg #[.int .u8 0,.slice none 0 0],.agg #[.int .u8 0,.int .u8 0]],[]⟩ 8 (by kernel_rfl) (by kernel_rfl) (by kernel_rfl) (by kernel_rfl)) ?_
 intro W base args ds gs before hval0 hW hcnd _
 have hval: ∀(j:Nat) t v,Try.f6.params[j]? =some t→args[j]? =some v→Value.okWide Try.prog W .any base t v:=hval0
 have hW':=hW
 obtain⟨p,q,hA0,hV,rfl,hfz,hnd⟩:=hW
 have hA:DataW.TrodAll enc Try.prog W 0 (fun _=>true) true Try.f6.params.toList args.toList ds p:=hA0
 rw[Try.params6]at hA hval
 obtain⟨v0,vs0,d0,ds0,p0,q0,hargs,rfl,rfl,h0,r0⟩:=trodAll_cons hA
 obtain⟨v1,vs1,d1,ds1,p1,q1,rfl,rfl,rfl,h1,r1⟩:=trodAll_cons r0
 obtain⟨v2,vs2,d2,ds2,p2,q2,rfl,rfl,rfl,h2,r2⟩:=trodAll_cons r1
 obtain⟨rfl,rfl,rfl⟩:=trodAll_nil r2
 obtain rfl:args= #[v0,v1,v2]:=by cases args;simp_all
 obtain⟨rfl,rfl⟩:=trodVars_none hV
 have lt0: ∀x∈p0,x.block<W.heap.size:=by obtain⟨m,hm⟩:=h0;exact DataW.trod_lt m _ _ _ hm
 have t0:=Tr.of h0
 have o0:=hval 0 95 v0 rfl rfl
 have lt1: ∀x∈p1,x.block<W.heap.size:=by obtain⟨m,hm⟩:=h1;exact DataW.trod_lt m _ _ _ hm
 have t1:=Tr.of h1
 have o1:=hval 1 72 v1 rfl rfl
 have lt2: ∀x∈p2,x.block<W.heap.size:=by obtain⟨m,hm⟩:=h2;exact DataW.trod_lt m _ _ _ hm
 have t2:=Tr.of h2
 have o2:=hval 2 96 v2 rfl rfl
 obtain⟨x,y,wx,wy,hxy⟩:=arr2_shape (s:=tSh) Try.underlying95 (by kernel_rfl) (by kernel_rfl) (by kernel_rfl) (by kernel_rfl) (by kernel_rfl) o0 t0
 obtain⟨r,wr,hr⟩:=arg_shape (s:=rSh) (by kernel_rfl) (by kernel_rfl) (by kernel_rfl) o1 t1
 obtain⟨a,b,rfl,wa,wb⟩:=Tr.int2 Try.underlying96 Try.underlying5 (by kernel_rfl) (by kernel_rfl) o2 t2
 refine(afun_calls (walk x y r a b wx wy (u8r (wf_lit wa)) (u8r (wf_lit wb))) (repVs_cons hxy (repVs_cons hr (repVs_cons repD_int2 repVs_nil)))).mono fun e W' ⟨he,bel⟩=> ?_
 subst he
 exact⟨_,rfl,_,_,_,[],_,[],hW',trodAll_mk1 (shut_bool Try.underlying4 _),(trodAll_cons_mk (Below.trod laidOut (by kernel_rfl) (of_decide_eq_true (by kernel_rfl)) h0 bel lt0) (trodAll_cons_mk (Below.trod laidOut (by kernel_rfl) (of_decide_eq_true (by kernel_rfl)) h1 bel lt1) (trodAll_cons_mk (Below.trod laidOut (by kernel_rfl) (of_decide_eq_true (by kernel_rfl)) h2 bel lt2) trodAll_mk0))),rfl,bel.frame _,fun h=>by cases h⟩
theorem over:Rows.controlsFewRow.holds Try.pinned (OpenSpec.ofChange Rows.controlsFewSpec):=
 OpenClaim.holds_of_wide 6 Try.f6 rfl rfl rfl rfl rfl rfl rfl ⟨rfl,rfl,rfl,rfl,rfl⟩ rfl rfl rfl rfl rfl (by kernel_rfl) Try.func6 (by kernel_rfl)
  (of_decide_eq_true (by kernel_rfl)) (by unfold Func.isWrapper;first|(rw[if_pos (by decide+kernel)];kernel_rfl)|(rw[if_neg (by decide+kernel)];exact⟨rfl,rfl⟩))
  (fun os started H enc _=>lifted os started H enc)
theorem proved:Rows.ControlsFewSaid:=over
#print axioms proved
end Go.Proofs.Ytngghkoghbpceaa.Fe
