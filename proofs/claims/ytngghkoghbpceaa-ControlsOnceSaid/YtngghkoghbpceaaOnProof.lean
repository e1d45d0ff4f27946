/-
  The statement ControlsOnce of the law's package plugboardlaw08: for every transfer, every handler and every wire the law returns true, and its arguments read afterwards as before.
  Conditions: none.
-/
import Derived.Test.YtngghkoghbpceaaRows
import Derived.Test.YtngghkoghbpceaaKF
import Derived.Test.YtngghkoghbpceaaOnL
namespace Go.Proofs.Ytngghkoghbpceaa.On
open Go.ChangeShapes Go.WideShapes Go.ChangeAt Go.RowKit
set_option linter.unusedVariables false
def tSh:Sh:= .cons (.i .u8) (.cons (.i .u8) (.cons (.i .u16) (.cons (.i .u16) (.cons (.i .u16) (.cons (.ints .u8) (.cons (.i .u8) .nil))))))
def rSh:Sh:= .cons (.i .u8) (.cons (.ints .u8) .nil)
theorem own:ownKnob Try.prog.godebug=none:=by kernel_rfl
theorem laidOut:laidOutB Try.prog=true:=by kernel_rfl
theorem walk(t:tSh.T)(r:rSh.T)(w:List Int)(wt:tSh.wf t):AFun Try.prog 5 [tSh.toD t,rSh.toD r,Sh.toD (.ints .u8) w] (.v (.bool true)):=by
 have e1:IntKind.u8.min=0:=by decide
 have e2:IntKind.u8.max=255:=by decide
 have e3:IntKind.u16.min=0:=by decide
 have e4:IntKind.u16.max=65535:=by decide
 obtain⟨r1,r2,r3,r4,r5,d,n,⟨⟩⟩:=t
 obtain⟨R1,R2,⟨⟩⟩:=r
 obtain⟨w1,w2,w3,w4,w5,w6,w7,_⟩:=wt
 simp only[Sh.wf,e1,e2,e3,e4]at w1 w2 w3 w4 w5 w7
 have v1:0≤r1∧r1≤255:=w1
 have v2:0≤r2∧r2≤255:=w2
 have v3:0≤r3∧r3≤65535:=w3
 have v4:0≤r4∧r4≤65535:=w4
 have v5:0≤r5∧r5≤65535:=w5
 have v7:0≤n∧n≤255:=w7
 cases hw:wrB r1 r5 with
 |false=>
  exact afun_con (onceZ_ok 1000) [⟨tSh,(r1,r2,r3,r4,r5,d,n,())⟩,⟨rSh,(R1,R2,())⟩,⟨.ints .u8,w⟩] rfl ((r1,r2,r3,r4,r5,d,n,()),(R1,R2,()),w,()) () (true,()) rfl rfl
   (onceZ_true r1 r2 r3 r4 r5 d n R1 R2 w ⟨v1.1,Int.lt_of_le_of_lt v1.2 (by decide)⟩ ⟨v2.1,Int.lt_of_le_of_lt v2.2 (by decide)⟩ ⟨v3.1,Int.lt_of_le_of_lt v3.2 (by decide)⟩ ⟨v4.1,Int.lt_of_le_of_lt v4.2 (by decide)⟩ v5.1 v7.1 hw) rfl
 |true=>
  exact afun_con (onceW_ok 1000) [⟨tSh,(r1,r2,r3,r4,r5,d,n,())⟩,⟨rSh,(R1,R2,())⟩,⟨.ints .u8,w⟩] rfl ((r1,r2,r3,r4,r5,d,n,()),(R1,R2,()),w,()) () (true,()) rfl rfl
   (onceW_true r1 r2 r3 r4 r5 d n R1 R2 w ⟨v1.1,Int.lt_of_le_of_lt v1.2 (by decide)⟩ ⟨v2.1,Int.lt_of_le_of_lt v2.2 (by decide)⟩ ⟨v3.1,Int.lt_of_le_of_lt v3.2 (by decide)⟩ ⟨v4.1,Int.lt_of_le_of_lt v4.2 (by decide)⟩ v5.1 v7.1 hw) rfl
set_option maxRecDepth 100000 in
theorem lifted(os:Os)(started:os.Started)(H:Type)(enc:TypeId×Value→H):
  ReturnsInHanded {} Try.checked os 5 .any (Rows.controlsOnceSpec.pre6 enc Try.prog Try.f5 Rows.controlsOnceRow.domain false) (Rows.controlsOnceSpec.post enc Try.prog Try.f5 false true false false):=by
 refine returnsInHanded_of_change (C:=Try.checked) own started (by kernel_rfl) Try.func5
  (ChangeSpec.witness6 (enc:=enc) (C:=Try.checked) false ⟨#[],#[.agg #[.int .u8 0,.int .u8 0,.int .u16 0,.int .u16 0,.int .u16 0,.slice none 0 0,.int .u8 0],.agg #[.int .u8 0,.slice none 0 0],.slice none 0 0],[]⟩ 8 (by kernel_rfl) (by kernel_rfl) (by kernel_rfl) (by kernel_rfl)) ?_
 intro W base args ds gs before hval0 hW hcnd _
 have hval: ∀(j:Nat) t v,Try.f5.params[j]? =some t→args[j]? =some v→Value.okWide Try.prog W .any base t v:=hval0
 have hW':=hW
 obtain⟨p,q,hA0,hV,rfl,hfz,hnd⟩:=hW
 have hA:DataW.TrodAll enc Try.prog W 0 (fun _=>true) true Try.f5.params.toList args.toList ds p:=hA0
 rw[Try.params5]at hA hval
 obtain⟨v0,vs0,d0,ds0,p0,q0,hargs,rfl,rfl,h0,r0⟩:=trodAll_cons hA
 obtain⟨v1,vs1,d1,ds1,p1,q1,rfl,rfl,rfl,h1,r1⟩:=trodAll_cons r0
 obtain⟨v2,vs2,d2,ds2,p2,q2,rfl,rfl,rfl,h2,r2⟩:=trodAll_cons r1
 obtain⟨rfl,rfl,rfl⟩:=trodAll_nil r2
 obtain rfl:args= #[v0,v1,v2]:=by cases args;simp_all
 obtain⟨rfl,rfl⟩:=trodVars_none hV
 have lt0: ∀x∈p0,x.block<W.heap.size:=by obtain⟨m,hm⟩:=h0;exact DataW.trod_lt m _ _ _ hm
 have t0:=Tr.of h0
 have o0:=hval 0 70 v0 rfl rfl
 have lt1: ∀x∈p1,x.block<W.heap.size:=by obtain⟨m,hm⟩:=h1;exact DataW.trod_lt m _ _ _ hm
 have t1:=Tr.of h1
 have o1:=hval 1 72 v1 rfl rfl
 have lt2: ∀x∈p2,x.block<W.heap.size:=by obtain⟨m,hm⟩:=h2;exact DataW.trod_lt m _ _ _ hm
 have t2:=Tr.of h2
 have o2:=hval 2 24 v2 rfl rfl
 obtain⟨t,wt,ht⟩:=arg_shape (s:=tSh) (by kernel_rfl) (by kernel_rfl) (by kernel_rfl) o0 t0
 obtain⟨r,wr,hr⟩:=arg_shape (s:=rSh) (by kernel_rfl) (by kernel_rfl) (by kernel_rfl) o1 t1
 obtain⟨w,ww,hw⟩:=arg_shape (s:= .ints .u8) (by kernel_rfl) (by kernel_rfl) (by kernel_rfl) o2 t2
 refine(afun_calls (walk t r w wt) (repVs_cons ht (repVs_cons hr (repVs_cons hw repVs_nil)))).mono fun e W' ⟨he,bel⟩=> ?_
 subst he
 exact⟨_,rfl,_,_,_,[],_,[],hW',trodAll_mk1 (shut_bool Try.underlying4 _),(trodAll_cons_mk (Below.trod laidOut (by kernel_rfl) (of_decide_eq_true (by kernel_rfl)) h0 bel lt0) (trodAll_cons_mk (Below.trod laidOut (by kernel_rfl) (of_decide_eq_true (by kernel_rfl)) h1 bel lt1) (trodAll_cons_mk (Below.trod laidOut (by kernel_rfl) (of_decide_eq_true (by kernel_rfl)) h2 bel lt2) trodAll_mk0))),rfl,bel.frame _,fun h=>by cases h⟩
theorem over:Rows.controlsOnceRow.holds Try.pinned (OpenSpec.ofChange Rows.controlsOnceSpec):=
 OpenClaim.holds_of_wide 5 Try.f5 rfl rfl rfl rfl rfl rfl rfl ⟨rfl,rfl,rfl,rfl,rfl⟩ rfl rfl rfl rfl rfl (by kernel_rfl) Try.func5 (by kernel_rfl)
  (of_decide_eq_true (by kernel_rfl)) (by unfold Func.isWrapper;first|(rw[if_pos (by decide+kernel)];kernel_rfl)|(rw[if_neg (by decide+kernel)];exact⟨rfl,rfl⟩))
  (fun os started H enc _=>lifted os started H enc)
theorem proved:Rows.ControlsOnceSaid:=over
#print axioms proved
end Go.Proofs.Ytngghkoghbpceaa.On
