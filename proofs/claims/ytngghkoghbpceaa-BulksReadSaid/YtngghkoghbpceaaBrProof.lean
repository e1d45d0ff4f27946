/-
  The statement BulksRead of the law's package plugboardlaw09: for all transfers, every wire and any number the law returns true, and its arguments read afterwards as before.
  Conditions: none.
-/
import Derived.Test.YtngghkoghbpceaaRows
import Derived.Test.YtngghkoghbpceaaKF
import Derived.Test.YtngghkoghbpceaaB9Z
namespace Go.Proofs.Ytngghkoghbpceaa.Br
open Go.ChangeShapes Go.WideShapes Go.ChangeAt Go.RowKit
set_option linter.unusedVariables false
theorem own:ownKnob Try.prog.godebug=none:=by kernel_rfl
theorem laidOut:laidOutB Try.prog=true:=by kernel_rfl
theorem walk(l:List (List Int))(w:List Int)(n:Int)(hn:0≤n∧n≤255):AFun Try.prog 4 [Sh.toD (.row (.ints .u8)) l,Sh.toD (.ints .u8) w,Sh.toD (.i .u8) n] (.v (.bool true)):=
 afun_con (bRead_ok 2000) [⟨.row (.ints .u8),l⟩,⟨.ints .u8,w⟩,⟨.i .u8,n⟩] rfl (l,w,n,()) () (true,()) rfl rfl (bRead_true l w n hn) rfl
set_option maxRecDepth 100000 in
theorem lifted(os:Os)(started:os.Started)(H:Type)(enc:TypeId×Value→H):
  ReturnsInHanded {} Try.checked os 4 .any (Rows.bulksReadSpec.pre6 enc Try.prog Try.f4 Rows.bulksReadRow.domain false) (Rows.bulksReadSpec.post enc Try.prog Try.f4 false true false false):=by
 refine returnsInHanded_of_change (C:=Try.checked) own started (by kernel_rfl) Try.func4
  (ChangeSpec.witness6 (enc:=enc) (C:=Try.checked) false ⟨#[],#[.slice none 0 0,.slice none 0 0,.int .u8 0],[]⟩ 8 (by kernel_rfl) (by kernel_rfl) (by kernel_rfl) (by kernel_rfl)) ?_
 intro W base args ds gs before hval0 hW hcnd _
 have hval: ∀(j:Nat) t v,Try.f4.params[j]? =some t→args[j]? =some v→Value.okWide Try.prog W .any base t v:=hval0
 have hW':=hW
 obtain⟨p,q,hA0,hV,rfl,hfz,hnd⟩:=hW
 have hA:DataW.TrodAll enc Try.prog W 0 (fun _=>true) true Try.f4.params.toList args.toList ds p:=hA0
 rw[Try.params4]at hA hval
 obtain⟨v0,vs0,d0,ds0,p0,q0,hargs,rfl,rfl,h0,r0⟩:=trodAll_cons hA
 obtain⟨v1,vs1,d1,ds1,p1,q1,rfl,rfl,rfl,h1,r1⟩:=trodAll_cons r0
 obtain⟨v2,vs2,d2,ds2,p2,q2,rfl,rfl,rfl,h2,r2⟩:=trodAll_cons r1
 obtain⟨rfl,rfl,rfl⟩:=trodAll_nil r2
 obtain rfl:args= #[v0,v1,v2]:=by cases args;simp_all
 obtain⟨rfl,rfl⟩:=trodVars_none hV
 have lt0: ∀x∈p0,x.block<W.heap.size:=by obtain⟨m,hm⟩:=h0;exact DataW.trod_lt m _ _ _ hm
 have t0:=Tr.of h0
 have o0:=hval 0 22 v0 rfl rfl
 have lt1: ∀x∈p1,x.block<W.heap.size:=by obtain⟨m,hm⟩:=h1;exact DataW.trod_lt m _ _ _ hm
 have t1:=Tr.of h1
 have o1:=hval 1 24 v1 rfl rfl
 have lt2: ∀x∈p2,x.block<W.heap.size:=by obtain⟨m,hm⟩:=h2;exact DataW.trod_lt m _ _ _ hm
 have t2:=Tr.of h2
 have o2:=hval 2 5 v2 rfl rfl
 obtain⟨l,wl,hl⟩:=arg_shape (s:= .row (.ints .u8)) (by kernel_rfl) (by kernel_rfl) (by kernel_rfl) o0 t0
 obtain⟨w,ww,hw⟩:=arg_shape (s:= .ints .u8) (by kernel_rfl) (by kernel_rfl) (by kernel_rfl) o1 t1
 obtain⟨n,wn,hn⟩:=arg_shape (s:= .i .u8) (by kernel_rfl) (by kernel_rfl) (by kernel_rfl) o2 t2
 refine(afun_calls (walk l w n ⟨wn.1,wn.2⟩) (repVs_cons hl (repVs_cons hw (repVs_cons hn repVs_nil)))).mono fun e W' ⟨he,bel⟩=> ?_
 subst he
 exact⟨_,rfl,_,_,_,[],_,[],hW',trodAll_mk1 (shut_bool Try.underlying4 _),(trodAll_cons_mk (Below.trod laidOut (by kernel_rfl) (of_decide_eq_true (by kernel_rfl)) h0 bel lt0) (trodAll_cons_mk (Below.trod laidOut (by kernel_rfl) (of_decide_eq_true (by kernel_rfl)) h1 bel lt1) (trodAll_cons_mk (Below.trod laidOut (by kernel_rfl) (of_decide_eq_true (by kernel_rfl)) h2 bel lt2) trodAll_mk0))),rfl,bel.frame _,fun h=>by cases h⟩
theorem over:Rows.bulksReadRow.holds Try.pinned (OpenSpec.ofChange Rows.bulksReadSpec):=
 OpenClaim.holds_of_wide 4 Try.f4 rfl rfl rfl rfl rfl rfl rfl ⟨rfl,rfl,rfl,rfl,rfl⟩ rfl rfl rfl rfl rfl (by kernel_rfl) Try.func4 (by kernel_rfl)
  (of_decide_eq_true (by kernel_rfl)) (by unfold Func.isWrapper;first|(rw[if_pos (by decide+kernel)];kernel_rfl)|(rw[if_neg (by decide+kernel)];exact⟨rfl,rfl⟩))
  (fun os started H enc _=>lifted os started H enc)
theorem proved:Rows.BulksReadSaid:=over
#print axioms proved
end Go.Proofs.Ytngghkoghbpceaa.Br
