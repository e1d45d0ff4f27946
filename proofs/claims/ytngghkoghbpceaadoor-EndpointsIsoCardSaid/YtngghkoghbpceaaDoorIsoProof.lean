/-
  The statement EndpointsIso of the law's package plugboardlaw07, as a tied card: for all packets, every wire and any room the law returns true, and its arguments read afterwards as before.
  Conditions: none beside the card's own.
-/
import Derived.Test.YtngghkoghbpceaaDoorRows
import Derived.Test.YtngghkoghbpceaaDoorCards
import Derived.Test.YtngghkoghbpceaaDoorTie
import Derived.Test.YtngghkoghbpceaaDoorKF
import Derived.Test.YtngghkoghbpceaaDoorIsoP
import Derived.LaidMore
import Derived.OpenShut
import Derived.Stop.Joined
import Derived.SevenTiedAt
namespace Go.Proofs.YtngghkoghbpceaaDoor.Iso
open Go Go.ChangeShapes Go.WideShapes Go.ChangeAt Go.RowKit
set_option linter.unusedVariables false
theorem own:ownKnob Tryd.prog.godebug=none:=by kernel_rfl
theorem laidOut:laidOutB Tryd.prog=true:=by kernel_rfl
theorem walk(l:List (List Int))(w:List Int)(n:Int)(hn:0≤n∧n≤255):AFun Tryd.prog 6 [Sh.toD (.row (.ints .u8)) l,Sh.toD (.ints .u8) w,Sh.toD (.i .u8) n] (.v (.bool true)):=
 afun_con (isoLaw_ok 400) [⟨.row (.ints .u8),l⟩,⟨.ints .u8,w⟩,⟨.i .u8,n⟩] rfl (l,w,n,()) () (true,()) rfl rfl (isoLaw_true l w n hn) rfl
set_option maxRecDepth 100000 in
theorem lifted(os:Os)(started:os.Started)(H:Type)(enc:TypeId×Value→H):
  ReturnsInHanded {} Tryd.checked os 6 .any (fun w args=>(Rows.endpointsIsoSpec.pre enc Tryd.prog Tryd.f6 [] false w args∧laidMetH Tryd.prog Rows.endpointsIsoRow.laid w)∧sizedMet enc Tryd.prog Tryd.f6 (OpenSpec.ofChange Rows.endpointsIsoSpec) false w args) (Rows.endpointsIsoSpec.post enc Tryd.prog Tryd.f6 false true false false):=by
 refine returnsInHanded_of_change_and (C:=Tryd.checked) (X:=fun w _=>laidMetH Tryd.prog Rows.endpointsIsoRow.laid w) (fun _ _ _ hh h=>h.of_heap hh) own started (by kernel_rfl) Tryd.func6
  (ChangeSpec.witness_shaped (enc:=enc) (C:=Tryd.checked) (os:=os) (X:=fun w _=>laidMetH Tryd.prog Rows.endpointsIsoRow.laid w) false (World.doorLaid Tryd.prog 400 os) #[.slice none 0 0,.slice none 0 0,.int .u8 0] 8 rfl (World.shaped_of_RefB (by kernel_rfl) (by kernel_rfl)) (by kernel_rfl) (by kernel_rfl) (by kernel_rfl) (laidMetH_of_parts3 (fuel:=8) (laidMet_of_run' 8 (by kernel_rfl) (by kernel_rfl)) (by kernel_rfl) (by kernel_rfl))) ?_
 intro W base args ds gs before hval0 hW _ _ hL _
 have hval: ∀(j:Nat) t v,Tryd.f6.params[j]? =some t→args[j]? =some v→Value.okWide Tryd.prog W .any base t v:=hval0
 have hW':=hW
 obtain⟨p,q,hA0,hV,rfl,hfz,hnd⟩:=hW
 have hA:DataW.TrodAll enc Tryd.prog W 0 (fun _=>true) true Tryd.f6.params.toList args.toList ds p:=hA0
 rw[Tryd.params6]at hA hval
 obtain⟨v0,vs0,d0,ds0,p0,q0,hargs,rfl,rfl,h0,r0⟩:=trodAll_cons hA
 obtain⟨v1,vs1,d1,ds1,p1,q1,rfl,rfl,rfl,h1,r1⟩:=trodAll_cons r0
 obtain⟨v2,vs2,d2,ds2,p2,q2,rfl,rfl,rfl,h2,r2⟩:=trodAll_cons r1
 obtain⟨rfl,rfl,rfl⟩:=trodAll_nil r2
 obtain rfl:args= #[v0,v1,v2]:=by cases args;simp_all
 obtain⟨rfl,rfl⟩:=trodVars_none hV
 have lt0: ∀x∈p0,x.block<W.heap.size:=by obtain⟨m,hm⟩:=h0;exact DataW.trod_lt m _ _ _ hm
 have t0:=Tr.of h0
 have o0:=hval 0 32 v0 rfl rfl
 have lt1: ∀x∈p1,x.block<W.heap.size:=by obtain⟨m,hm⟩:=h1;exact DataW.trod_lt m _ _ _ hm
 have t1:=Tr.of h1
 have o1:=hval 1 66 v1 rfl rfl
 have lt2: ∀x∈p2,x.block<W.heap.size:=by obtain⟨m,hm⟩:=h2;exact DataW.trod_lt m _ _ _ hm
 have t2:=Tr.of h2
 have o2:=hval 2 5 v2 rfl rfl
 obtain⟨l,wl,hl⟩:=arg_shape (s:= .row (.ints .u8)) (by kernel_rfl) (by kernel_rfl) (by kernel_rfl) o0 t0
 obtain⟨w,ww,hw⟩:=arg_shape (s:= .ints .u8) (by kernel_rfl) (by kernel_rfl) (by kernel_rfl) o1 t1
 obtain⟨n,wn,hn⟩:=arg_shape (s:= .i .u8) (by kernel_rfl) (by kernel_rfl) (by kernel_rfl) o2 t2
 refine(afun_calls (walk l w n ⟨wn.1,wn.2⟩) (repVs_cons hl (repVs_cons hw (repVs_cons hn repVs_nil)))).mono fun e W' ⟨he,bel⟩=> ?_
 subst he
 exact⟨_,rfl,_,_,_,[],_,[],hW',trodAll_mk1 (shut_bool Tryd.underlying4 _),(trodAll_cons_mk (Below.trod laidOut (by kernel_rfl) (of_decide_eq_true (by kernel_rfl)) h0 bel lt0) (trodAll_cons_mk (Below.trod laidOut (by kernel_rfl) (of_decide_eq_true (by kernel_rfl)) h1 bel lt1) (trodAll_cons_mk (Below.trod laidOut (by kernel_rfl) (of_decide_eq_true (by kernel_rfl)) h2 bel lt2) trodAll_mk0))),rfl,bel.frame _,fun h=>by cases h⟩
theorem over:Rows.endpointsIsoRow.holds Tryd.pinned (OpenSpec.ofChange Rows.endpointsIsoSpec):=
 OpenClaim.holds_of_wide 6 Tryd.f6 rfl rfl rfl rfl rfl rfl rfl ⟨rfl,rfl,rfl,rfl,rfl⟩ rfl rfl rfl rfl rfl (by kernel_rfl) Tryd.func6 (by kernel_rfl)
  (of_decide_eq_true (by kernel_rfl)) (by unfold Func.isWrapper;first|(rw[if_pos (by decide+kernel)];kernel_rfl)|(rw[if_neg (by decide+kernel)];exact⟨rfl,rfl⟩))
  (fun os started H enc _=>lifted os started H enc)
theorem proved:Rows.EndpointsIsoCardSaid:=
 Claim7.holds_tied_plain_at .later [] [.data,.data,.data] true (true, "cd93d2762d05d0720f0e129cbac423787a5b70e5cef2aafeab3fc3b75094b52e") false
  over (fun _ h=>by cases h) (by kernel_rfl) (fun _ h=>by cases h) endpointsIso_row_tie rfl ⟨rfl,rfl⟩ (by kernel_rfl) rfl
  (fun f fn hf hfn=>by
   obtain rfl:f=6:=Option.some.inj ((show Tryd.prog.funcNamed Rows.endpointsIsoRow.func=some 6 by kernel_rfl).symm.trans hf) |>.symm
   obtain rfl:fn=Tryd.f6:=(Option.some.inj (Tryd.func6.symm.trans hfn)).symm
   exact⟨by kernel_rfl,fun j t ht=>by
    rw[Tryd.params6]at ht
    have hm:t∈ [32,66,5]:=by simpa using Array.mem_of_getElem? ht
    have hall:([32,66,5].all fun u=> !Tryd.prog.wantsStandIn u)=true:=by kernel_rfl
    exact(show Tryd.prog.wantsStandIn t=false by simpa using List.all_eq_true.1 hall t hm)⟩)
  (by kernel_rfl)
#print axioms proved
end Go.Proofs.YtngghkoghbpceaaDoor.Iso
