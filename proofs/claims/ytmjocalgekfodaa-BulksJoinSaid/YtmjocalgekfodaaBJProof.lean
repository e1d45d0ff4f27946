/-
  The statement BulksJoin of the law's package plugboardlaw09: for every list of packets and every number the law returns true, and its arguments read afterwards as before.
  Conditions: none.
-/
import Derived.Test.YtmjocalgekfodaaRows
import Derived.Test.YtmjocalgekfodaaKF
import Derived.Test.YtmjocalgekfodaaC9J
namespace Go.Proofs.Ytmjocalgekfodaa.Bj
open Go.ChangeShapes Go.WideShapes Go.ChangeAt Go.RowKit
set_option linter.unusedVariables false

theorem own : ownKnob Try.prog.godebug = none := by kernel_rfl
theorem laidOut : laidOutB Try.prog = true := by kernel_rfl
theorem walk (xs : List (List Int)) (t : Int) (wx : (Sh.row (.ints .u8)).wf xs) (wt : Sh.wf (.i .u8) t) : AFun Try.prog 8 [(Sh.row (.ints .u8)).toD xs, Sh.toD (.i .u8) t] (.v (.bool true)) := by
  have e1 : IntKind.u8.min = 0 := by decide
  have e2 : IntKind.u8.max = 255 := by decide
  have h1 : (0 : Int) ≤ t := e1 ▸ wt.1
  have h2 : t ≤ (255 : Int) := e2 ▸ wt.2
  exact afun_con (lawJ_ok 2000) [⟨.row (.ints .u8), xs⟩, ⟨.i .u8, t⟩] rfl (xs, t, ()) () (true, ()) rfl rfl (lawJ_true xs t h1 h2) rfl

set_option maxRecDepth 100000 in
theorem lifted (os : Os) (started : os.Started) (H : Type) (enc : TypeId × Value → H) :
    ReturnsInHanded {} Try.checked os 8 .any (Rows.bulksJoinSpec.pre6 enc Try.prog Try.f8 Rows.bulksJoinRow.domain false) (Rows.bulksJoinSpec.post enc Try.prog Try.f8 false true false false) := by
  refine returnsInHanded_of_change (C := Try.checked) own started (by kernel_rfl) Try.func8
    (ChangeSpec.witness6 (enc := enc) (C := Try.checked) false ⟨#[], #[.slice none 0 0, .int .u8 0], []⟩ 8 (by kernel_rfl) (by kernel_rfl) (by kernel_rfl) (by kernel_rfl)) ?_
  intro W base args ds gs before hval0 hW hcnd _
  have hval : ∀ (j : Nat) t v, Try.f8.params[j]? = some t → args[j]? = some v → Value.okWide Try.prog W .any base t v := hval0
  have hW' := hW
  obtain ⟨p, q, hA0, hV, rfl, hfz, hnd⟩ := hW
  have hA : DataW.TrodAll enc Try.prog W 0 (fun _ => true) true Try.f8.params.toList args.toList ds p := hA0
  rw [Try.params8] at hA hval
  obtain ⟨v0, vs0, d0, ds0, p0, q0, hargs, rfl, rfl, h0, r0⟩ := trodAll_cons hA
  obtain ⟨v1, vs1, d1, ds1, p1, q1, rfl, rfl, rfl, h1, r1⟩ := trodAll_cons r0
  obtain ⟨rfl, rfl, rfl⟩ := trodAll_nil r1
  obtain rfl : args = #[v0, v1] := by cases args; simp_all
  obtain ⟨rfl, rfl⟩ := trodVars_none hV
  have lt0 : ∀ x ∈ p0, x.block < W.heap.size := by obtain ⟨m, hm⟩ := h0; exact DataW.trod_lt m _ _ _ hm
  have t0 := Tr.of h0
  have o0 := hval 0 61 v0 rfl rfl
  have lt1 : ∀ x ∈ p1, x.block < W.heap.size := by obtain ⟨m, hm⟩ := h1; exact DataW.trod_lt m _ _ _ hm
  have t1 := Tr.of h1
  have o1 := hval 1 5 v1 rfl rfl
  obtain ⟨x, wx, hx⟩ := arg_shape (s := .row (.ints .u8)) (by kernel_rfl) (by kernel_rfl) (by kernel_rfl) o0 t0
  obtain ⟨t, wt, ht⟩ := arg_shape (s := .i .u8) (by kernel_rfl) (by kernel_rfl) (by kernel_rfl) o1 t1
  refine (afun_calls (walk x t wx wt) (repVs_cons hx (repVs_cons ht repVs_nil))).mono fun e W' ⟨he, bel⟩ => ?_
  subst he
  exact ⟨_, rfl, _, _, _, [], _, [], hW', trodAll_mk1 (shut_bool Try.underlying4 _), (trodAll_cons_mk (Below.trod laidOut (by kernel_rfl) (of_decide_eq_true (by kernel_rfl)) h0 bel lt0) (trodAll_cons_mk (Below.trod laidOut (by kernel_rfl) (of_decide_eq_true (by kernel_rfl)) h1 bel lt1) trodAll_mk0)), rfl, bel.frame _, fun h => by cases h⟩

theorem over : Rows.bulksJoinRow.holds Try.pinned (OpenSpec.ofChange Rows.bulksJoinSpec) :=
  OpenClaim.holds_of_wide 8 Try.f8 rfl rfl rfl rfl rfl rfl rfl ⟨rfl, rfl, rfl, rfl, rfl⟩ rfl rfl rfl rfl rfl (by kernel_rfl) Try.func8 (by kernel_rfl)
    (of_decide_eq_true (by kernel_rfl)) (by unfold Func.isWrapper; first | (rw [if_pos (by decide +kernel)]; kernel_rfl) | (rw [if_neg (by decide +kernel)]; exact ⟨rfl, rfl⟩))
    (fun os started H enc _ => lifted os started H enc)

theorem proved : Rows.BulksJoinSaid := over
#print axioms proved
end Go.Proofs.Ytmjocalgekfodaa.Bj

