/-
  The statement AudiosKeep of the law's package plugboardlaw42: for every plan and every two numbers the law returns true, and its arguments read afterwards as before.
  Conditions: none.
-/
import Derived.Test.YtmjocalgekfodaaRows
import Derived.Test.YtmjocalgekfodaaKF
import Derived.Test.YtmjocalgekfodaaKpR
namespace Go.Proofs.Ytmjocalgekfodaa.Kp
open Go.ChangeShapes Go.WideShapes Go.ChangeAt Go.RowKit
set_option linter.unusedVariables false

def planSh : Sh := .cons (.i .u32) (.cons (.i .u16) (.cons (.ints .i32) (.cons (.i .u16) (.cons (.ints .u8) .nil))))
theorem own : ownKnob Try.prog.godebug = none := by kernel_rfl
theorem laidOut : laidOutB Try.prog = true := by kernel_rfl
theorem walk (p : planSh.T) (a b : Int) (wp : planSh.wf p) (wa : Sh.wf (.i .u16) a) (wb : Sh.wf (.i .u16) b) : AFun Try.prog 5 [planSh.toD p, Sh.toD (.i .u16) a, Sh.toD (.i .u16) b] (.v (.bool true)) := by
  have e1 : IntKind.u8.min = 0 := by decide
  have e2 : IntKind.u8.max = 255 := by decide
  have e3 : IntKind.u16.min = 0 := by decide
  have e4 : IntKind.u16.max = 65535 := by decide
  have e5 : IntKind.u32.min = 0 := by decide
  have e6 : IntKind.u32.max = 4294967295 := by decide
  have e7 : IntKind.i32.min = -2147483648 := by decide
  have e8 : IntKind.i32.max = 2147483647 := by decide
  obtain ⟨N, r, w, F, l, ⟨⟩⟩ := p
  obtain ⟨w0, w1, w2, w3, w4, _⟩ := wp
  simp only [Sh.wf, e1, e2, e3, e4, e5, e6, e7, e8] at w0 w1 w2 w3 w4 wa wb
  have v0 : 0 ≤ N ∧ N ≤ 4294967295 := w0
  have v1 : 0 ≤ r ∧ r ≤ 65535 := w1
  have v3 : 0 ≤ F ∧ F ≤ 65535 := w3
  have va : 0 ≤ a ∧ a ≤ 65535 := wa
  have vb : 0 ≤ b ∧ b ≤ 65535 := wb
  exact afun_con (lawKeep_ok 2000) [⟨planSh, (N, r, w, F, l, ())⟩, ⟨.i .u16, a⟩, ⟨.i .u16, b⟩] rfl ((N, r, w, F, l, ()), a, b, ()) () (true, ()) rfl rfl
    (lawKeep_true (N, r, w, F, l, ()) a b ⟨v0.1, Int.lt_of_le_of_lt v0.2 (by decide)⟩ ⟨v1.1, Int.lt_of_le_of_lt v1.2 (by decide)⟩ ⟨v3.1, Int.lt_of_le_of_lt v3.2 (by decide)⟩ ⟨va.1, Int.lt_of_le_of_lt va.2 (by decide)⟩ ⟨vb.1, Int.lt_of_le_of_lt vb.2 (by decide)⟩ w2.2 w4.2 ⟨w2.1, w4.1⟩) rfl

set_option maxRecDepth 100000 in
theorem lifted (os : Os) (started : os.Started) (H : Type) (enc : TypeId × Value → H) :
    ReturnsInHanded {} Try.checked os 5 .any (Rows.audiosKeepSpec.pre6 enc Try.prog Try.f5 Rows.audiosKeepRow.domain false) (Rows.audiosKeepSpec.post enc Try.prog Try.f5 false true false false) := by
  refine returnsInHanded_of_change (C := Try.checked) own started (by kernel_rfl) Try.func5
    (ChangeSpec.witness6 (enc := enc) (C := Try.checked) false ⟨#[], #[.agg #[.int .u32 0, .int .u16 0, .slice none 0 0, .int .u16 0, .slice none 0 0], .int .u16 0, .int .u16 0], []⟩ 8 (by kernel_rfl) (by kernel_rfl) (by kernel_rfl) (by kernel_rfl)) ?_
  intro W base args ds gs before hval0 hW hcnd _
  have hval : ∀ (j : Nat) t v, Try.f5.params[j]? = some t → args[j]? = some v → Value.okWide Try.prog W .any base t v := hval0
  have hW' := hW
  obtain ⟨p, q, hA0, hV, rfl, hfz, hnd⟩ := hW
  have hA : DataW.TrodAll enc Try.prog W 0 (fun _ => true) true Try.f5.params.toList args.toList ds p := hA0
  rw [Try.params5] at hA hval
  obtain ⟨v0, vs0, d0, ds0, p0, q0, hargs, rfl, rfl, h0, r0⟩ := trodAll_cons hA
  obtain ⟨v1, vs1, d1, ds1, p1, q1, rfl, rfl, rfl, h1, r1⟩ := trodAll_cons r0
  obtain ⟨v2, vs2, d2, ds2, p2, q2, rfl, rfl, rfl, h2, r2⟩ := trodAll_cons r1
  obtain ⟨rfl, rfl, rfl⟩ := trodAll_nil r2
  obtain rfl : args = #[v0, v1, v2] := by cases args; simp_all
  obtain ⟨rfl, rfl⟩ := trodVars_none hV
  have lt0 : ∀ x ∈ p0, x.block < W.heap.size := by obtain ⟨m, hm⟩ := h0; exact DataW.trod_lt m _ _ _ hm
  have t0 := Tr.of h0
  have o0 := hval 0 52 v0 rfl rfl
  have lt1 : ∀ x ∈ p1, x.block < W.heap.size := by obtain ⟨m, hm⟩ := h1; exact DataW.trod_lt m _ _ _ hm
  have t1 := Tr.of h1
  have o1 := hval 1 24 v1 rfl rfl
  have lt2 : ∀ x ∈ p2, x.block < W.heap.size := by obtain ⟨m, hm⟩ := h2; exact DataW.trod_lt m _ _ _ hm
  have t2 := Tr.of h2
  have o2 := hval 2 24 v2 rfl rfl
  obtain ⟨p, wp, hp⟩ := arg_shape (s := planSh) (by kernel_rfl) (by kernel_rfl) (by kernel_rfl) o0 t0
  obtain ⟨a, wa, ha⟩ := arg_shape (s := .i .u16) (by kernel_rfl) (by kernel_rfl) (by kernel_rfl) o1 t1
  obtain ⟨b, wb, hb⟩ := arg_shape (s := .i .u16) (by kernel_rfl) (by kernel_rfl) (by kernel_rfl) o2 t2
  refine (afun_calls (walk p a b wp wa wb) (repVs_cons hp (repVs_cons ha (repVs_cons hb repVs_nil)))).mono fun e W' ⟨he, bel⟩ => ?_
  subst he
  exact ⟨_, rfl, _, _, _, [], _, [], hW', trodAll_mk1 (shut_bool Try.underlying4 _), (trodAll_cons_mk (Below.trod laidOut (by kernel_rfl) (of_decide_eq_true (by kernel_rfl)) h0 bel lt0) (trodAll_cons_mk (Below.trod laidOut (by kernel_rfl) (of_decide_eq_true (by kernel_rfl)) h1 bel lt1) (trodAll_cons_mk (Below.trod laidOut (by kernel_rfl) (of_decide_eq_true (by kernel_rfl)) h2 bel lt2) trodAll_mk0))), rfl, bel.frame _, fun h => by cases h⟩

theorem over : Rows.audiosKeepRow.holds Try.pinned (OpenSpec.ofChange Rows.audiosKeepSpec) :=
  OpenClaim.holds_of_wide 5 Try.f5 rfl rfl rfl rfl rfl rfl rfl ⟨rfl, rfl, rfl, rfl, rfl⟩ rfl rfl rfl rfl rfl (by kernel_rfl) Try.func5 (by kernel_rfl)
    (of_decide_eq_true (by kernel_rfl)) (by unfold Func.isWrapper; first | (rw [if_pos (by decide +kernel)]; kernel_rfl) | (rw [if_neg (by decide +kernel)]; exact ⟨rfl, rfl⟩))
    (fun os started H enc _ => lifted os started H enc)

theorem proved : Rows.AudiosKeepSaid := over
#print axioms proved
end Go.Proofs.Ytmjocalgekfodaa.Kp

