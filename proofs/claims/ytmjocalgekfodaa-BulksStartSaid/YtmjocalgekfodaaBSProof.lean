/-
  The statement BulksStart of the law's package plugboardlaw09: for every plan and every number the law returns true, and its arguments read afterwards as before.
  Conditions: none.
-/
import Derived.Test.YtmjocalgekfodaaRows
import Derived.Test.YtmjocalgekfodaaKF
import Derived.Test.YtmjocalgekfodaaC9KQ
namespace Go.Proofs.Ytmjocalgekfodaa.Bs
open Go.ChangeShapes Go.WideShapes Go.ChangeAt Go.RowKit
set_option linter.unusedVariables false

def planSh : Sh := .cons .b (.cons (.i .u8) (.cons (.i .i64) (.cons .b (.cons (.ints .u8) (.cons .b (.cons (.i .i64) .nil))))))
theorem own : ownKnob Try.prog.godebug = none := by kernel_rfl
theorem laidOut : laidOutB Try.prog = true := by kernel_rfl
theorem walk (p : planSh.T) (b : Int) (wp : planSh.wf p) (wb : Sh.wf (.i .u16) b) : AFun Try.prog 9 [planSh.toD p, Sh.toD (.i .u16) b] (.v (.bool true)) := by
  have e1 : IntKind.u8.min = 0 := by decide
  have e3 : IntKind.u16.min = 0 := by decide
  have e4 : IntKind.u16.max = 65535 := by decide
  obtain ⟨I, E, M, tg, d, z, L, ⟨⟩⟩ := p
  obtain ⟨w0, w1, w2, w3, w4, _⟩ := wp
  simp only [Sh.wf, e1, e3, e4] at w1 wb
  have v1 : 0 ≤ E := w1.1
  have vb : 0 ≤ b ∧ b ≤ 65535 := wb
  exact afun_con (lawS_ok 80000) [⟨planSh, (I, E, M, tg, d, z, L, ())⟩, ⟨.i .u16, b⟩] rfl ((I, E, M, tg, d, z, L, ()), b, ()) () (true, ()) rfl rfl
    (lawS_true (I, E, M, tg, d, z, L, ()) b v1 ⟨vb.1, Int.lt_of_le_of_lt vb.2 (by decide)⟩) rfl

set_option maxRecDepth 100000 in
theorem lifted (os : Os) (started : os.Started) (H : Type) (enc : TypeId × Value → H) :
    ReturnsInHanded {} Try.checked os 9 .any (Rows.bulksStartSpec.pre6 enc Try.prog Try.f9 Rows.bulksStartRow.domain false) (Rows.bulksStartSpec.post enc Try.prog Try.f9 false true false false) := by
  refine returnsInHanded_of_change (C := Try.checked) own started (by kernel_rfl) Try.func9
    (ChangeSpec.witness6 (enc := enc) (C := Try.checked) false ⟨#[], #[.agg #[.bool false, .int .u8 0, .int .i64 0, .bool false, .slice none 0 0, .bool false, .int .i64 0], .int .u16 0], []⟩ 8 (by kernel_rfl) (by kernel_rfl) (by kernel_rfl) (by kernel_rfl)) ?_
  intro W base args ds gs before hval0 hW hcnd _
  have hval : ∀ (j : Nat) t v, Try.f9.params[j]? = some t → args[j]? = some v → Value.okWide Try.prog W .any base t v := hval0
  have hW' := hW
  obtain ⟨p, q, hA0, hV, rfl, hfz, hnd⟩ := hW
  have hA : DataW.TrodAll enc Try.prog W 0 (fun _ => true) true Try.f9.params.toList args.toList ds p := hA0
  rw [Try.params9] at hA hval
  obtain ⟨v0, vs0, d0, ds0, p0, q0, hargs, rfl, rfl, h0, r0⟩ := trodAll_cons hA
  obtain ⟨v1, vs1, d1, ds1, p1, q1, rfl, rfl, rfl, h1, r1⟩ := trodAll_cons r0
  obtain ⟨rfl, rfl, rfl⟩ := trodAll_nil r1
  obtain rfl : args = #[v0, v1] := by cases args; simp_all
  obtain ⟨rfl, rfl⟩ := trodVars_none hV
  have lt0 : ∀ x ∈ p0, x.block < W.heap.size := by obtain ⟨m, hm⟩ := h0; exact DataW.trod_lt m _ _ _ hm
  have t0 := Tr.of h0
  have o0 := hval 0 73 v0 rfl rfl
  have lt1 : ∀ x ∈ p1, x.block < W.heap.size := by obtain ⟨m, hm⟩ := h1; exact DataW.trod_lt m _ _ _ hm
  have t1 := Tr.of h1
  have o1 := hval 1 24 v1 rfl rfl
  obtain ⟨p, wp, hp⟩ := arg_shape (s := planSh) (by kernel_rfl) (by kernel_rfl) (by kernel_rfl) o0 t0
  obtain ⟨b, wb, hb⟩ := arg_shape (s := .i .u16) (by kernel_rfl) (by kernel_rfl) (by kernel_rfl) o1 t1
  refine (afun_calls (walk p b wp wb) (repVs_cons hp (repVs_cons hb repVs_nil))).mono fun e W' ⟨he, bel⟩ => ?_
  subst he
  exact ⟨_, rfl, _, _, _, [], _, [], hW', trodAll_mk1 (shut_bool Try.underlying4 _), (trodAll_cons_mk (Below.trod laidOut (by kernel_rfl) (of_decide_eq_true (by kernel_rfl)) h0 bel lt0) (trodAll_cons_mk (Below.trod laidOut (by kernel_rfl) (of_decide_eq_true (by kernel_rfl)) h1 bel lt1) trodAll_mk0)), rfl, bel.frame _, fun h => by cases h⟩

theorem over : Rows.bulksStartRow.holds Try.pinned (OpenSpec.ofChange Rows.bulksStartSpec) :=
  OpenClaim.holds_of_wide 9 Try.f9 rfl rfl rfl rfl rfl rfl rfl ⟨rfl, rfl, rfl, rfl, rfl⟩ rfl rfl rfl rfl rfl (by kernel_rfl) Try.func9 (by kernel_rfl)
    (of_decide_eq_true (by kernel_rfl)) (by unfold Func.isWrapper; first | (rw [if_pos (by decide +kernel)]; kernel_rfl) | (rw [if_neg (by decide +kernel)]; exact ⟨rfl, rfl⟩))
    (fun os started H enc _ => lifted os started H enc)

theorem proved : Rows.BulksStartSaid := over
#print axioms proved
end Go.Proofs.Ytmjocalgekfodaa.Bs

