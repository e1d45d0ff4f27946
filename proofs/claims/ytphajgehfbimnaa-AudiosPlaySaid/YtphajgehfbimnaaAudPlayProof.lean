/-
  The statement AudiosPlay of the law's package plugboardlaw42: for every sink, every number of samples and every rate the law returns true, and its arguments read afterwards as before.
  Conditions: none.
-/
import Derived.Test.YtphajgehfbimnaaRows
import Derived.Test.YtphajgehfbimnaaFrame
import Derived.Test.YtphajgehfbimnaaAudPlay3
namespace Go.Proofs.Ytphajgehfbimnaa.AudPlay
open Go.ChangeShapes Go.WideShapes Go.ChangeAt Go.RowKit
set_option linter.unusedVariables false

theorem own : ownKnob Try.prog.godebug = none := by kernel_rfl
theorem laidOut : laidOutB Try.prog = true := by kernel_rfl

set_option maxRecDepth 100000 in
theorem lifted (os : Os) (started : os.Started) (H : Type) (enc : TypeId × Value → H) :
    ReturnsInHanded {} Try.checked os 6 .any (Rows.audiosPlaySpec.pre6 enc Try.prog Try.f6 Rows.audiosPlayRow.domain false) (Rows.audiosPlaySpec.post enc Try.prog Try.f6 false true false false) := by
  refine returnsInHanded_of_change (C := Try.checked) own started (by kernel_rfl) Try.func6
    (ChangeSpec.witness6 (enc := enc) (C := Try.checked) false ⟨#[], #[.agg #[.int .i64 0, .int .i64 0, .int .i64 0, .int .u32 0], .int .i64 0, .int .u32 0], []⟩ 8 (by kernel_rfl) (by kernel_rfl) (by kernel_rfl) (by kernel_rfl)) ?_
  intro W base args ds gs before hval0 hW hcnd _
  have hval : ∀ (j : Nat) t v, Try.f6.params[j]? = some t → args[j]? = some v → Value.okWide Try.prog W .any base t v := hval0
  have hW' := hW
  obtain ⟨p, q, hA0, hV, rfl, hfz, hnd⟩ := hW
  have hA : DataW.TrodAll enc Try.prog W 0 (fun _ => true) true Try.f6.params.toList args.toList ds p := hA0
  rw [Try.params6] at hA hval
  obtain ⟨v0, vs0, d0, ds0, p0, q0, hargs, rfl, rfl, h0, r0⟩ := trodAll_cons hA
  obtain ⟨v1, vs1, d1, ds1, p1, q1, rfl, rfl, rfl, h1, r1⟩ := trodAll_cons r0
  obtain ⟨v2, vs2, d2, ds2, p2, q2, rfl, rfl, rfl, h2, r2⟩ := trodAll_cons r1
  obtain ⟨rfl, rfl, rfl⟩ := trodAll_nil r2
  obtain rfl : args = #[v0, v1, v2] := by cases args; simp_all
  obtain ⟨rfl, rfl⟩ := trodVars_none hV
  have lt0 : ∀ x ∈ p0, x.block < W.heap.size := by obtain ⟨m, hm⟩ := h0; exact DataW.trod_lt m _ _ _ hm
  have t0 := Tr.of h0
  have o0 := hval 0 46 v0 rfl rfl
  have lt1 : ∀ x ∈ p1, x.block < W.heap.size := by obtain ⟨m, hm⟩ := h1; exact DataW.trod_lt m _ _ _ hm
  have t1 := Tr.of h1
  have o1 := hval 1 3 v1 rfl rfl
  have lt2 : ∀ x ∈ p2, x.block < W.heap.size := by obtain ⟨m, hm⟩ := h2; exact DataW.trod_lt m _ _ _ hm
  have t2 := Tr.of h2
  have o2 := hval 2 22 v2 rfl rfl
  obtain ⟨l0, rfl, hl0, s0⟩ := Tr.agg Try.underlying46 (by kernel_rfl) o0 t0
  obtain ⟨c0, c1, c2, c3, rfl⟩ := len4 hl0
  obtain ⟨a, e0, wa⟩ := Tr.int Try.underlying3 (Tr.field (i := 0) (off := 0) (m := 1) Try.underlying46 rfl rfl rfl (by kernel_rfl) s0)
  obtain ⟨b, e1, wb⟩ := Tr.int Try.underlying3 (Tr.field (i := 1) (off := 1) (m := 1) Try.underlying46 rfl rfl rfl (by kernel_rfl) s0)
  obtain ⟨c, e2, wc⟩ := Tr.int Try.underlying3 (Tr.field (i := 2) (off := 2) (m := 1) Try.underlying46 rfl rfl rfl (by kernel_rfl) s0)
  obtain ⟨d, e3, wd⟩ := Tr.int Try.underlying22 (Tr.field (i := 3) (off := 3) (m := 1) Try.underlying46 rfl rfl rfl (by kernel_rfl) s0)
  simp at e0 e1 e2 e3
  subst e0 e1 e2 e3
  obtain ⟨g, rfl, -, -, wg⟩ := open_int Try.underlying3 o1 h1
  obtain ⟨r, rfl, -, -, wr⟩ := open_int Try.underlying22 o2 h2
  have bd := bounds_u32 wd
  have br := bounds_u32 wr
  refine (audplay_walk a b c d g r W (by omega) (by omega)).mono fun e W' ⟨he, bel⟩ => ?_
  subst he
  exact ⟨_, rfl, _, _, _, [], _, [], hW', trodAll_mk1 (shut_bool Try.underlying4 _), (trodAll_cons_mk (Below.trod laidOut (by kernel_rfl) (of_decide_eq_true (by kernel_rfl)) h0 bel lt0) (trodAll_cons_mk (Below.trod laidOut (by kernel_rfl) (of_decide_eq_true (by kernel_rfl)) h1 bel lt1) (trodAll_cons_mk (Below.trod laidOut (by kernel_rfl) (of_decide_eq_true (by kernel_rfl)) h2 bel lt2) trodAll_mk0))), rfl, bel.frame _, fun h => by cases h⟩

theorem over : Rows.audiosPlayRow.holds Try.pinned (OpenSpec.ofChange Rows.audiosPlaySpec) :=
  OpenClaim.holds_of_wide 6 Try.f6 rfl rfl rfl rfl rfl rfl rfl ⟨rfl, rfl, rfl, rfl, rfl⟩ rfl rfl rfl rfl rfl (by kernel_rfl) Try.func6 (by kernel_rfl)
    (of_decide_eq_true (by kernel_rfl)) (by unfold Func.isWrapper; first | (rw [if_pos (by decide +kernel)]; kernel_rfl) | (rw [if_neg (by decide +kernel)]; exact ⟨rfl, rfl⟩))
    (fun os started H enc _ => lifted os started H enc)

theorem proved : Rows.AudiosPlaySaid := over
#print axioms proved
end Go.Proofs.Ytphajgehfbimnaa.AudPlay
