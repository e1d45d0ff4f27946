/-
  The statement AudiosPack of the law's package plugboardlaw42: for every format, every slice of samples and every slice of bytes the law returns true, and its arguments read afterwards as before.
  Conditions: none.
-/
import Derived.Test.YtphajgehfbimnaaRows
import Derived.Test.YtphajgehfbimnaaFrame
import Derived.Test.YtphajgehfbimnaaAudPack8
namespace Go.Proofs.Ytphajgehfbimnaa.AudPack
open Go.ChangeShapes Go.WideShapes Go.ChangeAt Go.RowKit
set_option linter.unusedVariables false

theorem own : ownKnob Try.prog.godebug = none := by kernel_rfl
theorem laidOut : laidOutB Try.prog = true := by kernel_rfl

set_option maxRecDepth 100000 in
theorem lifted (os : Os) (started : os.Started) (H : Type) (enc : TypeId × Value → H) :
    ReturnsInHanded {} Try.checked os 5 .any (Rows.audiosPackSpec.pre6 enc Try.prog Try.f5 Rows.audiosPackRow.domain false) (Rows.audiosPackSpec.post enc Try.prog Try.f5 false true false false) := by
  refine returnsInHanded_of_change (C := Try.checked) own started (by kernel_rfl) Try.func5
    (ChangeSpec.witness6 (enc := enc) (C := Try.checked) false ⟨#[], #[.agg #[.int .i64 0, .int .i64 0], .slice none 0 0, .slice none 0 0], []⟩ 8 (by kernel_rfl) (by kernel_rfl) (by kernel_rfl) (by kernel_rfl)) ?_
  intro W base args ds gs before hval0 hW hcnd _
  have hval : ∀ (j : Nat) t v, Try.f5.params[j]? = some t → args[j]? = some v → Value.okWide Try.prog W .any base t v := hval0
  have hW' := hW
  obtain ⟨p, q, hA0, hV, rfl, hfz, hnd⟩ := hW
  have hA : DataW.TrodAll enc Try.prog W 0 (fun _ => true) true Try.f5.params.toList args.toList ds p := hA0
  rw [Try.params5] at hA hval
  obtain ⟨v0, vs0, d0, ds0, p0, q0, hargs, rfl, rfl, h0, r0⟩ := trodAll_cons hA
  obtain ⟨v1, vs1, d1, ds1, p1, q1, rfl, rfl, rfl, h1, r1⟩ := trodAll_cons r0
  obtain ⟨v2, vs2, d2, ds2, p2, q2, rfl, rfl, rfl, h2, r2⟩ := trodAll_cons r1
  obtain ⟨rfl, rfl, rfl⟩ := trodAll_nil r2
  obtain rfl : args = #[v0, v1, v2] := by cases args; simp_all
  obtain ⟨rfl, rfl⟩ := trodVars_none hV
  have lt0 : ∀ x ∈ p0, x.block < W.heap.size := by obtain ⟨m, hm⟩ := h0; exact DataW.trod_lt m _ _ _ hm
  have t0 := Tr.of h0
  have o0 := hval 0 39 v0 rfl rfl
  have lt1 : ∀ x ∈ p1, x.block < W.heap.size := by obtain ⟨m, hm⟩ := h1; exact DataW.trod_lt m _ _ _ hm
  have t1 := Tr.of h1
  have o1 := hval 1 40 v1 rfl rfl
  have lt2 : ∀ x ∈ p2, x.block < W.heap.size := by obtain ⟨m, hm⟩ := h2; exact DataW.trod_lt m _ _ _ hm
  have t2 := Tr.of h2
  have o2 := hval 2 32 v2 rfl rfl
  obtain ⟨l0, rfl, hl0, s0⟩ := Tr.agg Try.underlying39 (by kernel_rfl) o0 t0
  obtain ⟨c0, c1, rfl⟩ := len2 hl0
  obtain ⟨ch, e0, wa⟩ := Tr.int Try.underlying3 (Tr.field (i := 0) (off := 0) (m := 1) Try.underlying39 rfl rfl rfl (by kernel_rfl) s0)
  obtain ⟨by_, e1, wb⟩ := Tr.int Try.underlying3 (Tr.field (i := 1) (off := 1) (m := 1) Try.underlying39 rfl rfl rfl (by kernel_rfl) s0)
  simp at e0 e1
  subst e0 e1
  obtain ⟨a0, len0, cap0, rfl⟩ := okWide_slice Try.underlying40 o1
  obtain ⟨a1, zs, cap, hcs, _, hm, _, hc, hz⟩ := t1.ints Try.underlying40 Try.underlying21 (by kernel_rfl)
  simp [Value.cells] at hcs
  obtain ⟨rfl, rfl, rfl⟩ := hcs
  obtain ⟨a0', len0', cap0', rfl⟩ := okWide_slice Try.underlying32 o2
  obtain ⟨a1', zs', cap', hcs', _, hm', hn', hc', hz'⟩ := t2.ints Try.underlying32 Try.underlying5 (by kernel_rfl)
  simp [Value.cells] at hcs'
  obtain ⟨rfl, rfl, rfl⟩ := hcs'
  refine (audpack_walk ch by_ _ zs _ _ zs' _ W (by unfold maxLen at hm; omega) (by unfold maxLen at hm'; omega) hc hc' (fun x hx => by have := bounds_i32 (hz x hx); omega) (fun x hx => by have := bounds_u8 (hz' x hx); omega) hn').mono fun e W' ⟨he, bel⟩ => ?_
  subst he
  exact ⟨_, rfl, _, _, _, [], _, [], hW', trodAll_mk1 (shut_bool Try.underlying4 _), (trodAll_cons_mk (Below.trod laidOut (by kernel_rfl) (of_decide_eq_true (by kernel_rfl)) h0 bel lt0) (trodAll_cons_mk (Below.trod laidOut (by kernel_rfl) (of_decide_eq_true (by kernel_rfl)) h1 bel lt1) (trodAll_cons_mk (Below.trod laidOut (by kernel_rfl) (of_decide_eq_true (by kernel_rfl)) h2 bel lt2) trodAll_mk0))), rfl, bel.frame _, fun h => by cases h⟩

theorem over : Rows.audiosPackRow.holds Try.pinned (OpenSpec.ofChange Rows.audiosPackSpec) :=
  OpenClaim.holds_of_wide 5 Try.f5 rfl rfl rfl rfl rfl rfl rfl ⟨rfl, rfl, rfl, rfl, rfl⟩ rfl rfl rfl rfl rfl (by kernel_rfl) Try.func5 (by kernel_rfl)
    (of_decide_eq_true (by kernel_rfl)) (by unfold Func.isWrapper; first | (rw [if_pos (by decide +kernel)]; kernel_rfl) | (rw [if_neg (by decide +kernel)]; exact ⟨rfl, rfl⟩))
    (fun os started H enc _ => lifted os started H enc)

theorem proved : Rows.AudiosPackSaid := over
#print axioms proved
end Go.Proofs.Ytphajgehfbimnaa.AudPack
