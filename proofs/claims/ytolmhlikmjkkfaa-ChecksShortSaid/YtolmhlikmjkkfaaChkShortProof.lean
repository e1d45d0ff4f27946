/-
  The statement ChecksShort of the law's package plugboardlaw02: for every number, number of bits and changes the law returns true, and its argument reads afterwards as before.
  Conditions: none.
-/
import Derived.Test.YtolmhlikmjkkfaaRows
import Derived.Test.YtolmhlikmjkkfaaFrame2
import Derived.Test.YtolmhlikmjkkfaaChkL2
namespace Go.Proofs.Ytolmhlikmjkkfaa.ChkShort
open Go.ChangeShapes Go.WideShapes Go.ChangeAt Go.RowKit
set_option linter.unusedVariables false

theorem own : ownKnob Try.prog.godebug = none := by kernel_rfl
theorem laidOut : laidOutB Try.prog = true := by kernel_rfl

set_option maxRecDepth 100000 in
theorem lifted (os : Os) (started : os.Started) (H : Type) (enc : TypeId × Value → H) :
    ReturnsInHanded {} Try.checked os 6 .any (Rows.checksShortSpec.pre6 enc Try.prog Try.f6 Rows.checksShortRow.domain false) (Rows.checksShortSpec.post enc Try.prog Try.f6 false true false false) := by
  refine returnsInHanded_of_change (C := Try.checked) own started (by kernel_rfl) Try.func6
    (ChangeSpec.witness6 (enc := enc) (C := Try.checked) false ⟨#[], #[.agg #[.int .u32 0, .int .u8 0, .int .u8 0, .int .u8 0, .int .u8 0]], []⟩ 8 (by kernel_rfl) (by kernel_rfl) (by kernel_rfl) (by kernel_rfl)) ?_
  intro W base args ds gs before hval0 hW hcnd _
  have hval : ∀ (j : Nat) t v, Try.f6.params[j]? = some t → args[j]? = some v → Value.okWide Try.prog W .any base t v := hval0
  have hW' := hW
  obtain ⟨p, q, hA0, hV, rfl, hfz, hnd⟩ := hW
  have hA : DataW.TrodAll enc Try.prog W 0 (fun _ => true) true Try.f6.params.toList args.toList ds p := hA0
  rw [Try.params6] at hA hval
  obtain ⟨v0, vs0, d0, ds0, p0, q0, hargs, rfl, rfl, h0, r0⟩ := trodAll_cons hA
  obtain ⟨rfl, rfl, rfl⟩ := trodAll_nil r0
  obtain rfl : args = #[v0] := by cases args; simp_all
  obtain ⟨rfl, rfl⟩ := trodVars_none hV
  have lt0 : ∀ x ∈ p0, x.block < W.heap.size := by obtain ⟨m, hm⟩ := h0; exact DataW.trod_lt m _ _ _ hm
  have t0 := Tr.of h0
  have o0 := hval 0 43 v0 rfl rfl
  obtain ⟨l0, rfl, hl0, s0⟩ := Tr.agg Try.underlying43 (by kernel_rfl) o0 t0
  obtain ⟨c0, c1, c2, c3, c4, rfl⟩ := len5 hl0
  obtain ⟨V, e0, wV⟩ := Tr.int Try.underlying22 (Tr.field (i := 0) (off := 0) (m := 1) Try.underlying43 rfl rfl rfl (by kernel_rfl) s0)
  obtain ⟨N, e1, wN⟩ := Tr.int Try.underlying5 (Tr.field (i := 1) (off := 1) (m := 1) Try.underlying43 rfl rfl rfl (by kernel_rfl) s0)
  have sA := Tr.field (i := 2) (off := 2) (m := 2) Try.underlying43 rfl rfl rfl (by kernel_rfl) s0
  obtain ⟨B, e4, wB⟩ := Tr.int Try.underlying5 (Tr.field (i := 3) (off := 4) (m := 1) Try.underlying43 rfl rfl rfl (by kernel_rfl) s0)
  obtain ⟨A0, e2, wA0⟩ := Tr.int Try.underlying5 (Tr.elem (k := 0) (n := 2) (m := 1) Try.underlying41 (by kernel_rfl) (by decide) sA)
  obtain ⟨A1, e3, wA1⟩ := Tr.int Try.underlying5 (Tr.elem (k := 1) (n := 2) (m := 1) Try.underlying41 (by kernel_rfl) (by decide) sA)
  simp at e0 e1 e2 e3 e4
  subst e0 e1 e2 e3 e4
  have bV := bounds_u32 wV
  have bN := bounds_u8 wN
  have bA := bounds_u8 wA0
  have bC := bounds_u8 wA1
  have bB := bounds_u8 wB
  obtain ⟨V, rfl⟩ := Int.eq_ofNat_of_zero_le bV.1
  obtain ⟨N, rfl⟩ := Int.eq_ofNat_of_zero_le bN.1
  obtain ⟨A0, rfl⟩ := Int.eq_ofNat_of_zero_le bA.1
  obtain ⟨A1, rfl⟩ := Int.eq_ofNat_of_zero_le bC.1
  obtain ⟨B, rfl⟩ := Int.eq_ofNat_of_zero_le bB.1
  refine (short_walk V N A0 A1 B W (by omega) (by omega) (by omega) (by omega) (by omega)).mono fun e W' ⟨he, bel⟩ => ?_
  subst he
  exact ⟨_, rfl, _, _, _, [], _, [], hW', trodAll_mk1 (shut_bool Try.underlying4 _), (trodAll_cons_mk (Below.trod laidOut (by kernel_rfl) (of_decide_eq_true (by kernel_rfl)) h0 bel lt0) trodAll_mk0), rfl, bel.frame _, fun h => by cases h⟩

theorem over : Rows.checksShortRow.holds Try.pinned (OpenSpec.ofChange Rows.checksShortSpec) :=
  OpenClaim.holds_of_wide 6 Try.f6 rfl rfl rfl rfl rfl rfl rfl ⟨rfl, rfl, rfl, rfl, rfl⟩ rfl rfl rfl rfl rfl (by kernel_rfl) Try.func6 (by kernel_rfl)
    (of_decide_eq_true (by kernel_rfl)) (by unfold Func.isWrapper; first | (rw [if_pos (by decide +kernel)]; kernel_rfl) | (rw [if_neg (by decide +kernel)]; exact ⟨rfl, rfl⟩))
    (fun os started H enc _ => lifted os started H enc)

theorem proved : Rows.ChecksShortSaid := over
#print axioms proved
end Go.Proofs.Ytolmhlikmjkkfaa.ChkShort
