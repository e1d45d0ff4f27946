/-
  The statement TransactionsCheck of the law's package plugboardlaw06: for every transaction the law returns true, and its arguments read afterwards as before.
  Conditions: none.
-/
import Derived.Test.YtpdbekbobkjfgaaRows
import Derived.Test.YtpdbekbobkjfgaaAM19
import Derived.Test.YtpdbekbobkjfgaaTrK
namespace Go.Proofs.Ytpdbekbobkjfgaa.TrK
open Go.ChangeShapes Go.WideShapes Go.ChangeAt Go.RowKit
set_option linter.unusedVariables false

theorem own : ownKnob Try.prog.godebug = none := by kernel_rfl
theorem laidOut : laidOutB Try.prog = true := by kernel_rfl
theorem repRow_one {w : World} {F : Nat → Prop} {d : D} {v : Value} {ds : List D} {vs : List Value} (hv : v.cells.toList = [v]) (hc : v.oneCell' = true) (hd : RepD w F d v) (hr : RepRow w F (fun v => v.oneCell' = true) ds vs) : RepRow w F (fun v => v.oneCell' = true) (d :: ds) (v :: vs) := by
  simp only [RepRow]
  exact ⟨v, vs, by rw [hv]; rfl, hc, hd, hr⟩
theorem repRow_end {w : World} {F : Nat → Prop} : RepRow w F (fun v => v.oneCell' = true) [] [] := by simp only [RepRow]

set_option maxRecDepth 100000 in
theorem lifted (os : Os) (started : os.Started) (H : Type) (enc : TypeId × Value → H) :
    ReturnsInHanded {} Try.checked os 7 .any (Rows.transactionsCheckSpec.pre6 enc Try.prog Try.f7 Rows.transactionsCheckRow.domain false) (Rows.transactionsCheckSpec.post enc Try.prog Try.f7 false true false false) := by
  refine returnsInHanded_of_change (C := Try.checked) own started (by kernel_rfl) Try.func7
    (ChangeSpec.witness6 (enc := enc) (C := Try.checked) false ⟨#[], #[.agg #[.int .u8 0, .int .u8 0, .int .u8 0, .bool false, .bool false, .int .i64 0, .slice none 0 0]], []⟩ 8 (by kernel_rfl) (by kernel_rfl) (by kernel_rfl) (by kernel_rfl)) ?_
  intro W base args ds gs before hval0 hW hcnd _
  have hval : ∀ (j : Nat) t v, Try.f7.params[j]? = some t → args[j]? = some v → Value.okWide Try.prog W .any base t v := hval0
  have hW' := hW
  obtain ⟨p, q, hA0, hV, rfl, hfz, hnd⟩ := hW
  have hA : DataW.TrodAll enc Try.prog W 0 (fun _ => true) true Try.f7.params.toList args.toList ds p := hA0
  rw [Try.params7] at hA hval
  obtain ⟨v0, vs0, d0, ds0, p0, q0, hargs, rfl, rfl, h0, r0⟩ := trodAll_cons hA
  obtain ⟨rfl, rfl, rfl⟩ := trodAll_nil r0
  obtain rfl : args = #[v0] := by cases args; simp_all
  obtain ⟨rfl, rfl⟩ := trodVars_none hV
  have lt0 : ∀ x ∈ p0, x.block < W.heap.size := by obtain ⟨m, hm⟩ := h0; exact DataW.trod_lt m _ _ _ hm
  have t0 := Tr.of h0
  have o0 := hval 0 67 v0 rfl rfl
  obtain ⟨l0, rfl, hl0, s0⟩ := Tr.agg Try.underlying67 (by kernel_rfl) o0 t0
  obtain ⟨c0, c1, c2, c3, c4, c5, c6, rfl⟩ := len7 hl0
  obtain ⟨a, e0, wa⟩ := Tr.int Try.underlying5 (Tr.field (i := 0) (off := 0) (m := 1) Try.underlying67 rfl rfl rfl (by kernel_rfl) s0)
  obtain ⟨e, e1, we⟩ := Tr.int Try.underlying5 (Tr.field (i := 1) (off := 1) (m := 1) Try.underlying67 rfl rfl rfl (by kernel_rfl) s0)
  obtain ⟨p, e2, wp⟩ := Tr.int Try.underlying26 (Tr.field (i := 2) (off := 2) (m := 1) Try.underlying67 rfl rfl rfl (by kernel_rfl) s0)
  obtain ⟨tg, e3⟩ := Tr.bool Try.underlying4 (Tr.field (i := 3) (off := 3) (m := 1) Try.underlying67 rfl rfl rfl (by kernel_rfl) s0)
  obtain ⟨iso, e4⟩ := Tr.bool Try.underlying4 (Tr.field (i := 4) (off := 4) (m := 1) Try.underlying67 rfl rfl rfl (by kernel_rfl) s0)
  obtain ⟨mx, e5, wm⟩ := Tr.int Try.underlying3 (Tr.field (i := 5) (off := 5) (m := 1) Try.underlying67 rfl rfl rfl (by kernel_rfl) s0)
  obtain ⟨a6, z6, cap6, hcs6, hle6, hm6, hz6, hc6, hw6⟩ := (Tr.field (i := 6) (off := 6) (m := 1) Try.underlying67 rfl rfl rfl (by kernel_rfl) s0).ints Try.underlying23 Try.underlying5 (by kernel_rfl)
  simp at hcs6 e0 e1 e2 e3 e4 e5
  subst hcs6 e0 e1 e2 e3 e4 e5
  have m6 : z6.length ≤ 9223372036854775807 := by unfold maxLen at hm6; omega
  have ba := bounds_u8 wa
  have be := bounds_u8 we
  have bp := bounds_u8 wp
  have bm := bounds_i64 wm
  have hD : RepD W nobody (tryD a e p tg iso mx z6 none) (.agg #[.int .u8 a, .int .u8 e, .int .u8 p, .bool tg, .bool iso, .int .i64 mx, .slice a6 z6.length cap6]) := by
    unfold tryD
    simp only [RepD]
    exact ⟨_, rfl, repRow_one rfl rfl repD_int (repRow_one rfl rfl repD_int (repRow_one rfl rfl repD_int (repRow_one rfl rfl repD_bool (repRow_one rfl rfl repD_bool (repRow_one rfl rfl repD_int (repRow_one rfl rfl (repD_cells hle6 hm6 hz6 hc6) repRow_end))))))⟩
  refine (afun_calls (checkWalk_a a e p tg iso mx z6 m6 (by omega) (by omega) (by omega) (by omega)) (repVs_cons hD repVs_nil)).mono fun e W' ⟨he, bel⟩ => ?_
  subst he
  exact ⟨_, rfl, _, _, _, [], _, [], hW', trodAll_mk1 (shut_bool Try.underlying4 _), (trodAll_cons_mk (Below.trod laidOut (by kernel_rfl) (of_decide_eq_true (by kernel_rfl)) h0 bel lt0) trodAll_mk0), rfl, bel.frame _, fun h => by cases h⟩

theorem over : Rows.transactionsCheckRow.holds Try.pinned (OpenSpec.ofChange Rows.transactionsCheckSpec) :=
  OpenClaim.holds_of_wide 7 Try.f7 rfl rfl rfl rfl rfl rfl rfl ⟨rfl, rfl, rfl, rfl, rfl⟩ rfl rfl rfl rfl rfl (by kernel_rfl) Try.func7 (by kernel_rfl)
    (of_decide_eq_true (by kernel_rfl)) (by unfold Func.isWrapper; first | (rw [if_pos (by decide +kernel)]; kernel_rfl) | (rw [if_neg (by decide +kernel)]; exact ⟨rfl, rfl⟩))
    (fun os started H enc _ => lifted os started H enc)

theorem proved : Rows.TransactionsCheckSaid := over
#print axioms proved
end Go.Proofs.Ytpdbekbobkjfgaa.TrK
