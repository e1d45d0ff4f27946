/-
  The statement SpeedsSent of the law's package plugboardlaw04: for every two packets and both kinds the law returns true, and its arguments read afterwards as before.
  Conditions: none.
-/
import Derived.Test.YtpdbekbobkjfgaaRows
import Derived.Test.YtpdbekbobkjfgaaKF
import Derived.Test.YtpdbekbobkjfgaaS4R
namespace Go.Proofs.Ytpdbekbobkjfgaa.SsS
open Go.ChangeShapes Go.WideShapes Go.ChangeAt Go.RowKit
set_option linter.unusedVariables false

def pSh : Sh := (.cons (.i .u8) (.cons (.i .u8) (.cons (.i .u8) (.cons (.i .u16) (.cons (.i .u8) (.cons (.ints .u8) .nil))))))
theorem own : ownKnob Try.prog.godebug = none := by kernel_rfl
theorem laidOut : laidOutB Try.prog = true := by kernel_rfl
theorem pwf (p : PT) (h : Sh.wf pSh p) : 0 ≤ p.2.1 ∧ 0 ≤ p.2.2.1 := by
  have e1 : IntKind.u8.min = 0 := by decide
  obtain ⟨h0, h1, h2, h3⟩ := h
  simp only [Sh.wf, e1] at h1 h2
  exact ⟨h1.1, h2.1⟩
theorem walk (p r : PT) (b : Bool) (wp : Sh.wf pSh p) : AFun Try.prog 3 [pSh.toD p, pSh.toD r, Sh.toD .b b] (.v (.bool true)) := by
  have w := pwf p wp
  obtain ⟨k, A, B, C, E, D, ⟨⟩⟩ := p
  obtain ⟨k1, A1, B1, C1, E1, D1, ⟨⟩⟩ := r
  exact afun_con (spSent_ok 60000) [⟨pSh, (k, A, B, C, E, D, ())⟩, ⟨pSh, (k1, A1, B1, C1, E1, D1, ())⟩, ⟨.b, b⟩] rfl ((k, A, B, C, E, D, ()), (k1, A1, B1, C1, E1, D1, ()), b, ()) () (true, ()) rfl rfl (spSent_true 60000 (Nat.le_refl _) k A B C E D k1 A1 B1 C1 E1 D1 b w.1 w.2) rfl

set_option maxRecDepth 100000 in
theorem lifted (os : Os) (started : os.Started) (H : Type) (enc : TypeId × Value → H) :
    ReturnsInHanded {} Try.checked os 3 .any (Rows.speedsSentSpec.pre6 enc Try.prog Try.f3 Rows.speedsSentRow.domain false) (Rows.speedsSentSpec.post enc Try.prog Try.f3 false true false false) := by
  refine returnsInHanded_of_change (C := Try.checked) own started (by kernel_rfl) Try.func3
    (ChangeSpec.witness6 (enc := enc) (C := Try.checked) false ⟨#[], #[.agg #[.int .u8 0, .int .u8 0, .int .u8 0, .int .u16 0, .int .u8 0, .slice none 0 0], .agg #[.int .u8 0, .int .u8 0, .int .u8 0, .int .u16 0, .int .u8 0, .slice none 0 0], .bool false], []⟩ 8 (by kernel_rfl) (by kernel_rfl) (by kernel_rfl) (by kernel_rfl)) ?_
  intro W base args ds gs before hval0 hW hcnd _
  have hval : ∀ (j : Nat) t v, Try.f3.params[j]? = some t → args[j]? = some v → Value.okWide Try.prog W .any base t v := hval0
  have hW' := hW
  obtain ⟨p, q, hA0, hV, rfl, hfz, hnd⟩ := hW
  have hA : DataW.TrodAll enc Try.prog W 0 (fun _ => true) true Try.f3.params.toList args.toList ds p := hA0
  rw [Try.params3] at hA hval
  obtain ⟨v0, vs0, d0, ds0, p0, q0, hargs, rfl, rfl, h0, r0⟩ := trodAll_cons hA
  obtain ⟨v1, vs1, d1, ds1, p1, q1, rfl, rfl, rfl, h1, r1⟩ := trodAll_cons r0
  obtain ⟨v2, vs2, d2, ds2, p2, q2, rfl, rfl, rfl, h2, r2⟩ := trodAll_cons r1
  obtain ⟨rfl, rfl, rfl⟩ := trodAll_nil r2
  obtain rfl : args = #[v0, v1, v2] := by cases args; simp_all
  obtain ⟨rfl, rfl⟩ := trodVars_none hV
  have lt0 : ∀ x ∈ p0, x.block < W.heap.size := by obtain ⟨m, hm⟩ := h0; exact DataW.trod_lt m _ _ _ hm
  have t0 := Tr.of h0
  have o0 := hval 0 25 v0 rfl rfl
  have lt1 : ∀ x ∈ p1, x.block < W.heap.size := by obtain ⟨m, hm⟩ := h1; exact DataW.trod_lt m _ _ _ hm
  have t1 := Tr.of h1
  have o1 := hval 1 25 v1 rfl rfl
  have lt2 : ∀ x ∈ p2, x.block < W.heap.size := by obtain ⟨m, hm⟩ := h2; exact DataW.trod_lt m _ _ _ hm
  have t2 := Tr.of h2
  have o2 := hval 2 4 v2 rfl rfl
  obtain ⟨p, wp, hp⟩ := arg_shape (s := pSh) (by kernel_rfl) (by kernel_rfl) (by kernel_rfl) o0 t0
  obtain ⟨r, wr, hr⟩ := arg_shape (s := pSh) (by kernel_rfl) (by kernel_rfl) (by kernel_rfl) o1 t1
  obtain ⟨b, wb, hb⟩ := arg_shape (s := .b) (by kernel_rfl) (by kernel_rfl) (by kernel_rfl) o2 t2
  refine (afun_calls (walk p r b wp) (repVs_cons hp (repVs_cons hr (repVs_cons hb repVs_nil)))).mono fun e W' ⟨he, bel⟩ => ?_
  subst he
  exact ⟨_, rfl, _, _, _, [], _, [], hW', trodAll_mk1 (shut_bool Try.underlying4 _), (trodAll_cons_mk (Below.trod laidOut (by kernel_rfl) (of_decide_eq_true (by kernel_rfl)) h0 bel lt0) (trodAll_cons_mk (Below.trod laidOut (by kernel_rfl) (of_decide_eq_true (by kernel_rfl)) h1 bel lt1) (trodAll_cons_mk (Below.trod laidOut (by kernel_rfl) (of_decide_eq_true (by kernel_rfl)) h2 bel lt2) trodAll_mk0))), rfl, bel.frame _, fun h => by cases h⟩

theorem over : Rows.speedsSentRow.holds Try.pinned (OpenSpec.ofChange Rows.speedsSentSpec) :=
  OpenClaim.holds_of_wide 3 Try.f3 rfl rfl rfl rfl rfl rfl rfl ⟨rfl, rfl, rfl, rfl, rfl⟩ rfl rfl rfl rfl rfl (by kernel_rfl) Try.func3 (by kernel_rfl)
    (of_decide_eq_true (by kernel_rfl)) (by unfold Func.isWrapper; first | (rw [if_pos (by decide +kernel)]; kernel_rfl) | (rw [if_neg (by decide +kernel)]; exact ⟨rfl, rfl⟩))
    (fun os started H enc _ => lifted os started H enc)

theorem proved : Rows.SpeedsSentSaid := over
#print axioms proved
end Go.Proofs.Ytpdbekbobkjfgaa.SsS
