/-
  The statement ControlsNew of the law's package plugboardlaw08: for every request, all bytes and every size the law returns true, and its arguments read afterwards as before.
  Conditions: none.
-/
import Derived.Test.YtjibodklckppfaaRows
import Derived.Test.YtjibodklckppfaaKF
import Derived.Test.YtjibodklckppfaaHnP
namespace Go.Proofs.Ytjibodklckppfaa.Hn
open Go.ChangeShapes Go.WideShapes Go.ChangeAt Go.RowKit
set_option linter.unusedVariables false

def rSh : Sh := .cons (.i .u8) (.cons (.i .u8) (.cons (.i .u16) (.cons (.i .u16) (.cons (.i .u16) .nil))))
theorem own : ownKnob Try.prog.godebug = none := by kernel_rfl
theorem laidOut : laidOutB Try.prog = true := by kernel_rfl
theorem walk (r : rSh.T) (o : List Int) (x : Int) (wr : rSh.wf r) : AFun Try.prog 4 [rSh.toD r, Sh.toD (.ints .u8) o, Sh.toD (.i .i64) x] (.v (.bool true)) := by
  have e1 : IntKind.u8.min = 0 := by decide
  have e2 : IntKind.u8.max = 255 := by decide
  have e3 : IntKind.u16.min = 0 := by decide
  have e4 : IntKind.u16.max = 65535 := by decide
  obtain ⟨r1, r2, r3, r4, r5, ⟨⟩⟩ := r
  obtain ⟨w1, w2, w3, w4, w5, _⟩ := wr
  simp only [Sh.wf, e1, e2, e3, e4] at w1 w5
  have v1 : 0 ≤ r1 ∧ r1 ≤ 255 := w1
  have v5 : 0 ≤ r5 ∧ r5 ≤ 65535 := w5
  exact afun_con (newL_ok 400) [⟨rSh, (r1, r2, r3, r4, r5, ())⟩, ⟨.ints .u8, o⟩, ⟨.i .i64, x⟩] rfl ((r1, r2, r3, r4, r5, ()), o, x, ()) () (true, ()) rfl rfl
    (newL_true 400 r1 r2 r3 r4 r5 o x ⟨v1.1, Int.lt_of_le_of_lt v1.2 (by decide)⟩ ⟨v5.1, Int.lt_of_le_of_lt v5.2 (by decide)⟩) rfl

set_option maxRecDepth 100000 in
theorem lifted (os : Os) (started : os.Started) (H : Type) (enc : TypeId × Value → H) :
    ReturnsInHanded {} Try.checked os 4 .any (Rows.controlsNewSpec.pre6 enc Try.prog Try.f4 Rows.controlsNewRow.domain false) (Rows.controlsNewSpec.post enc Try.prog Try.f4 false true false false) := by
  refine returnsInHanded_of_change (C := Try.checked) own started (by kernel_rfl) Try.func4
    (ChangeSpec.witness6 (enc := enc) (C := Try.checked) false ⟨#[], #[.agg #[.int .u8 0, .int .u8 0, .int .u16 0, .int .u16 0, .int .u16 0], .slice none 0 0, .int .i64 0], []⟩ 8 (by kernel_rfl) (by kernel_rfl) (by kernel_rfl) (by kernel_rfl)) ?_
  intro W base args ds gs before hval0 hW hcnd _
  have hval : ∀ (j : Nat) t v, Try.f4.params[j]? = some t → args[j]? = some v → Value.okWide Try.prog W .any base t v := hval0
  have hW' := hW
  obtain ⟨p, q, hA0, hV, rfl, hfz, hnd⟩ := hW
  have hA : DataW.TrodAll enc Try.prog W 0 (fun _ => true) true Try.f4.params.toList args.toList ds p := hA0
  rw [Try.params4] at hA hval
  obtain ⟨v0, vs0, d0, ds0, p0, q0, hargs, rfl, rfl, h0, r0⟩ := trodAll_cons hA
  obtain ⟨v1, vs1, d1, ds1, p1, q1, rfl, rfl, rfl, h1, r1⟩ := trodAll_cons r0
  obtain ⟨v2, vs2, d2, ds2, p2, q2, rfl, rfl, rfl, h2, r2⟩ := trodAll_cons r1
  obtain ⟨rfl, rfl, rfl⟩ := trodAll_nil r2
  obtain rfl : args = #[v0, v1, v2] := by cases args; simp_all
  obtain ⟨rfl, rfl⟩ := trodVars_none hV
  have lt0 : ∀ x ∈ p0, x.block < W.heap.size := by obtain ⟨m, hm⟩ := h0; exact DataW.trod_lt m _ _ _ hm
  have t0 := Tr.of h0
  have o0 := hval 0 24 v0 rfl rfl
  have lt1 : ∀ x ∈ p1, x.block < W.heap.size := by obtain ⟨m, hm⟩ := h1; exact DataW.trod_lt m _ _ _ hm
  have t1 := Tr.of h1
  have o1 := hval 1 25 v1 rfl rfl
  have lt2 : ∀ x ∈ p2, x.block < W.heap.size := by obtain ⟨m, hm⟩ := h2; exact DataW.trod_lt m _ _ _ hm
  have t2 := Tr.of h2
  have o2 := hval 2 3 v2 rfl rfl
  obtain ⟨r, wr, hr⟩ := arg_shape (s := rSh) (by kernel_rfl) (by kernel_rfl) (by kernel_rfl) o0 t0
  obtain ⟨o, wo, ho⟩ := arg_shape (s := .ints .u8) (by kernel_rfl) (by kernel_rfl) (by kernel_rfl) o1 t1
  obtain ⟨x, wx, hx⟩ := arg_shape (s := .i .i64) (by kernel_rfl) (by kernel_rfl) (by kernel_rfl) o2 t2
  refine (afun_calls (walk r o x wr) (repVs_cons hr (repVs_cons ho (repVs_cons hx repVs_nil)))).mono fun e W' ⟨he, bel⟩ => ?_
  subst he
  exact ⟨_, rfl, _, _, _, [], _, [], hW', trodAll_mk1 (shut_bool Try.underlying4 _), (trodAll_cons_mk (Below.trod laidOut (by kernel_rfl) (of_decide_eq_true (by kernel_rfl)) h0 bel lt0) (trodAll_cons_mk (Below.trod laidOut (by kernel_rfl) (of_decide_eq_true (by kernel_rfl)) h1 bel lt1) (trodAll_cons_mk (Below.trod laidOut (by kernel_rfl) (of_decide_eq_true (by kernel_rfl)) h2 bel lt2) trodAll_mk0))), rfl, bel.frame _, fun h => by cases h⟩

theorem over : Rows.controlsNewRow.holds Try.pinned (OpenSpec.ofChange Rows.controlsNewSpec) :=
  OpenClaim.holds_of_wide 4 Try.f4 rfl rfl rfl rfl rfl rfl rfl ⟨rfl, rfl, rfl, rfl, rfl⟩ rfl rfl rfl rfl rfl (by kernel_rfl) Try.func4 (by kernel_rfl)
    (of_decide_eq_true (by kernel_rfl)) (by unfold Func.isWrapper; first | (rw [if_pos (by decide +kernel)]; kernel_rfl) | (rw [if_neg (by decide +kernel)]; exact ⟨rfl, rfl⟩))
    (fun os started H enc _ => lifted os started H enc)

theorem proved : Rows.ControlsNewSaid := over
#print axioms proved
end Go.Proofs.Ytjibodklckppfaa.Hn

