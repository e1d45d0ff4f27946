/-
  The statement ControlsHost of the law's package plugboardlaw08: for every transfer and all outcomes the law returns true, and its arguments read afterwards as before.
  Conditions: none.
-/
import Derived.Test.YtjibodklckppfaaRows
import Derived.Test.YtjibodklckppfaaKF
import Derived.Test.YtjibodklckppfaaHoQ
namespace Go.Proofs.Ytjibodklckppfaa.Ho
open Go.ChangeShapes Go.WideShapes Go.ChangeAt Go.RowKit
set_option linter.unusedVariables false

def tSh : Sh := .cons (.i .u8) (.cons (.i .u8) (.cons (.i .u16) (.cons (.i .u16) (.cons (.i .u16) (.cons (.ints .u8) (.cons (.i .u8) .nil))))))
def oSh : Sh := .cons (.i .u8) (.cons (.ints .u8) .nil)
theorem own : ownKnob Try.prog.godebug = none := by kernel_rfl
theorem laidOut : laidOutB Try.prog = true := by kernel_rfl
theorem walk (t : tSh.T) (l : List oSh.T) (wt : tSh.wf t) (wl : Sh.wf (.row oSh) l) : AFun Try.prog 3 [tSh.toD t, Sh.toD (.row oSh) l] (.v (.bool true)) := by
  have e1 : IntKind.u8.min = 0 := by decide
  have e2 : IntKind.u8.max = 255 := by decide
  have e3 : IntKind.u16.min = 0 := by decide
  have e4 : IntKind.u16.max = 65535 := by decide
  obtain ⟨r1, r2, r3, r4, r5, d, n, ⟨⟩⟩ := t
  obtain ⟨w1, w2, w3, w4, w5, w6, w7, _⟩ := wt
  simp only [Sh.wf, e1, e2, e3, e4] at w1 w3 w4 w5 w7
  have v1 : 0 ≤ r1 ∧ r1 ≤ 255 := w1
  have v3 : 0 ≤ r3 ∧ r3 ≤ 65535 := w3
  have v4 : 0 ≤ r4 ∧ r4 ≤ 65535 := w4
  have v5 : 0 ≤ r5 ∧ r5 ≤ 65535 := w5
  have v7 : 0 ≤ n ∧ n ≤ 255 := w7
  have hl : ∀ o : Int × List Int × Unit, o ∈ (l : List (Int × List Int × Unit)) → 0 ≤ o.1 := by
    intro o ho
    have := (wl.2 o ho).1
    simp only [Sh.wf, e1] at this
    exact this.1
  exact afun_con (hostL_ok 400) [⟨tSh, (r1, r2, r3, r4, r5, d, n, ())⟩, ⟨.row oSh, l⟩] rfl ((r1, r2, r3, r4, r5, d, n, ()), l, ()) () (true, ()) rfl rfl
    (hostL_true r1 r2 r3 r4 r5 d n l ⟨v1.1, Int.lt_of_le_of_lt v1.2 (by decide)⟩ ⟨v3.1, Int.lt_of_le_of_lt v3.2 (by decide)⟩ ⟨v4.1, Int.lt_of_le_of_lt v4.2 (by decide)⟩ ⟨v5.1, Int.lt_of_le_of_lt v5.2 (by decide)⟩ v7.1 hl) rfl

set_option maxRecDepth 100000 in
theorem lifted (os : Os) (started : os.Started) (H : Type) (enc : TypeId × Value → H) :
    ReturnsInHanded {} Try.checked os 3 .any (Rows.controlsHostSpec.pre6 enc Try.prog Try.f3 Rows.controlsHostRow.domain false) (Rows.controlsHostSpec.post enc Try.prog Try.f3 false true false false) := by
  refine returnsInHanded_of_change (C := Try.checked) own started (by kernel_rfl) Try.func3
    (ChangeSpec.witness6 (enc := enc) (C := Try.checked) false ⟨#[], #[.agg #[.int .u8 0, .int .u8 0, .int .u16 0, .int .u16 0, .int .u16 0, .slice none 0 0, .int .u8 0], .slice none 0 0], []⟩ 8 (by kernel_rfl) (by kernel_rfl) (by kernel_rfl) (by kernel_rfl)) ?_
  intro W base args ds gs before hval0 hW hcnd _
  have hval : ∀ (j : Nat) t v, Try.f3.params[j]? = some t → args[j]? = some v → Value.okWide Try.prog W .any base t v := hval0
  have hW' := hW
  obtain ⟨p, q, hA0, hV, rfl, hfz, hnd⟩ := hW
  have hA : DataW.TrodAll enc Try.prog W 0 (fun _ => true) true Try.f3.params.toList args.toList ds p := hA0
  rw [Try.params3] at hA hval
  obtain ⟨v0, vs0, d0, ds0, p0, q0, hargs, rfl, rfl, h0, r0⟩ := trodAll_cons hA
  obtain ⟨v1, vs1, d1, ds1, p1, q1, rfl, rfl, rfl, h1, r1⟩ := trodAll_cons r0
  obtain ⟨rfl, rfl, rfl⟩ := trodAll_nil r1
  obtain rfl : args = #[v0, v1] := by cases args; simp_all
  obtain ⟨rfl, rfl⟩ := trodVars_none hV
  have lt0 : ∀ x ∈ p0, x.block < W.heap.size := by obtain ⟨m, hm⟩ := h0; exact DataW.trod_lt m _ _ _ hm
  have t0 := Tr.of h0
  have o0 := hval 0 27 v0 rfl rfl
  have lt1 : ∀ x ∈ p1, x.block < W.heap.size := by obtain ⟨m, hm⟩ := h1; exact DataW.trod_lt m _ _ _ hm
  have t1 := Tr.of h1
  have o1 := hval 1 28 v1 rfl rfl
  obtain ⟨t, wt, ht⟩ := arg_shape (s := tSh) (by kernel_rfl) (by kernel_rfl) (by kernel_rfl) o0 t0
  obtain ⟨l, wl, hl⟩ := arg_shape (s := .row oSh) (by kernel_rfl) (by kernel_rfl) (by kernel_rfl) o1 t1
  refine (afun_calls (walk t l wt wl) (repVs_cons ht (repVs_cons hl repVs_nil))).mono fun e W' ⟨he, bel⟩ => ?_
  subst he
  exact ⟨_, rfl, _, _, _, [], _, [], hW', trodAll_mk1 (shut_bool Try.underlying4 _), (trodAll_cons_mk (Below.trod laidOut (by kernel_rfl) (of_decide_eq_true (by kernel_rfl)) h0 bel lt0) (trodAll_cons_mk (Below.trod laidOut (by kernel_rfl) (of_decide_eq_true (by kernel_rfl)) h1 bel lt1) trodAll_mk0)), rfl, bel.frame _, fun h => by cases h⟩

theorem over : Rows.controlsHostRow.holds Try.pinned (OpenSpec.ofChange Rows.controlsHostSpec) :=
  OpenClaim.holds_of_wide 3 Try.f3 rfl rfl rfl rfl rfl rfl rfl ⟨rfl, rfl, rfl, rfl, rfl⟩ rfl rfl rfl rfl rfl (by kernel_rfl) Try.func3 (by kernel_rfl)
    (of_decide_eq_true (by kernel_rfl)) (by unfold Func.isWrapper; first | (rw [if_pos (by decide +kernel)]; kernel_rfl) | (rw [if_neg (by decide +kernel)]; exact ⟨rfl, rfl⟩))
    (fun os started H enc _ => lifted os started H enc)

theorem proved : Rows.ControlsHostSaid := over
#print axioms proved
end Go.Proofs.Ytjibodklckppfaa.Ho

