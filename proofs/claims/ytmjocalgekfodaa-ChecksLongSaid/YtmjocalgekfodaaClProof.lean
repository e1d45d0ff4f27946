/-
  The statement ChecksLong of the law's package plugboardlaw02: for every bytes, every number of repetitions and every changes the law returns true, and its arguments read afterwards as before.
  Conditions: none.
-/
import Derived.Test.YtmjocalgekfodaaRows
import Derived.Test.YtmjocalgekfodaaKF
import Derived.Test.YtmjocalgekfodaaC9Q
namespace Go.Proofs.Ytmjocalgekfodaa.Cl
open Go.ChangeShapes Go.WideShapes Go.ChangeAt Go.RowKit
set_option linter.unusedVariables false

def xSh : Sh := .cons (.ints .u16) (.cons (.i .u16) .nil)
theorem u8_of (xs : List Int) (h : (Sh.ints .u8).wf xs) : ∃ l : List Nat, xs = nI l ∧ ∀ x ∈ l, x < 256 := by
  have e1 : IntKind.u8.min = 0 := by decide
  have e2 : IntKind.u8.max = 255 := by decide
  refine nI_of xs (fun x hx => ?_)
  have := h.2 x hx
  rw [e1, e2] at this
  exact this
theorem u16_of (xs : List Int) (h : (Sh.ints .u16).wf xs) : ∃ l : List Nat, xs = nI l ∧ ∀ x ∈ l, x < 65536 := by
  have e1 : IntKind.u16.min = 0 := by decide
  have e2 : IntKind.u16.max = 65535 := by decide
  have hx : ∀ x ∈ xs, 0 ≤ x ∧ x ≤ 65535 := fun x hx => by
    have := h.2 x hx
    rw [e1, e2] at this
    exact this
  refine ⟨xs.map Int.toNat, ?_, ?_⟩
  · unfold nI
    rw [List.map_map]
    conv => lhs; rw [← List.map_id xs]
    apply List.map_congr_left
    intro x h
    have := hx x h
    simp only [id, Function.comp]
    omega
  · intro y hy
    obtain ⟨x, h, rfl⟩ := List.mem_map.1 hy
    have := hx x h
    omega
theorem u8n (x : Int) (h : Sh.wf (.i .u8) x) : ∃ n : Nat, x = (n : Int) ∧ n < 256 := by
  have e1 : IntKind.u8.min = 0 := by decide
  have e2 : IntKind.u8.max = 255 := by decide
  have h1 : (0 : Int) ≤ x := e1 ▸ h.1
  have h2 : x ≤ (255 : Int) := e2 ▸ h.2
  exact ⟨x.toNat, by omega, by omega⟩
theorem u16n (x : Int) (h : Sh.wf (.i .u16) x) : ∃ n : Nat, x = (n : Int) ∧ n < 65536 := by
  have e1 : IntKind.u16.min = 0 := by decide
  have e2 : IntKind.u16.max = 65535 := by decide
  have h1 : (0 : Int) ≤ x := e1 ▸ h.1
  have h2 : x ≤ (65535 : Int) := e2 ▸ h.2
  exact ⟨x.toNat, by omega, by omega⟩
theorem own : ownKnob Try.prog.godebug = none := by kernel_rfl
theorem laidOut : laidOutB Try.prog = true := by kernel_rfl
theorem walk (xs : List Int) (t : Int) (y : xSh.T) (wx : (Sh.ints .u8).wf xs) (wt : Sh.wf (.i .u8) t) (wy : xSh.wf y) : AFun Try.prog 3 [(Sh.ints .u8).toD xs, Sh.toD (.i .u8) t, xSh.toD y] (.v (.bool true)) := by
  obtain ⟨ys, B, ⟨⟩⟩ := y
  obtain ⟨w0, w1, _⟩ := wy
  obtain ⟨b, rfl, hb⟩ := u8_of xs wx
  obtain ⟨t, rfl, ht⟩ := u8n t wt
  obtain ⟨A, rfl, hA⟩ := u16_of ys w0
  obtain ⟨B, rfl, hB⟩ := u16n B w1
  exact afun_con (long_ok 10000) [⟨.ints .u8, nI b⟩, ⟨.i .u8, (t : Int)⟩, ⟨xSh, (nI A, (B : Int), ())⟩] rfl (nI b, (t : Int), (nI A, (B : Int), ()), ()) () (true, ()) rfl rfl (long_true 10000 (Nat.le_refl _) b A t B hb ht hA hB) rfl

set_option maxRecDepth 100000 in
theorem lifted (os : Os) (started : os.Started) (H : Type) (enc : TypeId × Value → H) :
    ReturnsInHanded {} Try.checked os 3 .any (Rows.checksLongSpec.pre6 enc Try.prog Try.f3 Rows.checksLongRow.domain false) (Rows.checksLongSpec.post enc Try.prog Try.f3 false true false false) := by
  refine returnsInHanded_of_change (C := Try.checked) own started (by kernel_rfl) Try.func3
    (ChangeSpec.witness6 (enc := enc) (C := Try.checked) false ⟨#[], #[.slice none 0 0, .int .u8 0, .agg #[.slice none 0 0, .int .u16 0]], []⟩ 8 (by kernel_rfl) (by kernel_rfl) (by kernel_rfl) (by kernel_rfl)) ?_
  intro W base args ds gs before hval0 hW hcnd _
  have hval : ∀ (j : Nat) t v, Try.f3.params[j]? = some t → args[j]? = some v → Value.okWide Try.prog W .any base t v := hval0
  have hW' := hW
  obtain ⟨p, q, hA0, hV, rfl, hfz, hnd⟩ := hW
  have hA : DataW.TrodAll enc Try.prog W 0 (fun _ => true) true Try.f3.params.toList args.toList ds p := hA0
  rw [Try.params3] at hA hval
  obtain ⟨v0, vs0, d0, ds0, p0, q0, hargs, rfl, rfl, h0, r0⟩ := trodAll_cons hA
  obtain ⟨v1, vs1, d1, ds1, p1, q1, rfl, rfl, rfl, h1, r1⟩ := trodAll_cons r0
  obtain ⟨v2, vs2, d2, ds2, p2, q2, rfl, rfl, rfl, h2, r2⟩ := trodAll_cons r1
  obtain ⟨rfl, rfl, rfl⟩ := trodAll_nil r2
  obtain rfl : args = #[v0, v1, v2] := by cases args; simp_all
  obtain ⟨rfl, rfl⟩ := trodVars_none hV
  have lt0 : ∀ x ∈ p0, x.block < W.heap.size := by obtain ⟨m, hm⟩ := h0; exact DataW.trod_lt m _ _ _ hm
  have t0 := Tr.of h0
  have o0 := hval 0 22 v0 rfl rfl
  have lt1 : ∀ x ∈ p1, x.block < W.heap.size := by obtain ⟨m, hm⟩ := h1; exact DataW.trod_lt m _ _ _ hm
  have t1 := Tr.of h1
  have o1 := hval 1 5 v1 rfl rfl
  have lt2 : ∀ x ∈ p2, x.block < W.heap.size := by obtain ⟨m, hm⟩ := h2; exact DataW.trod_lt m _ _ _ hm
  have t2 := Tr.of h2
  have o2 := hval 2 26 v2 rfl rfl
  obtain ⟨x, wx, hx⟩ := arg_shape (s := .ints .u8) (by kernel_rfl) (by kernel_rfl) (by kernel_rfl) o0 t0
  obtain ⟨t, wt, ht⟩ := arg_shape (s := .i .u8) (by kernel_rfl) (by kernel_rfl) (by kernel_rfl) o1 t1
  obtain ⟨y, wy, hy⟩ := arg_shape (s := xSh) (by kernel_rfl) (by kernel_rfl) (by kernel_rfl) o2 t2
  refine (afun_calls (walk x t y wx wt wy) (repVs_cons hx (repVs_cons ht (repVs_cons hy repVs_nil)))).mono fun e W' ⟨he, bel⟩ => ?_
  subst he
  exact ⟨_, rfl, _, _, _, [], _, [], hW', trodAll_mk1 (shut_bool Try.underlying4 _), (trodAll_cons_mk (Below.trod laidOut (by kernel_rfl) (of_decide_eq_true (by kernel_rfl)) h0 bel lt0) (trodAll_cons_mk (Below.trod laidOut (by kernel_rfl) (of_decide_eq_true (by kernel_rfl)) h1 bel lt1) (trodAll_cons_mk (Below.trod laidOut (by kernel_rfl) (of_decide_eq_true (by kernel_rfl)) h2 bel lt2) trodAll_mk0))), rfl, bel.frame _, fun h => by cases h⟩

theorem over : Rows.checksLongRow.holds Try.pinned (OpenSpec.ofChange Rows.checksLongSpec) :=
  OpenClaim.holds_of_wide 3 Try.f3 rfl rfl rfl rfl rfl rfl rfl ⟨rfl, rfl, rfl, rfl, rfl⟩ rfl rfl rfl rfl rfl (by kernel_rfl) Try.func3 (by kernel_rfl)
    (of_decide_eq_true (by kernel_rfl)) (by unfold Func.isWrapper; first | (rw [if_pos (by decide +kernel)]; kernel_rfl) | (rw [if_neg (by decide +kernel)]; exact ⟨rfl, rfl⟩))
    (fun os started H enc _ => lifted os started H enc)

theorem proved : Rows.ChecksLongSaid := over
#print axioms proved
end Go.Proofs.Ytmjocalgekfodaa.Cl

