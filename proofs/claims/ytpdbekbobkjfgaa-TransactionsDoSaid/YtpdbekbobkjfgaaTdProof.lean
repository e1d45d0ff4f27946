/-
  The statement TransactionsDo of the law's package plugboardlaw06: for every transaction, every list of answers and every list of faults the law returns true, and its arguments read afterwards as before.
  Conditions: none.
-/
import Derived.Test.YtpdbekbobkjfgaaRows
import Derived.Test.YtpdbekbobkjfgaaKF
import Derived.Test.YtpdbekbobkjfgaaTdD
namespace Go.Proofs.Ytpdbekbobkjfgaa.TrD
open Go.ChangeShapes Go.WideShapes Go.ChangeAt Go.RowKit
set_option linter.unusedVariables false

def trySh : Sh := (.cons (.i .u8) (.cons (.i .u8) (.cons (.i .u8) (.cons .b (.cons .b (.cons (.i .i64) (.cons (.ints .u8) .nil)))))))
def pktSh : Sh := (.cons (.i .u8) (.cons (.i .u8) (.cons (.i .u8) (.cons (.i .u16) (.cons (.i .u8) (.cons (.i .u8) (.cons .b (.cons .b (.cons (.i .u8) (.cons (.ints .u8) .nil))))))))))
def dSh : Sh := .cons (.row pktSh) (.cons (.ints .u8) .nil)
theorem pwf_of (p : PkT) (h : Sh.wf pktSh p) : pwf p := by
  have e1 : IntKind.u8.min = 0 := by decide
  have e2 : IntKind.u8.max = 255 := by decide
  have e3 : IntKind.u16.min = 0 := by decide
  have e4 : IntKind.u16.max = 65535 := by decide
  obtain ⟨h0, h1, h2, h3, h4, h5, h6, h7, h8, h9, h10⟩ := h
  simp only [Sh.wf, e1, e2, e3, e4] at h0 h1 h2 h3 h4 h5 h8
  exact ⟨h0, h1, h2, h3, h4, h5, h8⟩
theorem own : ownKnob Try.prog.godebug = none := by kernel_rfl
theorem laidOut : laidOutB Try.prog = true := by kernel_rfl
theorem walk (t : TryT) (x : dSh.T) (wt : Sh.wf trySh t) (wx : dSh.wf x) : AFun Try.prog 5 [trySh.toD t, dSh.toD x] (.v (.bool true)) := by
  obtain ⟨ans, ws, ⟨⟩⟩ := x
  obtain ⟨A, E, w, tg, iso, mx, d, ⟨⟩⟩ := t
  have e1 : IntKind.u8.min = 0 := by decide
  obtain ⟨h0, h1, _⟩ := wt
  have k0 : (0 : Int) ≤ A := e1 ▸ h0.1
  have k1 : (0 : Int) ≤ E := e1 ▸ h1.1
  exact afun_con (doLaw_ok 3000) [⟨trySh, (A, E, w, tg, iso, mx, d, ())⟩, ⟨dSh, (ans, ws, ())⟩] rfl ((A, E, w, tg, iso, mx, d, ()), (ans, ws, ()), ()) () (true, ()) rfl rfl (doLaw_true A E w tg iso mx d ans ws k0 k1 (fun a h => pwf_of a (wx.1.2 a h))) rfl

set_option maxRecDepth 100000 in
theorem lifted (os : Os) (started : os.Started) (H : Type) (enc : TypeId × Value → H) :
    ReturnsInHanded {} Try.checked os 5 .any (Rows.transactionsDoSpec.pre6 enc Try.prog Try.f5 Rows.transactionsDoRow.domain false) (Rows.transactionsDoSpec.post enc Try.prog Try.f5 false true false false) := by
  refine returnsInHanded_of_change (C := Try.checked) own started (by kernel_rfl) Try.func5
    (ChangeSpec.witness6 (enc := enc) (C := Try.checked) false ⟨#[], #[.agg #[.int .u8 0, .int .u8 0, .int .u8 0, .bool false, .bool false, .int .i64 0, .slice none 0 0], .agg #[.slice none 0 0, .slice none 0 0]], []⟩ 8 (by kernel_rfl) (by kernel_rfl) (by kernel_rfl) (by kernel_rfl)) ?_
  intro W base args ds gs before hval0 hW hcnd _
  have hval : ∀ (j : Nat) t v, Try.f5.params[j]? = some t → args[j]? = some v → Value.okWide Try.prog W .any base t v := hval0
  have hW' := hW
  obtain ⟨p, q, hA0, hV, rfl, hfz, hnd⟩ := hW
  have hA : DataW.TrodAll enc Try.prog W 0 (fun _ => true) true Try.f5.params.toList args.toList ds p := hA0
  rw [Try.params5] at hA hval
  obtain ⟨v0, vs0, d0, ds0, p0, q0, hargs, rfl, rfl, h0, r0⟩ := trodAll_cons hA
  obtain ⟨v1, vs1, d1, ds1, p1, q1, rfl, rfl, rfl, h1, r1⟩ := trodAll_cons r0
  obtain ⟨rfl, rfl, rfl⟩ := trodAll_nil r1
  obtain rfl : args = #[v0, v1] := by cases args; simp_all
  obtain ⟨rfl, rfl⟩ := trodVars_none hV
  have lt0 : ∀ x ∈ p0, x.block < W.heap.size := by obtain ⟨m, hm⟩ := h0; exact DataW.trod_lt m _ _ _ hm
  have t0 := Tr.of h0
  have o0 := hval 0 67 v0 rfl rfl
  have lt1 : ∀ x ∈ p1, x.block < W.heap.size := by obtain ⟨m, hm⟩ := h1; exact DataW.trod_lt m _ _ _ hm
  have t1 := Tr.of h1
  have o1 := hval 1 45 v1 rfl rfl
  obtain ⟨t, wt, ht⟩ := arg_shape (s := trySh) (by kernel_rfl) (by kernel_rfl) (by kernel_rfl) o0 t0
  obtain ⟨x, wx, hx⟩ := arg_shape (s := dSh) (by kernel_rfl) (by kernel_rfl) (by kernel_rfl) o1 t1
  refine (afun_calls (walk t x wt wx) (repVs_cons ht (repVs_cons hx repVs_nil))).mono fun e W' ⟨he, bel⟩ => ?_
  subst he
  exact ⟨_, rfl, _, _, _, [], _, [], hW', trodAll_mk1 (shut_bool Try.underlying4 _), (trodAll_cons_mk (Below.trod laidOut (by kernel_rfl) (of_decide_eq_true (by kernel_rfl)) h0 bel lt0) (trodAll_cons_mk (Below.trod laidOut (by kernel_rfl) (of_decide_eq_true (by kernel_rfl)) h1 bel lt1) trodAll_mk0)), rfl, bel.frame _, fun h => by cases h⟩

theorem over : Rows.transactionsDoRow.holds Try.pinned (OpenSpec.ofChange Rows.transactionsDoSpec) :=
  OpenClaim.holds_of_wide 5 Try.f5 rfl rfl rfl rfl rfl rfl rfl ⟨rfl, rfl, rfl, rfl, rfl⟩ rfl rfl rfl rfl rfl (by kernel_rfl) Try.func5 (by kernel_rfl)
    (of_decide_eq_true (by kernel_rfl)) (by unfold Func.isWrapper; first | (rw [if_pos (by decide +kernel)]; kernel_rfl) | (rw [if_neg (by decide +kernel)]; exact ⟨rfl, rfl⟩))
    (fun os started H enc _ => lifted os started H enc)

theorem proved : Rows.TransactionsDoSaid := over
#print axioms proved
end Go.Proofs.Ytpdbekbobkjfgaa.TrD

