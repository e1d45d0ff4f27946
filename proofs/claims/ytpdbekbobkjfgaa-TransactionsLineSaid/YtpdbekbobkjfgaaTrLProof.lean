/-
  The statement TransactionsLine of the law's package plugboardlaw06: for every list of faults and every number of calls the law returns true, and its arguments read afterwards as before.
  Conditions: none.
-/
import Derived.Test.YtpdbekbobkjfgaaRows
import Derived.Test.YtpdbekbobkjfgaaAM19
import Derived.Test.YtpdbekbobkjfgaaAN9
import Derived.Test.YtpdbekbobkjfgaaTrLp
namespace Go.Proofs.Ytpdbekbobkjfgaa.TrL
open Go.ChangeShapes Go.WideShapes Go.ChangeAt Go.RowKit
set_option linter.unusedVariables false

theorem own : ownKnob Try.prog.godebug = none := by kernel_rfl
theorem laidOut : laidOutB Try.prog = true := by kernel_rfl
theorem walk (xs : List Int) (c : Nat) (hc : c ≤ 255) : AFun Try.prog 6 [.ints .u8 xs none, .v (.int .u8 c)] (.v (.bool true)) :=
  afun_con (tLine_ok 1000) [⟨.ints .u8, xs⟩, ⟨.i .u8, (c : Int)⟩] rfl (xs, (c : Int), ()) () (true, ()) rfl rfl (tLine_true xs c hc) rfl

set_option maxRecDepth 100000 in
theorem lifted (os : Os) (started : os.Started) (H : Type) (enc : TypeId × Value → H) :
    ReturnsInHanded {} Try.checked os 6 .any (Rows.transactionsLineSpec.pre6 enc Try.prog Try.f6 Rows.transactionsLineRow.domain false) (Rows.transactionsLineSpec.post enc Try.prog Try.f6 false true false false) := by
  refine returnsInHanded_of_change (C := Try.checked) own started (by kernel_rfl) Try.func6
    (ChangeSpec.witness6 (enc := enc) (C := Try.checked) false ⟨#[], #[.slice none 0 0, .int .u8 0], []⟩ 8 (by kernel_rfl) (by kernel_rfl) (by kernel_rfl) (by kernel_rfl)) ?_
  intro W base args ds gs before hval0 hW hcnd _
  have hval : ∀ (j : Nat) t v, Try.f6.params[j]? = some t → args[j]? = some v → Value.okWide Try.prog W .any base t v := hval0
  have hW' := hW
  obtain ⟨p, q, hA0, hV, rfl, hfz, hnd⟩ := hW
  have hA : DataW.TrodAll enc Try.prog W 0 (fun _ => true) true Try.f6.params.toList args.toList ds p := hA0
  rw [Try.params6] at hA hval
  obtain ⟨v0, vs0, d0, ds0, p0, q0, hargs, rfl, rfl, h0, r0⟩ := trodAll_cons hA
  obtain ⟨v1, vs1, d1, ds1, p1, q1, rfl, rfl, rfl, h1, r1⟩ := trodAll_cons r0
  obtain ⟨rfl, rfl, rfl⟩ := trodAll_nil r1
  obtain rfl : args = #[v0, v1] := by cases args; simp_all
  obtain ⟨rfl, rfl⟩ := trodVars_none hV
  have lt0 : ∀ x ∈ p0, x.block < W.heap.size := by obtain ⟨m, hm⟩ := h0; exact DataW.trod_lt m _ _ _ hm
  have t0 := Tr.of h0
  have o0 := hval 0 43 v0 rfl rfl
  have lt1 : ∀ x ∈ p1, x.block < W.heap.size := by obtain ⟨m, hm⟩ := h1; exact DataW.trod_lt m _ _ _ hm
  have t1 := Tr.of h1
  have o1 := hval 1 5 v1 rfl rfl
  obtain ⟨a0, z0, cap0, hcs0, hle0, hm0, hz0, hc0, hw0⟩ := t0.ints Try.underlying43 Try.underlying5 (by kernel_rfl)
  obtain ⟨b0, len0, cp0, rfl⟩ := okWide_slice Try.underlying43 o0
  simp [Value.cells] at hcs0
  obtain ⟨rfl, rfl, rfl⟩ := hcs0
  obtain ⟨t, rfl, -, -, wt⟩ := open_int Try.underlying5 o1 h1
  have bt := bounds_u8 wt
  obtain ⟨c, rfl⟩ : ∃ k : Nat, t = k := ⟨t.toNat, by omega⟩
  refine (afun_calls (walk z0 c (by omega)) (repVs_cons (repD_cells hle0 hm0 hz0 hc0) (repVs_cons repD_int repVs_nil))).mono fun e W' ⟨he, bel⟩ => ?_
  subst he
  exact ⟨_, rfl, _, _, _, [], _, [], hW', trodAll_mk1 (shut_bool Try.underlying4 _), (trodAll_cons_mk (Below.trod laidOut (by kernel_rfl) (of_decide_eq_true (by kernel_rfl)) h0 bel lt0) (trodAll_cons_mk (Below.trod laidOut (by kernel_rfl) (of_decide_eq_true (by kernel_rfl)) h1 bel lt1) trodAll_mk0)), rfl, bel.frame _, fun h => by cases h⟩

theorem over : Rows.transactionsLineRow.holds Try.pinned (OpenSpec.ofChange Rows.transactionsLineSpec) :=
  OpenClaim.holds_of_wide 6 Try.f6 rfl rfl rfl rfl rfl rfl rfl ⟨rfl, rfl, rfl, rfl, rfl⟩ rfl rfl rfl rfl rfl (by kernel_rfl) Try.func6 (by kernel_rfl)
    (of_decide_eq_true (by kernel_rfl)) (by unfold Func.isWrapper; first | (rw [if_pos (by decide +kernel)]; kernel_rfl) | (rw [if_neg (by decide +kernel)]; exact ⟨rfl, rfl⟩))
    (fun os started H enc _ => lifted os started H enc)

theorem proved : Rows.TransactionsLineSaid := over
#print axioms proved
end Go.Proofs.Ytpdbekbobkjfgaa.TrL
