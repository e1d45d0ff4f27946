/-
  The statement LevelsLine of the law's package plugboardlaw01: for all lines the law returns true, and its arguments read afterwards as before.
  Conditions: none.
-/
import Derived.Test.YtolmhlikmjkkfaaRows
import Derived.Test.YtolmhlikmjkkfaaAM19
import Derived.Test.YtolmhlikmjkkfaaLvLine
namespace Go.Proofs.Ytolmhlikmjkkfaa.LvLine
open Go.ChangeShapes Go.WideShapes Go.ChangeAt Go.RowKit
set_option linter.unusedVariables false

theorem own : ownKnob Try.prog.godebug = none := by kernel_rfl
theorem laidOut : laidOutB Try.prog = true := by kernel_rfl

theorem repRow_one {w : World} {F : Nat → Prop} {d : D} {v : Value} {ds : List D} {vs : List Value} (hv : v.cells.toList = [v]) (hc : v.oneCell' = true) (hd : RepD w F d v) (hr : RepRow w F (fun v => v.oneCell' = true) ds vs) : RepRow w F (fun v => v.oneCell' = true) (d :: ds) (v :: vs) := by
  simp only [RepRow]
  exact ⟨v, vs, by rw [hv]; rfl, hc, hd, hr⟩
theorem repRow_end {w : World} {F : Nat → Prop} : RepRow w F (fun v => v.oneCell' = true) [] [] := by simp only [RepRow]
/-- A list of lists of integers, as data. -/
theorem repRow_of {W : World} : ∀ {xs : List Value}, (∀ v ∈ xs, Tr Try.prog W 33 [v]) → ∃ ps : List (List Int), ps.length = xs.length ∧ (∀ p ∈ ps, u8s p) ∧ (∀ p ∈ ps, p.length ≤ 9223372036854775807) ∧ RepRow W nobody (fun v => v.cells.size = 1) (ps.map nb) xs
  | [], _ => ⟨[], rfl, by simp, by simp, by simp only [List.map_nil, RepRow]⟩
  | v :: xs, h => by
    obtain ⟨a0, z0, cap0, hv, hle0, hm0, hz0, hc0, hw0⟩ := (h v (by simp)).ints Try.underlying33 Try.underlying5 (by kernel_rfl)
    simp only [List.cons.injEq, and_true] at hv
    subst hv
    obtain ⟨ps, h1, h2, h3, h4⟩ := repRow_of (xs := xs) (fun u hm => h u (List.mem_cons_of_mem _ hm))
    have u0 : u8s z0 := fun x hx => by have := bounds_u8 (hw0 x hx); omega
    refine ⟨z0 :: ps, by simp [h1], ?_, ?_, ?_⟩
    · intro p hp
      rcases List.mem_cons.1 hp with rfl | hp
      · exact u0
      · exact h2 p hp
    · intro p hp
      rcases List.mem_cons.1 hp with rfl | hp
      · unfold maxLen at hm0; omega
      · exact h3 p hp
    · simp only [List.map_cons, RepRow]
      exact ⟨_, xs, rfl, rfl, repD_cells hle0 hm0 hz0 hc0, h4⟩
theorem repD_rows {W : World} {ps : List (List Int)} {xs : List Value} {a : Option Addr} {cap : Nat} (h : RepRow W nobody (fun v => v.cells.size = 1) (ps.map nb) xs) (hl : ps.length = xs.length) (h1 : xs.length ≤ cap) (h2 : cap ≤ maxLen) (h3 : a = none → cap = 0) (h4 : Cells W a xs) : RepD W nobody (.sl 1 (ps.map nb) none) (.slice a xs.length cap) := by
  simp only [RepD]
  refine ⟨a, cap, xs, by simp [hl], by simp [hl]; exact h1, h2, h3, by simp, h, fun hne => ?_⟩
  obtain ⟨b, off, h5, h6⟩ := h4 hne
  exact ⟨b, off, h5, fun h => h, h6⟩

set_option maxRecDepth 100000 in
theorem lifted (os : Os) (started : os.Started) (H : Type) (enc : TypeId × Value → H) :
    ReturnsInHanded {} Try.checked os 13 .any (Rows.levelsLineSpec.pre6 enc Try.prog Try.f13 Rows.levelsLineRow.domain false) (Rows.levelsLineSpec.post enc Try.prog Try.f13 false true false false) := by
  refine returnsInHanded_of_change (C := Try.checked) own started (by kernel_rfl) Try.func13
    (ChangeSpec.witness6 (enc := enc) (C := Try.checked) false ⟨#[], #[.agg #[.slice none 0 0, .slice none 0 0, .int .u16 0, .int .u16 0, .int .u8 0]], []⟩ 8 (by kernel_rfl) (by kernel_rfl) (by kernel_rfl) (by kernel_rfl)) ?_
  intro W base args ds gs before hval0 hW hcnd _
  have hval : ∀ (j : Nat) t v, Try.f13.params[j]? = some t → args[j]? = some v → Value.okWide Try.prog W .any base t v := hval0
  have hW' := hW
  obtain ⟨p, q, hA0, hV, rfl, hfz, hnd⟩ := hW
  have hA : DataW.TrodAll enc Try.prog W 0 (fun _ => true) true Try.f13.params.toList args.toList ds p := hA0
  rw [Try.params13] at hA hval
  obtain ⟨v0, vs0, d0, ds0, p0, q0, hargs, rfl, rfl, h0, r0⟩ := trodAll_cons hA
  obtain ⟨rfl, rfl, rfl⟩ := trodAll_nil r0
  obtain rfl : args = #[v0] := by cases args; simp_all
  obtain ⟨rfl, rfl⟩ := trodVars_none hV
  have lt0 : ∀ x ∈ p0, x.block < W.heap.size := by obtain ⟨m, hm⟩ := h0; exact DataW.trod_lt m _ _ _ hm
  have t0 := Tr.of h0
  have o0 := hval 0 66 v0 rfl rfl
  obtain ⟨l0, rfl, hl0, s0⟩ := Tr.agg Try.underlying66 (by kernel_rfl) o0 t0
  obtain ⟨c0, c1, c2, c3, c4, rfl⟩ := len5 hl0
  obtain ⟨a0, xs, cap0, hcs0, hle0, hm0, hz0, hc0, h50⟩ := (Tr.field (i := 0) (off := 0) (m := 1) Try.underlying66 rfl rfl rfl (by kernel_rfl) s0).slice1 Try.underlying64 (by kernel_rfl)
  obtain ⟨a1, z1, cap1, hcs1, hle1, hm1, hz1, hc1, hw1⟩ := (Tr.field (i := 1) (off := 1) (m := 1) Try.underlying66 rfl rfl rfl (by kernel_rfl) s0).ints Try.underlying33 Try.underlying5 (by kernel_rfl)
  obtain ⟨c, e2, wc⟩ := Tr.int Try.underlying38 (Tr.field (i := 2) (off := 2) (m := 1) Try.underlying66 rfl rfl rfl (by kernel_rfl) s0)
  obtain ⟨d, e3, wd⟩ := Tr.int Try.underlying38 (Tr.field (i := 3) (off := 3) (m := 1) Try.underlying66 rfl rfl rfl (by kernel_rfl) s0)
  obtain ⟨x, e4, wx⟩ := Tr.int Try.underlying5 (Tr.field (i := 4) (off := 4) (m := 1) Try.underlying66 rfl rfl rfl (by kernel_rfl) s0)
  simp at hcs0 hcs1 e2 e3 e4
  subst hcs0 hcs1 e2 e3 e4
  obtain ⟨ps, hpl, hp8, hpp, hrow⟩ := repRow_of h50
  have m0 : ps.length ≤ 9223372036854775807 := by unfold maxLen at hm0; omega
  have m1 : z1.length ≤ 9223372036854775807 := by unfold maxLen at hm1; omega
  have u1 : u8s z1 := fun y hy => by have := bounds_u8 (hw1 y hy); omega
  have bc := bounds_u16 wc
  have bd := bounds_u16 wd
  have bx := bounds_u8 wx
  obtain ⟨wh, rfl⟩ : ∃ k : Nat, c = k := ⟨c.toNat, by omega⟩
  obtain ⟨at_, rfl⟩ : ∃ k : Nat, d = k := ⟨d.toNat, by omega⟩
  have hD : RepD W nobody (lineArg ps z1 wh at_ x) (.agg #[.slice a0 xs.length cap0, .slice a1 z1.length cap1, .int .u16 wh, .int .u16 at_, .int .u8 x]) := by
    unfold lineArg
    simp only [RepD]
    exact ⟨_, rfl, repRow_one rfl rfl (repD_rows hrow hpl hle0 hm0 hz0 hc0) (repRow_one rfl rfl (repD_cells hle1 hm1 hz1 hc1) (repRow_one rfl rfl repD_int (repRow_one rfl rfl repD_int (repRow_one rfl rfl repD_int repRow_end))))⟩
  refine (afun_calls (lineWalk_a ps z1 wh at_ x hp8 u1 (by omega) (by omega) (by omega) m0 m1 hpp) (repVs_cons hD repVs_nil)).mono fun e W' ⟨he, bel⟩ => ?_
  subst he
  exact ⟨_, rfl, _, _, _, [], _, [], hW', trodAll_mk1 (shut_bool Try.underlying4 _), (trodAll_cons_mk (Below.trod laidOut (by kernel_rfl) (of_decide_eq_true (by kernel_rfl)) h0 bel lt0) trodAll_mk0), rfl, bel.frame _, fun h => by cases h⟩

theorem over : Rows.levelsLineRow.holds Try.pinned (OpenSpec.ofChange Rows.levelsLineSpec) :=
  OpenClaim.holds_of_wide 13 Try.f13 rfl rfl rfl rfl rfl rfl rfl ⟨rfl, rfl, rfl, rfl, rfl⟩ rfl rfl rfl rfl rfl (by kernel_rfl) Try.func13 (by kernel_rfl)
    (of_decide_eq_true (by kernel_rfl)) (by unfold Func.isWrapper; first | (rw [if_pos (by decide +kernel)]; kernel_rfl) | (rw [if_neg (by decide +kernel)]; exact ⟨rfl, rfl⟩))
    (fun os started H enc _ => lifted os started H enc)

theorem proved : Rows.LevelsLineSaid := over
#print axioms proved
end Go.Proofs.Ytolmhlikmjkkfaa.LvLine
