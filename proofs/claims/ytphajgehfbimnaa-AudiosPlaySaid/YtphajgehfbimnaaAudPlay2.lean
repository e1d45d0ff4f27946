/-
  The contracts of the law's own right and play (plugboardlaw42), for right sinks.
-/
import Derived.Test.YtphajgehfbimnaaAudPlay
namespace Go.Proofs.Ytphajgehfbimnaa
open Go.RowKit
set_option linter.unusedVariables false

set_option maxRecDepth 100000 in
set_option maxHeartbeats 400000 in
theorem lright_yes (ta ro le re : Int) (w : World) (h : sinkOk ta ro le re) :
    Calls Try.prog 22 #[.agg #[.int .i64 ta, .int .i64 ro, .int .i64 le, .int .u32 re]] w fun e w' => e = .returned (.bool true) ∧ Below w.heap.size w w' := by
  obtain ⟨a1, a2, a3, a4, a5, a6, a7⟩ := h
  have a8 : re < 65536 := by omega
  go_enter Try.func22, Try.ntmps22
  go_wp2
  go_returns
  exact ⟨rfl, by go_grown⟩

set_option maxRecDepth 100000 in
set_option maxHeartbeats 1000000 in
theorem lright_no (ta ro le re : Int) (w : World) (h : ¬ sinkOk ta ro le re) :
    Calls Try.prog 22 #[.agg #[.int .i64 ta, .int .i64 ro, .int .i64 le, .int .u32 re]] w fun e w' => e = .returned (.bool false) ∧ Below w.heap.size w w' := by
  unfold sinkOk at h
  by_cases a1 : 1 ≤ ro
  · by_cases a2 : ro ≤ 1048576
    · by_cases a3 : 0 ≤ ta
      · by_cases a4 : ta ≤ ro
        · by_cases a5 : 0 ≤ le
          · by_cases a6 : le ≤ ro
            · have a7 : 65535 < re := by omega
              have a8 : 65536 ≤ re := by omega
              clear h
              go_enter Try.func22, Try.ntmps22
              go_wp2
              go_returns
              exact ⟨by simp; omega, by go_grown⟩
            all_goals (clear h; go_enter Try.func22, Try.ntmps22; go_wp2; go_returns; exact ⟨rfl, by go_grown⟩)
          all_goals (clear h; go_enter Try.func22, Try.ntmps22; go_wp2; go_returns; exact ⟨rfl, by go_grown⟩)
        all_goals (clear h; go_enter Try.func22, Try.ntmps22; go_wp2; go_returns; exact ⟨rfl, by go_grown⟩)
      all_goals (clear h; go_enter Try.func22, Try.ntmps22; go_wp2; go_returns; exact ⟨rfl, by go_grown⟩)
    all_goals (clear h; go_enter Try.func22, Try.ntmps22; go_wp2; go_returns; exact ⟨rfl, by go_grown⟩)
  all_goals (clear h; go_enter Try.func22, Try.ntmps22; go_wp2; go_returns; exact ⟨rfl, by go_grown⟩)

set_option maxRecDepth 100000 in
set_option maxHeartbeats 8000000 in
theorem lplay_ok (ta ro le re got rate : Int) (w : World) (h : sinkOk ta ro le re) (r0 : 0 ≤ re) (g0 : 0 ≤ got) (g1 : got ≤ 1048576) (q0 : 0 ≤ rate) (q1 : rate ≤ 16777216) :
    Calls Try.prog 23 #[.agg #[.int .i64 ta, .int .i64 ro, .int .i64 le, .int .u32 re], .int .i64 got, .int .u32 rate] w fun e w' =>
      e = .returned (.tuple #[.agg #[.int .i64 ta, .int .i64 ro, .int .i64 (pNext ro le re got rate), .int .u32 ((re + rate) % 65536)], .int .u32 (pFb ta ro le re got rate), .int .i64 (pPl ro le re got rate),
        .bool (decide (ro < le + got)), .bool (decide (pLev ro le got < (re + rate) / 65536))]) ∧ Below w.heap.size w w' := by
  obtain ⟨a1, a2, a3, a4, a5, a6, a7⟩ := h
  have key : ∀ (lv pl nx fb : Int) (fu dr : Bool), (ro < le + got ∧ ro = lv ∧ true = fu ∨ le + got ≤ ro ∧ le + got = lv ∧ false = fu) → (lv < (re + rate) / 65536 ∧ lv = pl ∧ true = dr ∨ (re + rate) / 65536 ≤ lv ∧ (re + rate) / 65536 = pl ∧ false = dr) →
      lv - pl = nx → (nx < ta - 8 ∧ rate + 65536 = fb ∨ ta + 8 < nx ∧ rate < 65536 ∧ 0 = fb ∨ ta + 8 < nx ∧ 65536 ≤ rate ∧ rate - 65536 = fb ∨ ta - 8 ≤ nx ∧ nx ≤ ta + 8 ∧ rate = fb) →
      Calls Try.prog 23 #[.agg #[.int .i64 ta, .int .i64 ro, .int .i64 le, .int .u32 re], .int .i64 got, .int .u32 rate] w fun e w' =>
      e = .returned (.tuple #[.agg #[.int .i64 ta, .int .i64 ro, .int .i64 nx, .int .u32 ((re + rate) % 65536)], .int .u32 fb, .int .i64 pl, .bool fu, .bool dr]) ∧ Below w.heap.size w w' := by
    intro lv pl nx fb fu dr h1 h2 h3 h4
    subst h3
    rcases h1 with ⟨c1, rfl, rfl⟩ | ⟨c1, rfl, rfl⟩ <;> rcases h2 with ⟨c2, rfl, rfl⟩ | ⟨c2, rfl, rfl⟩ <;> rcases h4 with ⟨c4, rfl⟩ | ⟨c4, c5, rfl⟩ | ⟨c4, c5, rfl⟩ | ⟨c4, c5, rfl⟩
    all_goals first
      | (exfalso; omega)
      | (go_enter Try.func23, Try.ntmps23
         go_wp2_with fail
         all_goals (refine bodyPost_ret ?_ rfl ⟨rfl, by go_grown⟩)
         all_goals (simp [results, Try.results23, go_sem] <;> omega))
  unfold pNext pFb pPl pLev pNext pPl pLev
  refine key _ _ _ _ _ _ ?_ ?_ rfl ?_
  · split <;> simp <;> omega
  · (repeat' split) <;> simp <;> omega
  · (repeat' split) <;> omega
end Go.Proofs.Ytphajgehfbimnaa
