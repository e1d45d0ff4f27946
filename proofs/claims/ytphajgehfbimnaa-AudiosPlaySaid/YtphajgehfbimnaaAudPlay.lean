/-
  plugboardlaw42.AudiosPlay: the contracts of audios.Play and of the law's own play and right, and the walk.
-/
import Derived.Test.YtphajgehfbimnaaAud1
namespace Go.Proofs.Ytphajgehfbimnaa
open Go.RowKit
set_option linter.unusedVariables false

/-- A sink is right. -/
def sinkOk (ta ro le re : Int) : Prop := 1 ≤ ro ∧ ro ≤ 1048576 ∧ 0 ≤ ta ∧ ta ≤ ro ∧ 0 ≤ le ∧ le ≤ ro ∧ re ≤ 65535
def pLev (ro le got : Int) : Int := if ro < le + got then ro else le + got
def pPl (ro le re got rate : Int) : Int := if pLev ro le got < (re + rate) / 65536 then pLev ro le got else (re + rate) / 65536
def pNext (ro le re got rate : Int) : Int := pLev ro le got - pPl ro le re got rate
def pFb (ta ro le re got rate : Int) : Int :=
  if pNext ro le re got rate < ta - 8 then rate + 65536 else if ta + 8 < pNext ro le re got rate then (if rate < 65536 then 0 else rate - 65536) else rate
def sinkV (ta ro le re : Int) : Value := .agg #[.int .i64 ta, .int .i64 ro, .int .i64 le, .int .u32 re]

set_option maxRecDepth 100000 in
set_option maxHeartbeats 400000 in
theorem sright_yes (ta ro le re : Int) (w : World) (h : sinkOk ta ro le re) :
    Calls Try.prog 41 #[.agg #[.int .i64 ta, .int .i64 ro, .int .i64 le, .int .u32 re]] w fun e w' => e = .returned (.bool true) ∧ Below w.heap.size w w' := by
  obtain ⟨a1, a2, a3, a4, a5, a6, a7⟩ := h
  go_enter Try.func41, Try.ntmps41
  go_wp2
  go_returns
  exact ⟨rfl, by go_grown⟩

set_option maxRecDepth 100000 in
set_option maxHeartbeats 1000000 in
theorem sright_no (ta ro le re : Int) (w : World) (h : ¬ sinkOk ta ro le re) :
    Calls Try.prog 41 #[.agg #[.int .i64 ta, .int .i64 ro, .int .i64 le, .int .u32 re]] w fun e w' => e = .returned (.bool false) ∧ Below w.heap.size w w' := by
  unfold sinkOk at h
  by_cases a1 : 1 ≤ ro
  · by_cases a2 : ro ≤ 1048576
    · by_cases a3 : 0 ≤ ta
      · by_cases a4 : ta ≤ ro
        · by_cases a5 : 0 ≤ le
          · by_cases a6 : le ≤ ro
            · have a7 : 65535 < re := by omega
              clear h
              go_enter Try.func41, Try.ntmps41
              go_wp2
              go_returns
              exact ⟨by simp; omega, by go_grown⟩
            all_goals (clear h; go_enter Try.func41, Try.ntmps41; go_wp2; go_returns; exact ⟨rfl, by go_grown⟩)
          all_goals (clear h; go_enter Try.func41, Try.ntmps41; go_wp2; go_returns; exact ⟨rfl, by go_grown⟩)
        all_goals (clear h; go_enter Try.func41, Try.ntmps41; go_wp2; go_returns; exact ⟨rfl, by go_grown⟩)
      all_goals (clear h; go_enter Try.func41, Try.ntmps41; go_wp2; go_returns; exact ⟨rfl, by go_grown⟩)
    all_goals (clear h; go_enter Try.func41, Try.ntmps41; go_wp2; go_returns; exact ⟨rfl, by go_grown⟩)
  all_goals (clear h; go_enter Try.func41, Try.ntmps41; go_wp2; go_returns; exact ⟨rfl, by go_grown⟩)

set_option maxRecDepth 100000 in
set_option maxHeartbeats 8000000 in
theorem play_ok (ta ro le re got rate : Int) (w : World) (h : sinkOk ta ro le re) (r0 : 0 ≤ re) (g0 : 0 ≤ got) (g1 : got ≤ 1048576) (q0 : 0 ≤ rate) (q1 : rate ≤ 16777216) :
    Calls Try.prog 21 #[.agg #[.int .i64 ta, .int .i64 ro, .int .i64 le, .int .u32 re], .int .i64 got, .int .u32 rate] w fun e w' =>
      e = .returned (.tuple #[.agg #[.int .i64 ta, .int .i64 ro, .int .i64 (pNext ro le re got rate), .int .u32 ((re + rate) % 65536)], .int .u32 (pFb ta ro le re got rate), .int .i64 (pPl ro le re got rate), .int .i64 0]) ∧ Below w.heap.size w w' := by
  have hh := h
  obtain ⟨a1, a2, a3, a4, a5, a6, a7⟩ := h
  have key : ∀ lv pl nx fb : Int, (ro < le + got ∧ ro = lv ∨ le + got ≤ ro ∧ le + got = lv) → (lv < (re + rate) / 65536 ∧ lv = pl ∨ (re + rate) / 65536 ≤ lv ∧ (re + rate) / 65536 = pl) →
      lv - pl = nx → (nx < ta - 8 ∧ rate + 65536 = fb ∨ ta + 8 < nx ∧ rate < 65536 ∧ 0 = fb ∨ ta + 8 < nx ∧ 65536 ≤ rate ∧ rate - 65536 = fb ∨ ta - 8 ≤ nx ∧ nx ≤ ta + 8 ∧ rate = fb) →
      Calls Try.prog 21 #[.agg #[.int .i64 ta, .int .i64 ro, .int .i64 le, .int .u32 re], .int .i64 got, .int .u32 rate] w fun e w' =>
      e = .returned (.tuple #[.agg #[.int .i64 ta, .int .i64 ro, .int .i64 nx, .int .u32 ((re + rate) % 65536)], .int .u32 fb, .int .i64 pl, .int .i64 0]) ∧ Below w.heap.size w w' := by
    intro lv pl nx fb h1 h2 h3 h4
    subst h3
    rcases h1 with ⟨c1, rfl⟩ | ⟨c1, rfl⟩ <;> rcases h2 with ⟨c2, rfl⟩ | ⟨c2, rfl⟩ <;> rcases h4 with ⟨c4, rfl⟩ | ⟨c4, c5, rfl⟩ | ⟨c4, c5, rfl⟩ | ⟨c4, c5, rfl⟩
    all_goals first
      | (exfalso; omega)
      | (go_enter Try.func21, Try.ntmps21
         go_wp2_with fail
         refine (sright_yes ta _ le re _ hh).mono ?_
         rintro e w1 ⟨rfl, hb1⟩
         obtain ⟨e0, e1, e2, e3, ff, hlt⟩ := blk4 (kb hb1 (blk_old (blk_new w _)))
         obtain ⟨n0, n1, n2, n3, nf, nlt⟩ := blk4 (kb hb1 (blk_new _ _))
         simp only [World.size_alloc] at n0 n1 n2 n3 nf nlt
         have hB1 : Below w.heap.size w w1 := Below.trans (by go_grown) (hb1.mono (by go_size))
         clear hb1
         go_wp2_with fail
         all_goals (refine bodyPost_ret ?_ rfl ⟨rfl, by go_grown⟩)
         all_goals (simp [results, Try.results21, go_sem, n0, n1, n2, n3] <;> omega))
  unfold pNext pFb pPl pLev pNext pPl pLev
  refine key _ _ _ _ ?_ ?_ rfl ?_
  · split <;> omega
  · split <;> omega
  · (repeat' split) <;> omega
end Go.Proofs.Ytphajgehfbimnaa
