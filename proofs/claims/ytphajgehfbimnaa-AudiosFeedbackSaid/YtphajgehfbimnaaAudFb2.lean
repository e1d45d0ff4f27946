/-
  plugboardlaw42.AudiosFeedback: the walk: for any rate and any bytes the law returns true and changes nothing that was there.
-/
import Derived.Test.YtphajgehfbimnaaAudFb
namespace Go.Proofs.Ytphajgehfbimnaa
open Go.RowKit
set_option linter.unusedVariables false

theorem fb_hi (rate : Int) (h0 : 0 ≤ rate) : rate % 256 + rate / 256 % 256 * 256 + rate / 65536 % 256 * 65536 + rate / 16777216 * 16777216 = rate := by omega
theorem fb_lo (rate : Int) (h0 : 0 ≤ rate) : (rate / 4 % 256 + rate / 4 / 256 % 256 * 256 + rate / 4 / 65536 * 65536) * 4 = rate / 4 * 4 := by omega

/-- The bytes that came in: where they lie. -/
theorem cells3 {w : World} {a : Option Addr} {x0 x1 x2 : Int} (h : Cells w a ([x0, x1, x2].map (.int .u8))) : ∃ b off, a = some ⟨b, off, none⟩ ∧ w.cell? ⟨b, off, none⟩ = some (.int .u8 x0) ∧ w.cell? ⟨b, off + 1, none⟩ = some (.int .u8 x1) ∧ w.cell? ⟨b, off + 2, none⟩ = some (.int .u8 x2) := by
  obtain ⟨b, off, h1, h2⟩ := h (by simp)
  exact ⟨b, off, h1, h2 0 _ rfl, h2 1 _ rfl, h2 2 _ rfl⟩
theorem cells4 {w : World} {a : Option Addr} {x0 x1 x2 x3 : Int} (h : Cells w a ([x0, x1, x2, x3].map (.int .u8))) : ∃ b off, a = some ⟨b, off, none⟩ ∧ w.cell? ⟨b, off, none⟩ = some (.int .u8 x0) ∧ w.cell? ⟨b, off + 1, none⟩ = some (.int .u8 x1) ∧ w.cell? ⟨b, off + 2, none⟩ = some (.int .u8 x2) ∧ w.cell? ⟨b, off + 3, none⟩ = some (.int .u8 x3) := by
  obtain ⟨b, off, h1, h2⟩ := h (by simp)
  exact ⟨b, off, h1, h2 0 _ rfl, h2 1 _ rfl, h2 2 _ rfl, h2 3 _ rfl⟩

set_option maxRecDepth 100000 in
set_option maxHeartbeats 2000000 in
theorem audfb_bad_w (rate : Int) (a : Option Addr) (n cap : Nat) (w : World) (hr : 16777216 < rate) (h3 : n ≠ 3) (h4 : n ≠ 4) (hn : n ≤ 10) :
    Calls Try.prog 4 #[.int .u32 rate, .slice a n cap] w fun e w' => e = .returned (.bool true) ∧ Below w.heap.size w w' := by
  have k3 : ((n : Int) == 3) = false := by simp; omega
  have k4 : ((n : Int) == 4) = false := by simp; omega
  have k3' : ((n : Int) != 3) = true := by simp; omega
  have k4' : ((n : Int) != 4) = true := by simp; omega
  have H3 := Lib.hid h3; clear h3
  have H4 := Lib.hid h4; clear h4
  go_enter Try.func4, Try.ntmps4
  go_wp2_with fail
  refine (encfb_bad _ _ _ hr).mono ?_
  rintro e w1 ⟨rfl, rfl⟩
  go_wp2_with fail
  refine (encfb_bad _ _ _ hr).mono ?_
  rintro e w1 ⟨rfl, rfl⟩
  go_wp2_with fail
  refine (decfb_width a n cap _ H3.out H4.out (by omega)).mono ?_
  rintro e w1 ⟨rfl, rfl⟩
  go_wp2_with fail
  refine (lives_ok _).mono ?_
  rintro e w5 ⟨rfl, hb5⟩
  go_wp2_with fail
  go_returns
  exact ⟨rfl, Below.trans (by go_grown) (hb5.mono (by go_size))⟩

set_option maxRecDepth 100000 in
set_option maxHeartbeats 2000000 in
theorem audfb_bad_3_big (rate : Int) (b off cap : Nat) (x0 x1 x2 : Int) (w : World) (hr : 16777216 < rate) (c0 : w.cell? ⟨b, off, none⟩ = some (.int .u8 x0)) (c1 : w.cell? ⟨b, off + 1, none⟩ = some (.int .u8 x1)) (c2 : w.cell? ⟨b, off + 2, none⟩ = some (.int .u8 x2))
    (a0 : 0 ≤ x0) (b0 : x0 ≤ 255) (a1 : 0 ≤ x1) (b1 : x1 ≤ 255) (a2 : 0 ≤ x2) (b2 : x2 ≤ 255) (hv : 16777216 < (x0 + x1 * 256 + x2 * 65536) * 4) :
    Calls Try.prog 4 #[.int .u32 rate, .slice (some ⟨b, off, none⟩) 3 cap] w fun e w' => e = .returned (.bool true) ∧ Below w.heap.size w w' := by
  go_enter Try.func4, Try.ntmps4
  go_wp2_with fail
  refine (encfb_bad _ _ _ hr).mono ?_
  rintro e w1 ⟨rfl, rfl⟩
  go_wp2_with fail
  refine (encfb_bad _ _ _ hr).mono ?_
  rintro e w1 ⟨rfl, rfl⟩
  go_wp2_with fail
  refine (decfb_3_big b off cap x0 x1 x2 _ c0 c1 c2 (by omega) (by omega) (by omega) (by omega) (by omega) (by omega) hv).mono ?_
  rintro e w1 ⟨rfl, rfl⟩
  have lt := cell_lt c0
  go_wp2_with fail
  refine wp_loop_rounds 4 ?_
  repeat (rw [rounds_succ]; go_wp2_with fail)
  refine (lives_ok _).mono ?_
  rintro e w5 ⟨rfl, hb5⟩
  go_wp2_with fail
  go_returns
  exact ⟨rfl, Below.trans (by go_grown) (hb5.mono (by go_size))⟩

set_option maxRecDepth 100000 in
set_option maxHeartbeats 2000000 in
theorem audfb_bad_3_ok (rate : Int) (b off cap : Nat) (x0 x1 x2 : Int) (w : World) (hr : 16777216 < rate) (c0 : w.cell? ⟨b, off, none⟩ = some (.int .u8 x0)) (c1 : w.cell? ⟨b, off + 1, none⟩ = some (.int .u8 x1)) (c2 : w.cell? ⟨b, off + 2, none⟩ = some (.int .u8 x2))
    (a0 : 0 ≤ x0) (b0 : x0 ≤ 255) (a1 : 0 ≤ x1) (b1 : x1 ≤ 255) (a2 : 0 ≤ x2) (b2 : x2 ≤ 255) (hv : (x0 + x1 * 256 + x2 * 65536) * 4 ≤ 16777216) :
    Calls Try.prog 4 #[.int .u32 rate, .slice (some ⟨b, off, none⟩) 3 cap] w fun e w' => e = .returned (.bool true) ∧ Below w.heap.size w w' := by
  go_enter Try.func4, Try.ntmps4
  go_wp2_with fail
  refine (encfb_bad _ _ _ hr).mono ?_
  rintro e w1 ⟨rfl, rfl⟩
  go_wp2_with fail
  refine (encfb_bad _ _ _ hr).mono ?_
  rintro e w1 ⟨rfl, rfl⟩
  go_wp2_with fail
  refine (decfb_3_ok b off cap x0 x1 x2 _ c0 c1 c2 (by omega) (by omega) (by omega) (by omega) (by omega) (by omega) hv).mono ?_
  rintro e w1 ⟨rfl, rfl⟩
  have lt := cell_lt c0
  go_wp2_with fail
  refine wp_loop_rounds 4 ?_
  repeat (rw [rounds_succ]; go_wp2_with fail)
  refine (lives_ok _).mono ?_
  rintro e w5 ⟨rfl, hb5⟩
  go_wp2_with fail
  go_returns
  exact ⟨rfl, Below.trans (by go_grown) (hb5.mono (by go_size))⟩

set_option maxRecDepth 100000 in
set_option maxHeartbeats 2000000 in
theorem audfb_bad_4_big (rate : Int) (b off cap : Nat) (x0 x1 x2 x3 : Int) (w : World) (hr : 16777216 < rate) (c0 : w.cell? ⟨b, off, none⟩ = some (.int .u8 x0)) (c1 : w.cell? ⟨b, off + 1, none⟩ = some (.int .u8 x1)) (c2 : w.cell? ⟨b, off + 2, none⟩ = some (.int .u8 x2)) (c3 : w.cell? ⟨b, off + 3, none⟩ = some (.int .u8 x3))
    (a0 : 0 ≤ x0) (b0 : x0 ≤ 255) (a1 : 0 ≤ x1) (b1 : x1 ≤ 255) (a2 : 0 ≤ x2) (b2 : x2 ≤ 255) (a3 : 0 ≤ x3) (b3 : x3 ≤ 255) (hv : 16777216 < x0 + x1 * 256 + x2 * 65536 + x3 * 16777216) :
    Calls Try.prog 4 #[.int .u32 rate, .slice (some ⟨b, off, none⟩) 4 cap] w fun e w' => e = .returned (.bool true) ∧ Below w.heap.size w w' := by
  go_enter Try.func4, Try.ntmps4
  go_wp2_with fail
  refine (encfb_bad _ _ _ hr).mono ?_
  rintro e w1 ⟨rfl, rfl⟩
  go_wp2_with fail
  refine (encfb_bad _ _ _ hr).mono ?_
  rintro e w1 ⟨rfl, rfl⟩
  go_wp2_with fail
  refine (decfb_4_big b off cap x0 x1 x2 x3 _ c0 c1 c2 c3 (by omega) (by omega) (by omega) (by omega) (by omega) (by omega) (by omega) (by omega) hv).mono ?_
  rintro e w1 ⟨rfl, rfl⟩
  have lt := cell_lt c0
  go_wp2_with fail
  refine wp_loop_rounds 5 ?_
  repeat (rw [rounds_succ]; go_wp2_with fail)
  refine (lives_ok _).mono ?_
  rintro e w5 ⟨rfl, hb5⟩
  go_wp2_with fail
  go_returns
  exact ⟨rfl, Below.trans (by go_grown) (hb5.mono (by go_size))⟩

set_option maxRecDepth 100000 in
set_option maxHeartbeats 2000000 in
theorem audfb_bad_4_ok (rate : Int) (b off cap : Nat) (x0 x1 x2 x3 : Int) (w : World) (hr : 16777216 < rate) (c0 : w.cell? ⟨b, off, none⟩ = some (.int .u8 x0)) (c1 : w.cell? ⟨b, off + 1, none⟩ = some (.int .u8 x1)) (c2 : w.cell? ⟨b, off + 2, none⟩ = some (.int .u8 x2)) (c3 : w.cell? ⟨b, off + 3, none⟩ = some (.int .u8 x3))
    (a0 : 0 ≤ x0) (b0 : x0 ≤ 255) (a1 : 0 ≤ x1) (b1 : x1 ≤ 255) (a2 : 0 ≤ x2) (b2 : x2 ≤ 255) (a3 : 0 ≤ x3) (b3 : x3 ≤ 255) (hv : x0 + x1 * 256 + x2 * 65536 + x3 * 16777216 ≤ 16777216) :
    Calls Try.prog 4 #[.int .u32 rate, .slice (some ⟨b, off, none⟩) 4 cap] w fun e w' => e = .returned (.bool true) ∧ Below w.heap.size w w' := by
  go_enter Try.func4, Try.ntmps4
  go_wp2_with fail
  refine (encfb_bad _ _ _ hr).mono ?_
  rintro e w1 ⟨rfl, rfl⟩
  go_wp2_with fail
  refine (encfb_bad _ _ _ hr).mono ?_
  rintro e w1 ⟨rfl, rfl⟩
  go_wp2_with fail
  refine (decfb_4_ok b off cap x0 x1 x2 x3 _ c0 c1 c2 c3 (by omega) (by omega) (by omega) (by omega) (by omega) (by omega) (by omega) (by omega) hv).mono ?_
  rintro e w1 ⟨rfl, rfl⟩
  have lt := cell_lt c0
  go_wp2_with fail
  refine wp_loop_rounds 5 ?_
  repeat (rw [rounds_succ]; go_wp2_with fail)
  refine (lives_ok _).mono ?_
  rintro e w5 ⟨rfl, hb5⟩
  go_wp2_with fail
  go_returns
  exact ⟨rfl, Below.trans (by go_grown) (hb5.mono (by go_size))⟩

set_option maxRecDepth 100000 in
set_option maxHeartbeats 2000000 in
theorem audfb_ok_w (rate : Int) (a : Option Addr) (n cap : Nat) (w : World) (h0 : 0 ≤ rate) (hr : rate ≤ 16777216) (h3 : n ≠ 3) (h4 : n ≠ 4) (hn : n ≤ 10) :
    Calls Try.prog 4 #[.int .u32 rate, .slice a n cap] w fun e w' => e = .returned (.bool true) ∧ Below w.heap.size w w' := by
  have k3 : ((n : Int) == 3) = false := by simp; omega
  have k4 : ((n : Int) == 4) = false := by simp; omega
  have k3' : ((n : Int) != 3) = true := by simp; omega
  have k4' : ((n : Int) != 4) = true := by simp; omega
  have H3 := Lib.hid h3; clear h3
  have H4 := Lib.hid h4; clear h4
  go_enter Try.func4, Try.ntmps4
  go_wp2_with fail
  refine (encfb_high _ _ h0 hr).mono ?_
  rintro e w1 ⟨rfl, rfl⟩
  go_wp2_with fail
  refine (encfb_low _ _ h0 hr).mono ?_
  rintro e w1 ⟨rfl, rfl⟩
  go_wp2_with fail
  refine (decfb_4_ok w.heap.size 0 4 (rate % 256) (rate / 256 % 256) (rate / 65536 % 256) (rate / 16777216) _ (by simp [go_sem]) (by simp [go_sem]) (by simp [go_sem]) (by simp [go_sem]) (by omega) (by omega) (by omega) (by omega) (by omega) (by omega) (by omega) (by omega) (by omega)).mono ?_
  rintro e w1 ⟨rfl, rfl⟩
  rw [fb_hi rate h0]
  go_wp2_with fail
  refine (decfb_3_ok (w.heap.size + 1) 0 3 (rate / 4 % 256) (rate / 4 / 256 % 256) (rate / 4 / 65536) _ (by simp [go_sem]) (by simp [go_sem]) (by simp [go_sem]) (by omega) (by omega) (by omega) (by omega) (by omega) (by omega) (by omega)).mono ?_
  rintro e w1 ⟨rfl, rfl⟩
  rw [fb_lo rate h0]
  go_wp2_with fail
  refine (decfb_width a n cap _ H3.out H4.out (by omega)).mono ?_
  rintro e w1 ⟨rfl, rfl⟩
  go_wp2_with fail
  refine (lives_ok _).mono ?_
  rintro e w5 ⟨rfl, hb5⟩
  go_wp2_with fail
  go_returns
  exact ⟨rfl, Below.trans (by go_grown) (hb5.mono (by go_size))⟩

set_option maxRecDepth 100000 in
set_option maxHeartbeats 2000000 in
theorem audfb_ok_3_big (rate : Int) (b off cap : Nat) (x0 x1 x2 : Int) (w : World) (h0 : 0 ≤ rate) (hr : rate ≤ 16777216) (c0 : w.cell? ⟨b, off, none⟩ = some (.int .u8 x0)) (c1 : w.cell? ⟨b, off + 1, none⟩ = some (.int .u8 x1)) (c2 : w.cell? ⟨b, off + 2, none⟩ = some (.int .u8 x2))
    (a0 : 0 ≤ x0) (b0 : x0 ≤ 255) (a1 : 0 ≤ x1) (b1 : x1 ≤ 255) (a2 : 0 ≤ x2) (b2 : x2 ≤ 255) (hv : 16777216 < (x0 + x1 * 256 + x2 * 65536) * 4) :
    Calls Try.prog 4 #[.int .u32 rate, .slice (some ⟨b, off, none⟩) 3 cap] w fun e w' => e = .returned (.bool true) ∧ Below w.heap.size w w' := by
  go_enter Try.func4, Try.ntmps4
  go_wp2_with fail
  refine (encfb_high _ _ h0 hr).mono ?_
  rintro e w1 ⟨rfl, rfl⟩
  go_wp2_with fail
  refine (encfb_low _ _ h0 hr).mono ?_
  rintro e w1 ⟨rfl, rfl⟩
  go_wp2_with fail
  refine (decfb_4_ok w.heap.size 0 4 (rate % 256) (rate / 256 % 256) (rate / 65536 % 256) (rate / 16777216) _ (by simp [go_sem]) (by simp [go_sem]) (by simp [go_sem]) (by simp [go_sem]) (by omega) (by omega) (by omega) (by omega) (by omega) (by omega) (by omega) (by omega) (by omega)).mono ?_
  rintro e w1 ⟨rfl, rfl⟩
  rw [fb_hi rate h0]
  go_wp2_with fail
  refine (decfb_3_ok (w.heap.size + 1) 0 3 (rate / 4 % 256) (rate / 4 / 256 % 256) (rate / 4 / 65536) _ (by simp [go_sem]) (by simp [go_sem]) (by simp [go_sem]) (by omega) (by omega) (by omega) (by omega) (by omega) (by omega) (by omega)).mono ?_
  rintro e w1 ⟨rfl, rfl⟩
  rw [fb_lo rate h0]
  go_wp2_with fail
  refine (decfb_3_big b off cap x0 x1 x2 _ (cell_alloc_old (cell_alloc_old c0)) (cell_alloc_old (cell_alloc_old c1)) (cell_alloc_old (cell_alloc_old c2)) (by omega) (by omega) (by omega) (by omega) (by omega) (by omega) hv).mono ?_
  rintro e w1 ⟨rfl, rfl⟩
  have lt := cell_lt c0
  go_wp2_with fail
  refine wp_loop_rounds 4 ?_
  repeat (rw [rounds_succ]; go_wp2_with fail)
  refine (lives_ok _).mono ?_
  rintro e w5 ⟨rfl, hb5⟩
  go_wp2_with fail
  go_returns
  exact ⟨rfl, Below.trans (by go_grown) (hb5.mono (by go_size))⟩

set_option maxRecDepth 100000 in
set_option maxHeartbeats 2000000 in
theorem audfb_ok_3_ok (rate : Int) (b off cap : Nat) (x0 x1 x2 : Int) (w : World) (h0 : 0 ≤ rate) (hr : rate ≤ 16777216) (c0 : w.cell? ⟨b, off, none⟩ = some (.int .u8 x0)) (c1 : w.cell? ⟨b, off + 1, none⟩ = some (.int .u8 x1)) (c2 : w.cell? ⟨b, off + 2, none⟩ = some (.int .u8 x2))
    (a0 : 0 ≤ x0) (b0 : x0 ≤ 255) (a1 : 0 ≤ x1) (b1 : x1 ≤ 255) (a2 : 0 ≤ x2) (b2 : x2 ≤ 255) (hv : (x0 + x1 * 256 + x2 * 65536) * 4 ≤ 16777216) :
    Calls Try.prog 4 #[.int .u32 rate, .slice (some ⟨b, off, none⟩) 3 cap] w fun e w' => e = .returned (.bool true) ∧ Below w.heap.size w w' := by
  go_enter Try.func4, Try.ntmps4
  go_wp2_with fail
  refine (encfb_high _ _ h0 hr).mono ?_
  rintro e w1 ⟨rfl, rfl⟩
  go_wp2_with fail
  refine (encfb_low _ _ h0 hr).mono ?_
  rintro e w1 ⟨rfl, rfl⟩
  go_wp2_with fail
  refine (decfb_4_ok w.heap.size 0 4 (rate % 256) (rate / 256 % 256) (rate / 65536 % 256) (rate / 16777216) _ (by simp [go_sem]) (by simp [go_sem]) (by simp [go_sem]) (by simp [go_sem]) (by omega) (by omega) (by omega) (by omega) (by omega) (by omega) (by omega) (by omega) (by omega)).mono ?_
  rintro e w1 ⟨rfl, rfl⟩
  rw [fb_hi rate h0]
  go_wp2_with fail
  refine (decfb_3_ok (w.heap.size + 1) 0 3 (rate / 4 % 256) (rate / 4 / 256 % 256) (rate / 4 / 65536) _ (by simp [go_sem]) (by simp [go_sem]) (by simp [go_sem]) (by omega) (by omega) (by omega) (by omega) (by omega) (by omega) (by omega)).mono ?_
  rintro e w1 ⟨rfl, rfl⟩
  rw [fb_lo rate h0]
  go_wp2_with fail
  refine (decfb_3_ok b off cap x0 x1 x2 _ (cell_alloc_old (cell_alloc_old c0)) (cell_alloc_old (cell_alloc_old c1)) (cell_alloc_old (cell_alloc_old c2)) (by omega) (by omega) (by omega) (by omega) (by omega) (by omega) hv).mono ?_
  rintro e w1 ⟨rfl, rfl⟩
  have lt := cell_lt c0
  go_wp2_with fail
  refine wp_loop_rounds 4 ?_
  repeat (rw [rounds_succ]; go_wp2_with fail)
  refine (lives_ok _).mono ?_
  rintro e w5 ⟨rfl, hb5⟩
  go_wp2_with fail
  go_returns
  exact ⟨rfl, Below.trans (by go_grown) (hb5.mono (by go_size))⟩

set_option maxRecDepth 100000 in
set_option maxHeartbeats 2000000 in
theorem audfb_ok_4_big (rate : Int) (b off cap : Nat) (x0 x1 x2 x3 : Int) (w : World) (h0 : 0 ≤ rate) (hr : rate ≤ 16777216) (c0 : w.cell? ⟨b, off, none⟩ = some (.int .u8 x0)) (c1 : w.cell? ⟨b, off + 1, none⟩ = some (.int .u8 x1)) (c2 : w.cell? ⟨b, off + 2, none⟩ = some (.int .u8 x2)) (c3 : w.cell? ⟨b, off + 3, none⟩ = some (.int .u8 x3))
    (a0 : 0 ≤ x0) (b0 : x0 ≤ 255) (a1 : 0 ≤ x1) (b1 : x1 ≤ 255) (a2 : 0 ≤ x2) (b2 : x2 ≤ 255) (a3 : 0 ≤ x3) (b3 : x3 ≤ 255) (hv : 16777216 < x0 + x1 * 256 + x2 * 65536 + x3 * 16777216) :
    Calls Try.prog 4 #[.int .u32 rate, .slice (some ⟨b, off, none⟩) 4 cap] w fun e w' => e = .returned (.bool true) ∧ Below w.heap.size w w' := by
  go_enter Try.func4, Try.ntmps4
  go_wp2_with fail
  refine (encfb_high _ _ h0 hr).mono ?_
  rintro e w1 ⟨rfl, rfl⟩
  go_wp2_with fail
  refine (encfb_low _ _ h0 hr).mono ?_
  rintro e w1 ⟨rfl, rfl⟩
  go_wp2_with fail
  refine (decfb_4_ok w.heap.size 0 4 (rate % 256) (rate / 256 % 256) (rate / 65536 % 256) (rate / 16777216) _ (by simp [go_sem]) (by simp [go_sem]) (by simp [go_sem]) (by simp [go_sem]) (by omega) (by omega) (by omega) (by omega) (by omega) (by omega) (by omega) (by omega) (by omega)).mono ?_
  rintro e w1 ⟨rfl, rfl⟩
  rw [fb_hi rate h0]
  go_wp2_with fail
  refine (decfb_3_ok (w.heap.size + 1) 0 3 (rate / 4 % 256) (rate / 4 / 256 % 256) (rate / 4 / 65536) _ (by simp [go_sem]) (by simp [go_sem]) (by simp [go_sem]) (by omega) (by omega) (by omega) (by omega) (by omega) (by omega) (by omega)).mono ?_
  rintro e w1 ⟨rfl, rfl⟩
  rw [fb_lo rate h0]
  go_wp2_with fail
  refine (decfb_4_big b off cap x0 x1 x2 x3 _ (cell_alloc_old (cell_alloc_old c0)) (cell_alloc_old (cell_alloc_old c1)) (cell_alloc_old (cell_alloc_old c2)) (cell_alloc_old (cell_alloc_old c3)) (by omega) (by omega) (by omega) (by omega) (by omega) (by omega) (by omega) (by omega) hv).mono ?_
  rintro e w1 ⟨rfl, rfl⟩
  have lt := cell_lt c0
  go_wp2_with fail
  refine wp_loop_rounds 5 ?_
  repeat (rw [rounds_succ]; go_wp2_with fail)
  refine (lives_ok _).mono ?_
  rintro e w5 ⟨rfl, hb5⟩
  go_wp2_with fail
  go_returns
  exact ⟨rfl, Below.trans (by go_grown) (hb5.mono (by go_size))⟩

set_option maxRecDepth 100000 in
set_option maxHeartbeats 2000000 in
theorem audfb_ok_4_ok (rate : Int) (b off cap : Nat) (x0 x1 x2 x3 : Int) (w : World) (h0 : 0 ≤ rate) (hr : rate ≤ 16777216) (c0 : w.cell? ⟨b, off, none⟩ = some (.int .u8 x0)) (c1 : w.cell? ⟨b, off + 1, none⟩ = some (.int .u8 x1)) (c2 : w.cell? ⟨b, off + 2, none⟩ = some (.int .u8 x2)) (c3 : w.cell? ⟨b, off + 3, none⟩ = some (.int .u8 x3))
    (a0 : 0 ≤ x0) (b0 : x0 ≤ 255) (a1 : 0 ≤ x1) (b1 : x1 ≤ 255) (a2 : 0 ≤ x2) (b2 : x2 ≤ 255) (a3 : 0 ≤ x3) (b3 : x3 ≤ 255) (hv : x0 + x1 * 256 + x2 * 65536 + x3 * 16777216 ≤ 16777216) :
    Calls Try.prog 4 #[.int .u32 rate, .slice (some ⟨b, off, none⟩) 4 cap] w fun e w' => e = .returned (.bool true) ∧ Below w.heap.size w w' := by
  go_enter Try.func4, Try.ntmps4
  go_wp2_with fail
  refine (encfb_high _ _ h0 hr).mono ?_
  rintro e w1 ⟨rfl, rfl⟩
  go_wp2_with fail
  refine (encfb_low _ _ h0 hr).mono ?_
  rintro e w1 ⟨rfl, rfl⟩
  go_wp2_with fail
  refine (decfb_4_ok w.heap.size 0 4 (rate % 256) (rate / 256 % 256) (rate / 65536 % 256) (rate / 16777216) _ (by simp [go_sem]) (by simp [go_sem]) (by simp [go_sem]) (by simp [go_sem]) (by omega) (by omega) (by omega) (by omega) (by omega) (by omega) (by omega) (by omega) (by omega)).mono ?_
  rintro e w1 ⟨rfl, rfl⟩
  rw [fb_hi rate h0]
  go_wp2_with fail
  refine (decfb_3_ok (w.heap.size + 1) 0 3 (rate / 4 % 256) (rate / 4 / 256 % 256) (rate / 4 / 65536) _ (by simp [go_sem]) (by simp [go_sem]) (by simp [go_sem]) (by omega) (by omega) (by omega) (by omega) (by omega) (by omega) (by omega)).mono ?_
  rintro e w1 ⟨rfl, rfl⟩
  rw [fb_lo rate h0]
  go_wp2_with fail
  refine (decfb_4_ok b off cap x0 x1 x2 x3 _ (cell_alloc_old (cell_alloc_old c0)) (cell_alloc_old (cell_alloc_old c1)) (cell_alloc_old (cell_alloc_old c2)) (cell_alloc_old (cell_alloc_old c3)) (by omega) (by omega) (by omega) (by omega) (by omega) (by omega) (by omega) (by omega) hv).mono ?_
  rintro e w1 ⟨rfl, rfl⟩
  have lt := cell_lt c0
  go_wp2_with fail
  refine wp_loop_rounds 5 ?_
  repeat (rw [rounds_succ]; go_wp2_with fail)
  refine (lives_ok _).mono ?_
  rintro e w5 ⟨rfl, hb5⟩
  go_wp2_with fail
  go_returns
  exact ⟨rfl, Below.trans (by go_grown) (hb5.mono (by go_size))⟩

set_option maxRecDepth 100000 in
set_option maxHeartbeats 1000000 in
theorem audfb_long (rate : Int) (a : Option Addr) (n cap : Nat) (w : World) (hn : 10 < n) (hm : n ≤ 9223372036854775807) :
    Calls Try.prog 4 #[.int .u32 rate, .slice a n cap] w fun e w' => e = .returned (.bool true) ∧ Below w.heap.size w w' := by
  go_enter Try.func4, Try.ntmps4
  go_wp2_with fail
  refine (lives_ok _).mono ?_
  rintro e w5 ⟨rfl, hb5⟩
  go_wp2_with fail
  go_returns
  exact ⟨rfl, Below.trans (by go_grown) (hb5.mono (by go_size))⟩

theorem audfb_walk (rate : Int) (a : Option Addr) (l : List Int) (cap : Nat) (w : World) (h0 : 0 ≤ rate) (hm : l.length ≤ 9223372036854775807) (hc : Cells w a (l.map (.int .u8))) (hz : ∀ x ∈ l, 0 ≤ x ∧ x ≤ 255) :
    Calls Try.prog 4 #[.int .u32 rate, .slice a l.length cap] w fun e w' => e = .returned (.bool true) ∧ Below w.heap.size w w' := by
  by_cases hlong : 10 < l.length
  · exact audfb_long rate a _ cap w hlong hm
  by_cases h3 : l.length = 3
  · match l, h3 with
    | [x0, x1, x2], _ =>
      obtain ⟨b, off, rfl, c0, c1, c2⟩ := cells3 hc
      obtain ⟨a0, b0⟩ := hz x0 (by simp)
      obtain ⟨a1, b1⟩ := hz x1 (by simp)
      obtain ⟨a2, b2⟩ := hz x2 (by simp)
      by_cases hv : 16777216 < (x0 + x1 * 256 + x2 * 65536) * 4 <;> by_cases hr : 16777216 < rate
      · exact audfb_bad_3_big rate b off cap x0 x1 x2 w hr c0 c1 c2 a0 b0 a1 b1 a2 b2 hv
      · exact audfb_ok_3_big rate b off cap x0 x1 x2 w h0 (by omega) c0 c1 c2 a0 b0 a1 b1 a2 b2 hv
      · exact audfb_bad_3_ok rate b off cap x0 x1 x2 w hr c0 c1 c2 a0 b0 a1 b1 a2 b2 (by omega)
      · exact audfb_ok_3_ok rate b off cap x0 x1 x2 w h0 (by omega) c0 c1 c2 a0 b0 a1 b1 a2 b2 (by omega)
  by_cases h4 : l.length = 4
  · match l, h4 with
    | [x0, x1, x2, x3], _ =>
      obtain ⟨b, off, rfl, c0, c1, c2, c3⟩ := cells4 hc
      obtain ⟨a0, b0⟩ := hz x0 (by simp)
      obtain ⟨a1, b1⟩ := hz x1 (by simp)
      obtain ⟨a2, b2⟩ := hz x2 (by simp)
      obtain ⟨a3, b3⟩ := hz x3 (by simp)
      by_cases hv : 16777216 < x0 + x1 * 256 + x2 * 65536 + x3 * 16777216 <;> by_cases hr : 16777216 < rate
      · exact audfb_bad_4_big rate b off cap x0 x1 x2 x3 w hr c0 c1 c2 c3 a0 b0 a1 b1 a2 b2 a3 b3 hv
      · exact audfb_ok_4_big rate b off cap x0 x1 x2 x3 w h0 (by omega) c0 c1 c2 c3 a0 b0 a1 b1 a2 b2 a3 b3 hv
      · exact audfb_bad_4_ok rate b off cap x0 x1 x2 x3 w hr c0 c1 c2 c3 a0 b0 a1 b1 a2 b2 a3 b3 (by omega)
      · exact audfb_ok_4_ok rate b off cap x0 x1 x2 x3 w h0 (by omega) c0 c1 c2 c3 a0 b0 a1 b1 a2 b2 a3 b3 (by omega)
  by_cases hr : 16777216 < rate
  · exact audfb_bad_w rate a _ cap w hr h3 h4 (by omega)
  · exact audfb_ok_w rate a _ cap w h0 (by omega) h3 h4 (by omega)
end Go.Proofs.Ytphajgehfbimnaa
