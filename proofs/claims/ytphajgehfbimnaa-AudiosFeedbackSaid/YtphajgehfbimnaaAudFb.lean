/-
  The contract of audios.DecodeFeedback, and the walk of plugboardlaw42.AudiosFeedback.
-/
import Derived.Test.YtphajgehfbimnaaAud1
namespace Go.Proofs.Ytphajgehfbimnaa
open Go.RowKit
set_option linter.unusedVariables false

set_option maxRecDepth 100000 in
set_option maxHeartbeats 400000 in
theorem decfb_width (a : Option Addr) (n cap : Nat) (w : World) (h3 : n ≠ 3) (h4 : n ≠ 4) (hm : n ≤ 9223372036854775807) :
    Calls Try.prog 18 #[.slice a n cap] w fun e w' => e = .returned (.tuple #[.int .u32 0, .int .i64 5]) ∧ w = w' := by
  have k3 : ((n : Int) == 3) = false := by simp; omega
  have k4 : ((n : Int) == 4) = false := by simp; omega
  have k3' : ((n : Int) != 3) = true := by simp; omega
  have k4' : ((n : Int) != 4) = true := by simp; omega
  go_enter Try.func18, Try.ntmps18
  go_wp2_with fail
  go_returns
  exact ⟨rfl, rfl⟩

set_option maxRecDepth 100000 in
set_option maxHeartbeats 1000000 in
theorem decfb_3_big (b off cap : Nat) (x0 x1 x2 : Int) (w : World) (c0 : w.cell? ⟨b, off, none⟩ = some (.int .u8 x0)) (c1 : w.cell? ⟨b, off + 1, none⟩ = some (.int .u8 x1)) (c2 : w.cell? ⟨b, off + 2, none⟩ = some (.int .u8 x2))
    (a0 : 0 ≤ x0) (b0 : x0 ≤ 255) (a1 : 0 ≤ x1) (b1 : x1 ≤ 255) (a2 : 0 ≤ x2) (b2 : x2 ≤ 255) (hv : 16777216 < (x0 + x1 * 256 + x2 * 65536) * 4) :
    Calls Try.prog 18 #[.slice (some ⟨b, off, none⟩) 3 cap] w fun e w' => e = .returned (.tuple #[.int .u32 0, .int .i64 1]) ∧ w = w' := by
  have e0 : bits .or .u32 0 x0 = x0 := by have := or_u32 0 x0 0 (by omega) (by decide) (by omega) (by omega) (by omega); simpa using this
  have e1 : bits .or .u32 (x0) (x1 * 256) = x0 + x1 * 256 := by have := or_u32 (x0) x1 8 (by omega) (by omega) (by omega) (by omega) (by omega); simpa using this
  have e2 : bits .or .u32 (x0 + x1 * 256) (x2 * 65536) = x0 + x1 * 256 + x2 * 65536 := by have := or_u32 (x0 + x1 * 256) x2 16 (by omega) (by omega) (by omega) (by omega) (by omega); simpa using this
  go_enter Try.func18, Try.ntmps18
  go_wp2_with fail
  go_rounds 4
  all_goals go_returns
  all_goals exact ⟨rfl, rfl⟩

set_option maxRecDepth 100000 in
set_option maxHeartbeats 1000000 in
theorem decfb_3_ok (b off cap : Nat) (x0 x1 x2 : Int) (w : World) (c0 : w.cell? ⟨b, off, none⟩ = some (.int .u8 x0)) (c1 : w.cell? ⟨b, off + 1, none⟩ = some (.int .u8 x1)) (c2 : w.cell? ⟨b, off + 2, none⟩ = some (.int .u8 x2))
    (a0 : 0 ≤ x0) (b0 : x0 ≤ 255) (a1 : 0 ≤ x1) (b1 : x1 ≤ 255) (a2 : 0 ≤ x2) (b2 : x2 ≤ 255) (hv : (x0 + x1 * 256 + x2 * 65536) * 4 ≤ 16777216) :
    Calls Try.prog 18 #[.slice (some ⟨b, off, none⟩) 3 cap] w fun e w' => e = .returned (.tuple #[.int .u32 ((x0 + x1 * 256 + x2 * 65536) * 4), .int .i64 0]) ∧ w = w' := by
  have e0 : bits .or .u32 0 x0 = x0 := by have := or_u32 0 x0 0 (by omega) (by decide) (by omega) (by omega) (by omega); simpa using this
  have e1 : bits .or .u32 (x0) (x1 * 256) = x0 + x1 * 256 := by have := or_u32 (x0) x1 8 (by omega) (by omega) (by omega) (by omega) (by omega); simpa using this
  have e2 : bits .or .u32 (x0 + x1 * 256) (x2 * 65536) = x0 + x1 * 256 + x2 * 65536 := by have := or_u32 (x0 + x1 * 256) x2 16 (by omega) (by omega) (by omega) (by omega) (by omega); simpa using this
  go_enter Try.func18, Try.ntmps18
  go_wp2_with fail
  go_rounds 4
  all_goals go_returns
  all_goals exact ⟨rfl, rfl⟩

set_option maxRecDepth 100000 in
set_option maxHeartbeats 1000000 in
theorem decfb_4_big (b off cap : Nat) (x0 x1 x2 x3 : Int) (w : World) (c0 : w.cell? ⟨b, off, none⟩ = some (.int .u8 x0)) (c1 : w.cell? ⟨b, off + 1, none⟩ = some (.int .u8 x1)) (c2 : w.cell? ⟨b, off + 2, none⟩ = some (.int .u8 x2)) (c3 : w.cell? ⟨b, off + 3, none⟩ = some (.int .u8 x3))
    (a0 : 0 ≤ x0) (b0 : x0 ≤ 255) (a1 : 0 ≤ x1) (b1 : x1 ≤ 255) (a2 : 0 ≤ x2) (b2 : x2 ≤ 255) (a3 : 0 ≤ x3) (b3 : x3 ≤ 255) (hv : 16777216 < x0 + x1 * 256 + x2 * 65536 + x3 * 16777216) :
    Calls Try.prog 18 #[.slice (some ⟨b, off, none⟩) 4 cap] w fun e w' => e = .returned (.tuple #[.int .u32 0, .int .i64 1]) ∧ w = w' := by
  have e0 : bits .or .u32 0 x0 = x0 := by have := or_u32 0 x0 0 (by omega) (by decide) (by omega) (by omega) (by omega); simpa using this
  have e1 : bits .or .u32 (x0) (x1 * 256) = x0 + x1 * 256 := by have := or_u32 (x0) x1 8 (by omega) (by omega) (by omega) (by omega) (by omega); simpa using this
  have e2 : bits .or .u32 (x0 + x1 * 256) (x2 * 65536) = x0 + x1 * 256 + x2 * 65536 := by have := or_u32 (x0 + x1 * 256) x2 16 (by omega) (by omega) (by omega) (by omega) (by omega); simpa using this
  have e3 : bits .or .u32 (x0 + x1 * 256 + x2 * 65536) (x3 * 16777216) = x0 + x1 * 256 + x2 * 65536 + x3 * 16777216 := by have := or_u32 (x0 + x1 * 256 + x2 * 65536) x3 24 (by omega) (by omega) (by omega) (by omega) (by omega); simpa using this
  go_enter Try.func18, Try.ntmps18
  go_wp2_with fail
  go_rounds 5
  all_goals go_returns
  all_goals exact ⟨rfl, rfl⟩

set_option maxRecDepth 100000 in
set_option maxHeartbeats 1000000 in
theorem decfb_4_ok (b off cap : Nat) (x0 x1 x2 x3 : Int) (w : World) (c0 : w.cell? ⟨b, off, none⟩ = some (.int .u8 x0)) (c1 : w.cell? ⟨b, off + 1, none⟩ = some (.int .u8 x1)) (c2 : w.cell? ⟨b, off + 2, none⟩ = some (.int .u8 x2)) (c3 : w.cell? ⟨b, off + 3, none⟩ = some (.int .u8 x3))
    (a0 : 0 ≤ x0) (b0 : x0 ≤ 255) (a1 : 0 ≤ x1) (b1 : x1 ≤ 255) (a2 : 0 ≤ x2) (b2 : x2 ≤ 255) (a3 : 0 ≤ x3) (b3 : x3 ≤ 255) (hv : x0 + x1 * 256 + x2 * 65536 + x3 * 16777216 ≤ 16777216) :
    Calls Try.prog 18 #[.slice (some ⟨b, off, none⟩) 4 cap] w fun e w' => e = .returned (.tuple #[.int .u32 (x0 + x1 * 256 + x2 * 65536 + x3 * 16777216), .int .i64 0]) ∧ w = w' := by
  have e0 : bits .or .u32 0 x0 = x0 := by have := or_u32 0 x0 0 (by omega) (by decide) (by omega) (by omega) (by omega); simpa using this
  have e1 : bits .or .u32 (x0) (x1 * 256) = x0 + x1 * 256 := by have := or_u32 (x0) x1 8 (by omega) (by omega) (by omega) (by omega) (by omega); simpa using this
  have e2 : bits .or .u32 (x0 + x1 * 256) (x2 * 65536) = x0 + x1 * 256 + x2 * 65536 := by have := or_u32 (x0 + x1 * 256) x2 16 (by omega) (by omega) (by omega) (by omega) (by omega); simpa using this
  have e3 : bits .or .u32 (x0 + x1 * 256 + x2 * 65536) (x3 * 16777216) = x0 + x1 * 256 + x2 * 65536 + x3 * 16777216 := by have := or_u32 (x0 + x1 * 256 + x2 * 65536) x3 24 (by omega) (by omega) (by omega) (by omega) (by omega); simpa using this
  go_enter Try.func18, Try.ntmps18
  go_wp2_with fail
  go_rounds 5
  all_goals go_returns
  all_goals exact ⟨rfl, rfl⟩

end Go.Proofs.Ytphajgehfbimnaa
