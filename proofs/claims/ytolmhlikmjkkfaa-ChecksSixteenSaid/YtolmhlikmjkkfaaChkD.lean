/-
  Check sequences: what is reckoned out: the shorter check over all its positions, the longer one's order.
-/
import Derived.Test.YtolmhlikmjkkfaaChkP
namespace Go.Proofs.Ytolmhlikmjkkfaa.Chk
set_option maxRecDepth 100000 in
theorem short_two : ∀ n, n < 25 → ∀ i, i < n + 5 → ∀ j, j < n + 5 → z5 ((2 ^ i ||| 2 ^ j) % 2 ^ n) n ≠ (2 ^ i ||| 2 ^ j) / 2 ^ n := by decide +kernel
set_option maxRecDepth 100000 in
theorem short_burst : ∀ n, n < 25 → ∀ i, i < n + 5 → ∀ b, b < 32 → b * 2 ^ i % 2 ^ (n + 5) ≠ 0 → z5 (b * 2 ^ i % 2 ^ (n + 5) % 2 ^ n) n ≠ b * 2 ^ i % 2 ^ (n + 5) / 2 ^ n := by decide +kernel
set_option maxRecDepth 100000 in
theorem long_meets : meets 8300 (T 40961 1) = false := by decide +kernel
end Go.Proofs.Ytolmhlikmjkkfaa.Chk
