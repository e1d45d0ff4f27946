/-
  Check sequences: what is reckoned out: the shorter check over all its positions, the longer one's order.
-/
import Derived.Test.YtmjocalgekfodaaChkP
namespace Go.Proofs.Ytmjocalgekfodaa.Chk
set_option maxRecDepth 100000 in
set_option maxRecDepth 100000 in
set_option maxRecDepth 100000 in
theorem long_meets : meets 8300 (T 40961 1) = false := by decide +kernel
end Go.Proofs.Ytmjocalgekfodaa.Chk

