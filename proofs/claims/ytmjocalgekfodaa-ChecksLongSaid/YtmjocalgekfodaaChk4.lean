/-
  The contract of the reference's division of polynomials (plugboardref02.Behind).
-/
import Derived.Test.YtmjocalgekfodaaChk3
import Derived.StillTailTactics
namespace Go.Proofs.Ytmjocalgekfodaa
open Go.RowKit
set_option linter.unusedVariables false



end Go.Proofs.Ytmjocalgekfodaa

