/-
  The statement AudiosKeep: the frames of a plan; the plain law.
  Conditions: none.
-/
import Derived.Test.YtmjocalgekfodaaKpQ
namespace Go.Proofs.Ytmjocalgekfodaa
set_option linter.unusedVariables false
set_option linter.unusedSimpArgs false
set_option maxRecDepth 100000
set_option maxHeartbeats 2000000

end Go.Proofs.Ytmjocalgekfodaa

