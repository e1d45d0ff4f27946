/-
  Flags of ControlsHost: Start and clone only look at rows, which are handed over as rows.
  Conditions: none.
-/
import Derived.Test.YtjibodklckppfaaH8h
import Derived.Test.YtjibodklckppfaaM8T
namespace Go.Proofs.Ytjibodklckppfaa
end Go.Proofs.Ytjibodklckppfaa

