/-
  Flags of law 07's Write, Read, Iso: comparisons only look at lists.
  Conditions: none.
-/
import Derived.Test.YtngghkoghbpceaaDoorE7w
import Derived.Test.YtngghkoghbpceaaDoorL7T
namespace Go.Proofs.YtngghkoghbpceaaDoor
end Go.Proofs.YtngghkoghbpceaaDoor
