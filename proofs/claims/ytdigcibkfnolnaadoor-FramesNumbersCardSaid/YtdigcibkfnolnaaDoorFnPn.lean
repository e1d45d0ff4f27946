/-
  Flags for the law on frame numbers: the trace of a new bus is an own row.
  Conditions: none.
-/
import Derived.Test.YtdigcibkfnolnaaDoorElL
namespace Go.Proofs.YtdigcibkfnolnaaDoor
def flN : FuncId → Bool := fun f => [3000000 + 100 * 57 + 99, 3000000 + 100 * 57 + 5].contains f || flE f
end Go.Proofs.YtdigcibkfnolnaaDoor

