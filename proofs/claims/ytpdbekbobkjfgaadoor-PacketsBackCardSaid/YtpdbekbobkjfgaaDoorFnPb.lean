/-
  The flags of law 03's Back: a packet's empty data in a box are an own row.
  Conditions: none.
-/
import Derived.Test.YtpdbekbobkjfgaaDoorFnPq
namespace Go.Proofs.YtpdbekbobkjfgaaDoor
def flB : FuncId → Bool := fun f => flQ f || [3000000 + 100 * 29 + 99, 3000000 + 100 * 29 + 9].contains f
end Go.Proofs.YtpdbekbobkjfgaaDoor

