/-
  The flags of law 03's Back: a packet's empty data in a box are an own row.
  Conditions: none.
-/
import Derived.Test.YtpdbekbobkjfgaaDoorFnPq
namespace Go.Proofs.YtpdbekbobkjfgaaDoor
end Go.Proofs.YtpdbekbobkjfgaaDoor

