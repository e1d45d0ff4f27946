/-
  Which functions of this seat hand back nothing that lies in memory; which empty slices are own rows.
  Conditions: none.
-/
import Derived.Test.YtpdbekbobkjfgaaFnP
namespace Go.Proofs.Ytpdbekbobkjfgaa
def flV : FuncId → Bool := fun f => [3, 4, 5, 6, 7, 11, 12, 21, 25, 14, 56, 74, 17, 18, 19, 100, 57, 58, 87, 1000027, 1000044, 3004999, 3004901, 3005099, 3005000, 4000015, 5015002, 5015003].contains f
end Go.Proofs.Ytpdbekbobkjfgaa

