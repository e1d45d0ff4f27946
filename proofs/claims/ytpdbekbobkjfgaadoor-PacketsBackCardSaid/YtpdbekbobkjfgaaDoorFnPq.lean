/-
  The flags of law 03 where results are own rows: clips stay own rows.
  Conditions: none.
-/
import Derived.Test.YtpdbekbobkjfgaaDoorFnPr
namespace Go.Proofs.YtpdbekbobkjfgaaDoor
def flQ : FuncId → Bool := fun f => flR f || [9000008, 10000000 + 95, 11000000 + 17].contains f
end Go.Proofs.YtpdbekbobkjfgaaDoor

