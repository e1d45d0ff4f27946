/-
  The flags of law 06's Do: clips of bytes stay own rows.
  Conditions: none.
-/
import Derived.Test.YtpdbekbobkjfgaaFnPo
namespace Go.Proofs.Ytpdbekbobkjfgaa
def flW : FuncId → Bool := fun f => flV f || [9000008, 10000000 + 73].contains f
end Go.Proofs.Ytpdbekbobkjfgaa

