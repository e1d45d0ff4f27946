/-
  The flags of law 04's Sent.
  Conditions: none.
-/
import Derived.Test.YtpdbekbobkjfgaaFnP
namespace Go.Proofs.Ytpdbekbobkjfgaa
def flS : FuncId → Bool := fun f => flT f || [8000000 + 66, 2000043].contains f
end Go.Proofs.Ytpdbekbobkjfgaa
