/-
  The flags of law 06's Do: copies of packets hand back own rows.
  Conditions: none.
-/
import Derived.Test.YtpdbekbobkjfgaaFnPw
namespace Go.Proofs.Ytpdbekbobkjfgaa
def flX : FuncId → Bool := fun f => flW f || [8000000 + 45].contains f
end Go.Proofs.Ytpdbekbobkjfgaa

