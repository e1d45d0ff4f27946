/-
  The flags of law 06's TransactionsDo: an outcome without data has an empty own row.
  Conditions: none.
-/
import Derived.Test.YtpdbekbobkjfgaaFnPx
namespace Go.Proofs.Ytpdbekbobkjfgaa
def flY : FuncId → Bool := fun f => flX f || [3007199, 3007101].contains f
end Go.Proofs.Ytpdbekbobkjfgaa

