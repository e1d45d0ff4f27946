/-
  Which functions of this seat hand back nothing that lies in memory; short names of its shapes.
  Conditions: none.
-/
import Derived.Test.YtpdbekbobkjfgaaKE
import Derived.Test.YtpdbekbobkjfgaaAMTy
namespace Go.Proofs.Ytpdbekbobkjfgaa
def flT : FuncId → Bool := fun f => [3, 4, 5, 6, 7, 11, 12, 21, 25, 14, 56, 74, 17, 18, 19, 100, 57, 58, 87, 1000027, 1000044, 1000120].contains f
abbrev Pkt : Type := Int × Int × Int × Int × Int × Int × Bool × Bool × Int × List Int × Unit
@[reducible] def shPkt : Sh := .cons (.i .u8) (.cons (.i .u8) (.cons (.i .u8) (.cons (.i .u16) (.cons (.i .u8) (.cons (.i .u8) (.cons .b (.cons .b (.cons (.i .u8) (.cons (.ints .u8) .nil)))))))))
end Go.Proofs.Ytpdbekbobkjfgaa

