/-
  Which functions of this seat hand back nothing that lies in memory; short names of its shapes.
  Conditions: none.
-/
import Derived.Test.YtpdbekbobkjfgaaDoorKE
import Derived.Test.YtpdbekbobkjfgaaDoorAMTy
namespace Go.Proofs.YtpdbekbobkjfgaaDoor
def flT : FuncId → Bool := fun f => [3, 4, 5, 6, 7, 8, 9, 11, 12, 13, 17, 18, 19, 20, 23, 24, 25, 26, 27, 34, 35, 36, 37, 40, 41, 44, 46, 47, 48, 49, 53, 63, 73, 74, 75, 81, 87, 2000043].contains f
abbrev Pkt : Type := Int × Int × Int × Int × Int × Int × Bool × Bool × Int × List Int × Unit
@[reducible] def shPkt : Sh := .cons (.i .u8) (.cons (.i .u8) (.cons (.i .u8) (.cons (.i .u16) (.cons (.i .u8) (.cons (.i .u8) (.cons .b (.cons .b (.cons (.i .u8) (.cons (.ints .u8) .nil)))))))))
end Go.Proofs.YtpdbekbobkjfgaaDoor

