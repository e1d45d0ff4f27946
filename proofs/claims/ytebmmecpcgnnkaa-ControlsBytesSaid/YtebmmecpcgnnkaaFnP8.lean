/-
  Which functions of this seat hand back nothing that lies in memory; short names of its shapes.
  Conditions: none.
-/
import Derived.Test.YtebmmecpcgnnkaaKE
import Derived.Test.YtebmmecpcgnnkaaAMTy
namespace Go.Proofs.Ytebmmecpcgnnkaa
def flT : FuncId → Bool := fun f => [3, 4, 5, 6, 7, 8, 9, 10, 16, 17, 21, 24, 34, 37, 39, 45, 55, 56, 58, 75, 79, 87, 91, 102, 112, 42, 74, 92, 11, 57, 142, 12, 44, 43, 18, 19, 20, 1000132, 1000077].contains f
abbrev Pkt : Type := Int × Int × Int × Int × Int × Int × Bool × Bool × Int × List Int × Unit
@[reducible] def shPkt : Sh := .cons (.i .u8) (.cons (.i .u8) (.cons (.i .u8) (.cons (.i .u16) (.cons (.i .u8) (.cons (.i .u8) (.cons .b (.cons .b (.cons (.i .u8) (.cons (.ints .u8) .nil)))))))))
end Go.Proofs.Ytebmmecpcgnnkaa
