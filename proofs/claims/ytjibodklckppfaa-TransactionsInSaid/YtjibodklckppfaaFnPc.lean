/-
  Which functions of this seat hand back nothing that lies in memory; short names of its shapes.
  Conditions: none.
-/
import Derived.Test.YtjibodklckppfaaKE
import Derived.Test.YtjibodklckppfaaAMTy
namespace Go.Proofs.Ytjibodklckppfaa
def flT : FuncId → Bool := fun f => [121, 103, 13, 78, 54, 42, 12000042].contains f
abbrev Pkt : Type := Int × Int × Int × Int × Int × Int × Bool × Bool × Int × List Int × Unit
@[reducible] def shPkt : Sh := .cons (.i .u8) (.cons (.i .u8) (.cons (.i .u8) (.cons (.i .u16) (.cons (.i .u8) (.cons (.i .u8) (.cons .b (.cons .b (.cons (.i .u8) (.cons (.ints .u8) .nil)))))))))
end Go.Proofs.Ytjibodklckppfaa

