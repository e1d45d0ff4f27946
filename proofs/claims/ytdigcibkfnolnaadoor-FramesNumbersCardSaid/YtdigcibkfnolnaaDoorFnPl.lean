/-
  Which functions of this seat (law 11) hand back nothing that lies in memory; short names of its shapes.
  Conditions: none.
-/
import Derived.Test.YtdigcibkfnolnaaDoorKE
import Derived.Test.YtdigcibkfnolnaaDoorAMTy
namespace Go.Proofs.YtdigcibkfnolnaaDoor
def flT : FuncId → Bool := fun f => [38].contains f
abbrev Pkt : Type := Int × Int × Int × Int × Int × Int × Bool × Bool × Int × List Int × Unit
@[reducible] def shPkt : Sh := .cons (.i .u8) (.cons (.i .u8) (.cons (.i .u8) (.cons (.i .u16) (.cons (.i .u8) (.cons (.i .u8) (.cons .b (.cons .b (.cons (.i .u8) (.cons (.ints .u8) .nil)))))))))
end Go.Proofs.YtdigcibkfnolnaaDoor

