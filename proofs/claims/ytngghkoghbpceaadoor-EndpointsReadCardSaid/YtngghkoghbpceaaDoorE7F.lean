/-
  Flags: slices of an endpoint's own queue stay own.
  Conditions: none.
-/
import Derived.Test.YtngghkoghbpceaaDoorE7a
namespace Go.Proofs.YtngghkoghbpceaaDoor
def fl7r : FuncId → Bool := fun f => [9000015, 9000033].contains f || fl7d f
abbrev EpT : Type := Int × Int × Bool × Int × Int × Bool × Bool × Unit
abbrev KyT : Type := ((Int × Bool × Unit) × (Int × Bool × Unit) × Unit)
abbrev SnT : Type := Int × Int × Int × Int × Int × Int × Bool × Bool × Int × List Int × Bool × Int × Unit
@[reducible] def pTl := (vcons (shp (.i .u8)) (vcons (shp .b) (vcons (shp (.i .u8)) (vcons (shp (.i .i64)) (vcons (shp .b) (vcons (shp .b) vnil))))))
@[reducible] def pKy := (aggp (vcons (shp (.i .u8)) (vcons (shp .b) vnil)))
end Go.Proofs.YtngghkoghbpceaaDoor

