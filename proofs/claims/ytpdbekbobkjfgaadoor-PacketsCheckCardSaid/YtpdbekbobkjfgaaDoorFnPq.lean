/-
  The flags of law 03 where results are own rows: clips stay own rows.
  Conditions: none.
-/
import Derived.Test.YtpdbekbobkjfgaaDoorFnPr
namespace Go.Proofs.YtpdbekbobkjfgaaDoor
end Go.Proofs.YtpdbekbobkjfgaaDoor

