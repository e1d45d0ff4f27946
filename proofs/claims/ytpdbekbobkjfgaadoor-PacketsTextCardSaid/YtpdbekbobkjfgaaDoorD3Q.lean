/-
  Plain laws: the reference's checks, as the code reckons them out, are those of plain arithmetic.
  Conditions: none.
-/
import Derived.Test.YtpdbekbobkjfgaaDoorD3P
namespace Go.Proofs.YtpdbekbobkjfgaaDoor
set_option linter.unusedVariables false
set_option maxRecDepth 100000
set_option maxHeartbeats 1000000

theorem gr1 (n : Nat) (h : n ≤ 1000000000) : growOb 1 n = true := growT (by omega) (by omega)

theorem getD_some {l : List Nat} {i x : Nat} (h : l[i]? = some x) : l.getD i 0 = x := by rw [List.getD_eq_getElem?_getD, h]; rfl
end Go.Proofs.YtpdbekbobkjfgaaDoor

