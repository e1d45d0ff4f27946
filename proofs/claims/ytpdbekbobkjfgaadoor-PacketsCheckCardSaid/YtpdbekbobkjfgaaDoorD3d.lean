/-
  The reference's Decimal, which calls itself: what it returns, and that the code does so.
  Conditions: none.
-/
import Derived.Test.YtpdbekbobkjfgaaDoorFnPd
namespace Go.Proofs.YtpdbekbobkjfgaaDoor
set_option linter.unusedVariables false
set_option maxRecDepth 100000

def dec_D : Nat → Int → Option (ByteArray × Unit)
  | 0, _ => none
  | m + 1, x0 => (bif decide (x0 < (10 : Int)) then (bif decide ((0 : Int) ≤ x0) && (decide (x0 ≤ Go.IntKind.wrap .i64 (x0 + (1 : Int))) && decide (Int.toNat (Go.IntKind.wrap .i64 (x0 + (1 : Int))) ≤ ByteArray.size (⟨⟨[48, 49, 50, 51, 52, 53, 54, 55, 56, 57]⟩⟩ : ByteArray))) then some ((ByteArray.extract (⟨⟨[48, 49, 50, 51, 52, 53, 54, 55, 56, 57]⟩⟩ : ByteArray) (Int.toNat x0) (Int.toNat (Go.IntKind.wrap .i64 (x0 + (1 : Int)))), ())) else none) else (bnd (dec_D m (Go.IntKind.wrap .i64 (Int.tdiv x0 (10 : Int)))) fun y8 => (bnd (dec_D m (Int.tmod x0 (10 : Int))) fun y11 => (bif !decide ((↑(ByteArray.size y8.fst + ByteArray.size y11.fst) : Int) > Go.IntKind.max Go.IntKind.i64) then some ((y8.fst ++ y11.fst, ())) else none))))
end Go.Proofs.YtpdbekbobkjfgaaDoor

