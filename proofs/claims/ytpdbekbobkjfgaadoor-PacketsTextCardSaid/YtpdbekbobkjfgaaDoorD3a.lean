/-
  Plain functions that the code reckons out to, with the proofs.
  Conditions: none.
-/
import Derived.Test.YtpdbekbobkjfgaaDoorL3T
import Derived.Test.YtpdbekbobkjfgaaDoorFnPd
namespace Go.Proofs.YtpdbekbobkjfgaaDoor
set_option linter.unusedVariables false
set_option maxRecDepth 100000

--BEGIN step8
def step8_D (m : Nat) (x0 : Int) (x1 : Int) (x2 : Int) : Option (Int × Unit) :=
  (bif decide (Go.bits .and .u8 (Go.bits .xor .u8 x0 x2) (1 : Int) = (1 : Int)) then some ((Go.bits .xor .u8 (Int.fdiv x0 ((2 : Int) ^ Min.min (Int.toNat (1 : Int)) (Go.IntKind.bits .u8))) x1, ())) else some ((Int.fdiv x0 ((2 : Int) ^ Min.min (Int.toNat (1 : Int)) (Go.IntKind.bits .u8)), ())))
--END step8

--BEGIN fits
def fits_J0 {R : Type} (m : Nat) (x16 : Int) (x17 : Int) (x18 : Int) (k0 : Bool → Option R) : Option R :=
  (bif decide ((0 : Int) ≤ x17) then (bif decide (x17 ≤ x18) then (bif decide ((0 : Int) ≤ x17) then k0 (decide (Int.fdiv x16 ((2 : Int) ^ Min.min (Int.toNat x17) (Go.IntKind.bits .u32)) = (0 : Int))) else none) else k0 (false)) else k0 (false))
def fits_D (m : Nat) (x0 : Int) (x1 : Int) (x2 : Int) : Option (Bool × Unit) :=
  (fits_J0 m (x0) (x1) (x2) (fun d30 => some ((d30, ()))))
--END fits

--BEGIN ckbits
def ckbits_L0 (m : Nat) : Nat → Int → Int → Int → Int → Option (Unit × (Int × Unit) × Unit)
  | 0, _, _, _, _ => none
  | n + 1, x116, x117, x118, x119 => (bif decide (x118 < x117) then (bif decide ((0 : Int) ≤ x118) then (bnd (step8_D m x119 (20 : Int) (Go.IntKind.wrap .u8 (Go.bits .and .u32 (Int.fdiv x116 ((2 : Int) ^ Min.min (Int.toNat x118) (Go.IntKind.bits .u32))) (1 : Int)))) fun y125 => ckbits_L0 m n (x116) (x117) (Go.IntKind.wrap .i64 (x118 + (1 : Int))) (y125.fst)) else none) else some ((), ((x119, ()), ())))
def ckbits_D (m : Nat) (x0 : Int) (x1 : Int) (x2 : Int) : Option (Unit × (Int × Unit) × Unit) :=
  (bnd (ckbits_L0 m m (x0) (x1) ((0 : Int)) (x2)) fun y127 => some (((), y127.snd)))
--END ckbits

--BEGIN five
def five_D (m : Nat) (x0 : Int) (x1 : Int) : Option (Int × Unit) :=
  (bnd (ckbits_D m x0 x1 (31 : Int)) fun y8 => some ((Go.bits .xor .u8 y8.snd.fst.fst (31 : Int), ())))
--END five

--BEGIN part
--END part

--BEGIN sixteen
--END sixteen

--BEGIN ckcheck
--END ckcheck

end Go.Proofs.YtpdbekbobkjfgaaDoor

