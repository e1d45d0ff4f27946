/-
  Check sequences, in plain arithmetic: the register that shifts, the reference's list of bits, and what errors it finds.
-/
set_option linter.unusedVariables false
namespace Go.Proofs.YtpdbekbobkjfgaaDoor.Chk

def stp (P r b : Nat) : Nat := if (r ^^^ b) % 2 = 1 then (r >>> 1) ^^^ P else r >>> 1
def T (P r : Nat) : Nat := if r % 2 = 1 then (r >>> 1) ^^^ P else r >>> 1
def bitsN (v n : Nat) : List Nat := (List.range n).map fun i => v / 2 ^ i % 2
def run (P r : Nat) (l : List Nat) : Nat := l.foldl (stp P) r




















def z5 (c n : Nat) : Nat := run 20 0 (bitsN c n)








end Go.Proofs.YtpdbekbobkjfgaaDoor.Chk

