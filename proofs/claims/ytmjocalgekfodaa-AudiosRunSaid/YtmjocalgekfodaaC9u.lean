/-
  The loops over functions of audios.Simulate and bulks.Cut: their rounds, and what the loops come to.
  Conditions: none.
-/
import Derived.Test.YtmjocalgekfodaaC9s
import Derived.Test.YtmjocalgekfodaaRF9
namespace Go.Proofs.Ytmjocalgekfodaa
open Go.RowKit
set_option linter.unusedVariables false
set_option linter.unusedSimpArgs false
set_option maxRecDepth 100000

def simB_tab (m : Nat) : List (FuncId × Ent) := []
theorem simB_tabok (m : Nat) : CallOk Try.prog (tabK Try.prog flT 300 (simB_tab m) 6) := tabK_ok ty_mixed (tabok_nil) 6
def simB_J1 {R : Type} (m : Nat) (x248 : Int) (x249 : Int) (x250 : Bool) (x251 : Bool) (x252 : Int) (x253 : Int) (x254 : Int) (x255 : Int) (x256 : List Int) (x257 : List Int) (k0 : (Int) → (Int) → Option R) : Option R :=
  (bif growOb (8 : Nat) (List.length x257 + List.length [x248]) && decide ((55 : Nat) < nat_lit 77) then (bif growOb (8 : Nat) (List.length x256 + List.length [x249]) && decide ((61 : Nat) < nat_lit 77) then (bif x250 then (bif x251 then k0 (Go.IntKind.wrap Go.IntKind.i64 (x254 + (1 : Int))) (Go.IntKind.wrap Go.IntKind.i64 (x255 + (1 : Int))) else k0 (x254) (Go.IntKind.wrap Go.IntKind.i64 (x255 + (1 : Int)))) else (bif x251 then k0 (Go.IntKind.wrap Go.IntKind.i64 (x254 + (1 : Int))) (x255) else k0 (x254) (x255))) else none) else none)

def V00 : Value := .func (.yield 0) #[] #[]


def sq1 : Code → Code
  | .seq a _ => a
  | c => c
def sq2 : Code → Code
  | .seq _ b => b
  | c => c
end Go.Proofs.Ytmjocalgekfodaa

