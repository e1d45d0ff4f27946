/-
  The loops over functions of audios.Simulate and bulks.Cut: their rounds, and what the loops come to.
  Conditions: none.
-/
import Derived.Test.YtmjocalgekfodaaC9s
import Derived.Test.YtmjocalgekfodaaRF9
namespace Go.Proofs.Ytmjocalgekfodaa
open Go.RowKit
set_option linter.unusedVariables false
set_option linter.unusedSimpArgs false
set_option maxRecDepth 100000

def simB_tab (m : Nat) : List (FuncId × Ent) := []
theorem simB_tabok (m : Nat) : CallOk Try.prog (tabK Try.prog flT 300 (simB_tab m) 6) := tabK_ok ty_mixed (tabok_nil) 6
def simB_J1 {R : Type} (m : Nat) (x248 : Int) (x249 : Int) (x250 : Bool) (x251 : Bool) (x252 : Int) (x253 : Int) (x254 : Int) (x255 : Int) (x256 : List Int) (x257 : List Int) (k0 : (Int) → (Int) → Option R) : Option R :=
  (bif growOb (8 : Nat) (List.length x257 + List.length [x248]) && decide ((55 : Nat) < nat_lit 77) then (bif growOb (8 : Nat) (List.length x256 + List.length [x249]) && decide ((61 : Nat) < nat_lit 77) then (bif x250 then (bif x251 then k0 (Go.IntKind.wrap Go.IntKind.i64 (x254 + (1 : Int))) (Go.IntKind.wrap Go.IntKind.i64 (x255 + (1 : Int))) else k0 (x254) (Go.IntKind.wrap Go.IntKind.i64 (x255 + (1 : Int)))) else (bif x251 then k0 (Go.IntKind.wrap Go.IntKind.i64 (x254 + (1 : Int))) (x255) else k0 (x254) (x255))) else none) else none)
def simB_J1i := (spat 77 (tcon0 6 (ptrp 0 0) (tcon0 10 (ptrp 1 0) (tcons 48 (aggp (vcons (shp (.i .i64)) (vcons (shp (.i .i64)) vnil))) (tcons 49 (aggp (vcons (shp .b) (vcons (shp .b) vnil))) tnil)))) (hcons 0 (boxp 40 (vcon0 (datp (.v (.slice none 0 0))) (vcon0 (datp (.v (.slice none 0 0))) (vcons (shp (.i .i64)) (vcons (shp (.i .i64)) vnil))))) (hcons 1 (boxp 40 (vcon0 (ownp 2) (vcon0 (ownp 3) (vcons (shp (.i .i64)) (vcons (shp (.i .i64)) vnil))))) (hcons 2 (intsp 3 .i64) (hcons 3 (intsp 3 .i64) hnil)))))
def simB_J1o := (one .normal [] (spat 77 (tcon0 6 (ptrp 0 0) (tcon0 10 (ptrp 1 0) tnil)) (hcons 0 (boxp 40 (vcon0 (datp (.v (.slice none 0 0))) (vcon0 (datp (.v (.slice none 0 0))) (vcons (shp (.i .i64)) (vcons (shp (.i .i64)) vnil))))) (hcons 1 (boxp 40 (vcon0 (ownp 2) (vcon0 (ownp 3) (vcons (shp (.i .i64)) (vcons (shp (.i .i64)) vnil))))) (hcons 2 (intsp 3 .i64) (hcons 3 (intsp 3 .i64) hnil))))))
def simB_J1f (m : Nat) : (R : Type) → (((Int × Int × Unit) × (Bool × Bool × Unit) × Unit) × (Int × Int × Unit) × (Int × Int × Unit) × List Int × List Int × Unit) → ((Unit × (Int × Int × Unit) × (Int × Int × Unit) × List Int × List Int × Unit) → Option R) → Option R := fun R x K => let x248 := x.1.1.1; let x249 := x.1.1.2.1; let x250 := x.1.2.1.1; let x251 := x.1.2.1.2.1; let x252 := x.2.1.1; let x253 := x.2.1.2.1; let x254 := x.2.2.1.1; let x255 := x.2.2.1.2.1; let x256 := x.2.2.2.1; let x257 := x.2.2.2.2.1; simB_J1 m x248 x249 x250 x251 x252 x253 x254 x255 x256 x257 (fun d0 d1 => K (((), (((x252), ((x253), ())), ((d0, (d1, ())), ((x256 ++ [x249]), ((x257 ++ [x248]), ())))))))

def V00 : Value := .func (.yield 0) #[] #[]


def sq1 : Code → Code
  | .seq a _ => a
  | c => c
def sq2 : Code → Code
  | .seq _ b => b
  | c => c
end Go.Proofs.Ytmjocalgekfodaa

