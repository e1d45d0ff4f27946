/-
  Plain functions that the code reckons out to, with the proofs.
  Conditions: none.
-/
import Derived.Test.YtpdbekbobkjfgaaDoorL3T
namespace Go.Proofs.YtpdbekbobkjfgaaDoor
set_option linter.unusedVariables false
set_option maxRecDepth 100000

--BEGIN df3
def df3_tab (m : Nat) : List (FuncId × Ent) := []
theorem df3_tabok (m : Nat) : CallOk Tryd.prog (tabK Tryd.prog flT 300 (df3_tab m) 6) := tabK_ok ty_mixed (tabok_nil) 6
def df3_J0 {R : Type} (m : Nat) (x58 : Pkt) (x59 : Pkt) (k0 : Bool → Option R) : Option R :=
  (bif !decide (x58.fst = x59.fst) then k0 (true) else (bif !decide (x58.snd.fst = x59.snd.fst) then k0 (true) else (bif !decide (x58.snd.snd.fst = x59.snd.snd.fst) then k0 (true) else (bif !decide (x58.snd.snd.snd.fst = x59.snd.snd.snd.fst) then k0 (true) else (bif !(decide (x58.snd.snd.snd.snd.fst = x59.snd.snd.snd.snd.fst) && (decide (x58.snd.snd.snd.snd.snd.fst = x59.snd.snd.snd.snd.snd.fst) && (decide (x58.snd.snd.snd.snd.snd.snd.fst = x59.snd.snd.snd.snd.snd.snd.fst) && (decide (x58.snd.snd.snd.snd.snd.snd.snd.fst = x59.snd.snd.snd.snd.snd.snd.snd.fst) && (decide (x58.snd.snd.snd.snd.snd.snd.snd.snd.fst = x59.snd.snd.snd.snd.snd.snd.snd.snd.fst) && true))))) then k0 (true) else k0 (!decide (ByteArray.toList (Go.strOfNums x58.snd.snd.snd.snd.snd.snd.snd.snd.snd.fst) = ByteArray.toList (Go.strOfNums x59.snd.snd.snd.snd.snd.snd.snd.snd.snd.fst))))))))
def df3_J0i := (spat 47 (tcon0 2 (ptrp 18 0) (tcon0 3 (ptrp 19 0) tnil)) (hcons 18 (boxs 29 (.i .u8) (.cons (.i .u8) (.cons (.i .u8) (.cons (.i .u16) (.cons (.i .u8) (.cons (.i .u8) (.cons .b (.cons .b (.cons (.i .u8) (.cons (.ints .u8) .nil)))))))))) (hcons 19 (boxs 29 (.i .u8) (.cons (.i .u8) (.cons (.i .u8) (.cons (.i .u16) (.cons (.i .u8) (.cons (.i .u8) (.cons .b (.cons .b (.cons (.i .u8) (.cons (.ints .u8) .nil)))))))))) hnil)))
def df3_J0o := (one .normal [] (spat 47 (tcons 46 (shp .b) tnil) hnil))
def df3_J0f (m : Nat) : (R : Type) → (Unit × Pkt × Pkt × Unit) → (((Bool × Unit) × Unit) → Option R) → Option R := fun R x K => let x58 := x.2.1; let x59 := x.2.2.1; df3_J0 m x58 x59 (fun d0 => K (((d0, ()), ())))
theorem df3_J0k (m : Nat) : CutOk Tryd.prog _ _ df3_J0i df3_J0o (df3_J0f m) (bodyAt Tryd.prog 17 [true, false, false]) :=
  cut_ok ty_mixed (df3_tabok m) (fl := flT) (N := 300) (t := .leaf) trivial (fun R x K => by kernel_rfl)
def df3_D (m : Nat) (x0 : Pkt) (x1 : Pkt) : Option (Int × Unit) :=
  (df3_J0 m (x0) (x1) (fun d112 => (bif d112 then some (((1 : Int), ())) else some (((0 : Int), ())))))
def df3_con (m : Nat) : Con := ⟨_, _, _, (vcons (shp shPkt) (vcons (shp shPkt) vnil)), bnil, 0, fun _ => rfl, (rfz 0 (shp (.i .i64)) bnil), fun x b => df3_D m x.1 x.2.1⟩
theorem df3_ok (m : Nat) : ConOk Tryd.prog 17 (df3_con m) :=
  con_ok ty_mixed (df3_tabok m) (fl := flT) (N := 300) (t := (.node .leaf (.node (.node (.cut _ _ df3_J0i [] df3_J0o (df3_J0f m) .leaf) .leaf) .leaf))) (tree_of (Eq.mpr (show TreeOk Tryd.prog (.node .leaf (.node (.node (.cut _ _ df3_J0i [] df3_J0o (df3_J0f m) .leaf) .leaf) .leaf)) (bodyAt Tryd.prog 17 []) = (True ∧ (((CutOk Tryd.prog _ _ df3_J0i df3_J0o (df3_J0f m) (bodyAt Tryd.prog 17 [true, false, false]) ∧ True) ∧ True) ∧ True)) by kernel_rfl) ⟨trivial, ⟨⟨⟨df3_J0k m, trivial⟩, trivial⟩, trivial⟩⟩)) (fun x b => by kernel_rfl)
--END df3

end Go.Proofs.YtpdbekbobkjfgaaDoor

