/-
  Plain functions that the code reckons out to, with the proofs.
  Conditions: none.
-/
import Derived.Test.YtpdbekbobkjfgaaDoorL3T
import Derived.Test.YtpdbekbobkjfgaaDoorFnPr
namespace Go.Proofs.YtpdbekbobkjfgaaDoor
set_option linter.unusedVariables false
set_option maxRecDepth 100000

--BEGIN known
def known_tab (m : Nat) : List (FuncId × Ent) := []
theorem known_tabok (m : Nat) : CallOk Tryd.prog (tabK Tryd.prog flR 300 (known_tab m) 6) := tabK_ok ty_mixed (tabok_nil) 6
def known_J0 {R : Type} (m : Nat) (x89 : Int) (k0 : Bool → Option R) : Option R :=
  (bif decide (x89 = (1 : Int)) then k0 (true) else (bif decide (x89 = (2 : Int)) then k0 (true) else (bif decide (x89 = (3 : Int)) then k0 (true) else (bif decide (x89 = (5 : Int)) then k0 (true) else (bif decide (x89 = (6 : Int)) then k0 (true) else (bif decide (x89 = (8 : Int)) then k0 (true) else (bif decide (x89 = (9 : Int)) then k0 (true) else (bif decide (x89 = (10 : Int)) then k0 (true) else (bif decide (x89 = (11 : Int)) then k0 (true) else (bif decide (x89 = (13 : Int)) then k0 (true) else k0 (decide (x89 = (14 : Int)))))))))))))
def known_J0i := (spat 45 (tcons 0 (shp (.i .u8)) tnil) hnil)
def known_J0o := (one .normal [] (spat 45 (tcons 2 (shp .b) tnil) hnil))
def known_J0f (m : Nat) : (R : Type) → ((Int × Unit) × Unit) → (((Bool × Unit) × Unit) → Option R) → Option R := fun R x K => let x89 := x.1.1; known_J0 m x89 (fun d0 => K (((d0, ()), ())))
theorem known_J0k (m : Nat) : CutOk Tryd.prog _ _ known_J0i known_J0o (known_J0f m) (bodyAt Tryd.prog 23 [true, false]) :=
  cut_ok ty_mixed (known_tabok m) (fl := flR) (N := 300) (t := .leaf) trivial (fun R x K => by kernel_rfl)
def known_D (m : Nat) (x0 : Int) : Option (Bool × Unit) :=
  (known_J0 m (x0) (fun d176 => some ((d176, ()))))
def known_con (m : Nat) : Con := ⟨_, _, _, (vcons (shp (.i .u8)) vnil), bnil, 0, fun _ => rfl, (rfz 0 (shp .b) bnil), fun x b => known_D m x.1⟩
theorem known_ok (m : Nat) : ConOk Tryd.prog 23 (known_con m) :=
  con_ok ty_mixed (known_tabok m) (fl := flR) (N := 300) (t := (.node .leaf (.node (.cut _ _ known_J0i [] known_J0o (known_J0f m) .leaf) .leaf))) (tree_of (Eq.mpr (show TreeOk Tryd.prog (.node .leaf (.node (.cut _ _ known_J0i [] known_J0o (known_J0f m) .leaf) .leaf)) (bodyAt Tryd.prog 23 []) = (True ∧ ((CutOk Tryd.prog _ _ known_J0i known_J0o (known_J0f m) (bodyAt Tryd.prog 23 [true, false]) ∧ True) ∧ True)) by kernel_rfl) ⟨trivial, ⟨⟨known_J0k m, trivial⟩, trivial⟩⟩)) (fun x b => by kernel_rfl)
--END known

--BEGIN token3
def token3_tab (m : Nat) : List (FuncId × Ent) := []
theorem token3_tabok (m : Nat) : CallOk Tryd.prog (tabK Tryd.prog flR 300 (token3_tab m) 6) := tabK_ok ty_mixed (tabok_nil) 6
def token3_J0 {R : Type} (m : Nat) (x13 : Int) (k0 : Bool → Option R) : Option R :=
  (bif decide (x13 = (1 : Int)) then k0 (true) else (bif decide (x13 = (9 : Int)) then k0 (true) else k0 (decide (x13 = (13 : Int)))))
def token3_J0i := (spat 13 (tcons 0 (shp (.i .u8)) tnil) hnil)
def token3_J0o := (one .normal [] (spat 13 (tcons 2 (shp .b) tnil) hnil))
def token3_J0f (m : Nat) : (R : Type) → ((Int × Unit) × Unit) → (((Bool × Unit) × Unit) → Option R) → Option R := fun R x K => let x13 := x.1.1; token3_J0 m x13 (fun d0 => K (((d0, ()), ())))
theorem token3_J0k (m : Nat) : CutOk Tryd.prog _ _ token3_J0i token3_J0o (token3_J0f m) (bodyAt Tryd.prog 24 [true, false]) :=
  cut_ok ty_mixed (token3_tabok m) (fl := flR) (N := 300) (t := .leaf) trivial (fun R x K => by kernel_rfl)
def token3_D (m : Nat) (x0 : Int) : Option (Bool × Unit) :=
  (token3_J0 m (x0) (fun d24 => some ((d24, ()))))
def token3_con (m : Nat) : Con := ⟨_, _, _, (vcons (shp (.i .u8)) vnil), bnil, 0, fun _ => rfl, (rfz 0 (shp .b) bnil), fun x b => token3_D m x.1⟩
theorem token3_ok (m : Nat) : ConOk Tryd.prog 24 (token3_con m) :=
  con_ok ty_mixed (token3_tabok m) (fl := flR) (N := 300) (t := (.node .leaf (.node (.cut _ _ token3_J0i [] token3_J0o (token3_J0f m) .leaf) .leaf))) (tree_of (Eq.mpr (show TreeOk Tryd.prog (.node .leaf (.node (.cut _ _ token3_J0i [] token3_J0o (token3_J0f m) .leaf) .leaf)) (bodyAt Tryd.prog 24 []) = (True ∧ ((CutOk Tryd.prog _ _ token3_J0i token3_J0o (token3_J0f m) (bodyAt Tryd.prog 24 [true, false]) ∧ True) ∧ True)) by kernel_rfl) ⟨trivial, ⟨⟨token3_J0k m, trivial⟩, trivial⟩⟩)) (fun x b => by kernel_rfl)
--END token3

--BEGIN hasData
def hasData_tab (m : Nat) : List (FuncId × Ent) := []
theorem hasData_tabok (m : Nat) : CallOk Tryd.prog (tabK Tryd.prog flR 300 (hasData_tab m) 6) := tabK_ok ty_mixed (tabok_nil) 6
def hasData_J0 {R : Type} (m : Nat) (x8 : Int) (k0 : Bool → Option R) : Option R :=
  (bif decide (x8 = (3 : Int)) then k0 (true) else k0 (decide (x8 = (11 : Int))))
def hasData_J0i := (spat 9 (tcons 0 (shp (.i .u8)) tnil) hnil)
def hasData_J0o := (one .normal [] (spat 9 (tcons 2 (shp .b) tnil) hnil))
def hasData_J0f (m : Nat) : (R : Type) → ((Int × Unit) × Unit) → (((Bool × Unit) × Unit) → Option R) → Option R := fun R x K => let x8 := x.1.1; hasData_J0 m x8 (fun d0 => K (((d0, ()), ())))
theorem hasData_J0k (m : Nat) : CutOk Tryd.prog _ _ hasData_J0i hasData_J0o (hasData_J0f m) (bodyAt Tryd.prog 25 [true, false]) :=
  cut_ok ty_mixed (hasData_tabok m) (fl := flR) (N := 300) (t := .leaf) trivial (fun R x K => by kernel_rfl)
def hasData_D (m : Nat) (x0 : Int) : Option (Bool × Unit) :=
  (hasData_J0 m (x0) (fun d14 => some ((d14, ()))))
def hasData_con (m : Nat) : Con := ⟨_, _, _, (vcons (shp (.i .u8)) vnil), bnil, 0, fun _ => rfl, (rfz 0 (shp .b) bnil), fun x b => hasData_D m x.1⟩
theorem hasData_ok (m : Nat) : ConOk Tryd.prog 25 (hasData_con m) :=
  con_ok ty_mixed (hasData_tabok m) (fl := flR) (N := 300) (t := (.node .leaf (.node (.cut _ _ hasData_J0i [] hasData_J0o (hasData_J0f m) .leaf) .leaf))) (tree_of (Eq.mpr (show TreeOk Tryd.prog (.node .leaf (.node (.cut _ _ hasData_J0i [] hasData_J0o (hasData_J0f m) .leaf) .leaf)) (bodyAt Tryd.prog 25 []) = (True ∧ ((CutOk Tryd.prog _ _ hasData_J0i hasData_J0o (hasData_J0f m) (bodyAt Tryd.prog 25 [true, false]) ∧ True) ∧ True)) by kernel_rfl) ⟨trivial, ⟨⟨hasData_J0k m, trivial⟩, trivial⟩⟩)) (fun x b => by kernel_rfl)
--END hasData

--BEGIN shapeOf
def shapeOf_tab (m : Nat) : List (FuncId × Ent) := []
theorem shapeOf_tabok (m : Nat) : CallOk Tryd.prog (tabK Tryd.prog flR 300 (shapeOf_tab m) 6) := tabK_ok ty_mixed (tabok_nil) 6
def shapeOf_D (m : Nat) (x0 : Int) : Option (Int × Unit) :=
  (bif decide (x0 = (2 : Int)) then some (((1 : Int), ())) else (bif decide (x0 = (10 : Int)) then some (((1 : Int), ())) else (bif decide (x0 = (14 : Int)) then some (((1 : Int), ())) else (bif decide (x0 = (6 : Int)) then some (((1 : Int), ())) else (bif decide (x0 = (1 : Int)) then some (((2 : Int), ())) else (bif decide (x0 = (9 : Int)) then some (((2 : Int), ())) else (bif decide (x0 = (13 : Int)) then some (((2 : Int), ())) else (bif decide (x0 = (5 : Int)) then some (((3 : Int), ())) else (bif decide (x0 = (8 : Int)) then some (((4 : Int), ())) else (bif decide (x0 = (3 : Int)) then some (((5 : Int), ())) else (bif decide (x0 = (11 : Int)) then some (((5 : Int), ())) else some (((0 : Int), ())))))))))))))
def shapeOf_con (m : Nat) : Con := ⟨_, _, _, (vcons (shp (.i .u8)) vnil), bnil, 0, fun _ => rfl, (rfz 0 (shp (.i .u8)) bnil), fun x b => shapeOf_D m x.1⟩
theorem shapeOf_ok (m : Nat) : ConOk Tryd.prog 26 (shapeOf_con m) :=
  con_ok ty_mixed (shapeOf_tabok m) (fl := flR) (N := 300) (t := .leaf) (tree_of trivial) (fun x b => by kernel_rfl)
--END shapeOf

--BEGIN one3
def one3_tab (m : Nat) : List (FuncId × Ent) := []
theorem one3_tabok (m : Nat) : CallOk Tryd.prog (tabK Tryd.prog flR 300 (one3_tab m) 6) := tabK_ok ty_mixed (tabok_nil) 6
def one3_D (m : Nat) (x0 : Bool) : Option (Int × Unit) :=
  (bif x0 then some (((1 : Int), ())) else some (((0 : Int), ())))
def one3_con (m : Nat) : Con := ⟨_, _, _, (vcons (shp .b) vnil), bnil, 0, fun _ => rfl, (rfz 0 (shp (.i .u32)) bnil), fun x b => one3_D m x.1⟩
theorem one3_ok (m : Nat) : ConOk Tryd.prog 63 (one3_con m) :=
  con_ok ty_mixed (one3_tabok m) (fl := flR) (N := 300) (t := .leaf) (tree_of trivial) (fun x b => by kernel_rfl)
--END one3

--BEGIN first
def first_tab (m : Nat) : List (FuncId × Ent) := []
theorem first_tabok (m : Nat) : CallOk Tryd.prog (tabK Tryd.prog flR 300 (first_tab m) 6) := tabK_ok ty_mixed (tabok_nil) 6
def first_D (m : Nat) (x0 : Int) : Option (Int × Unit) :=
  some ((Go.bits .or .u8 x0 (Go.IntKind.wrap .u8 (Go.IntKind.wrap .u8 ((15 : Int) - x0) * (2 : Int) ^ Min.min (Int.toNat (4 : Int)) (Go.IntKind.bits .u8))), ()))
def first_con (m : Nat) : Con := ⟨_, _, _, (vcons (shp (.i .u8)) vnil), bnil, 0, fun _ => rfl, (rfz 0 (shp (.i .u8)) bnil), fun x b => first_D m x.1⟩
theorem first_ok (m : Nat) : ConOk Tryd.prog 27 (first_con m) :=
  con_ok ty_mixed (first_tabok m) (fl := flR) (N := 300) (t := .leaf) (tree_of trivial) (fun x b => by kernel_rfl)
--END first

--BEGIN rfCheck
def rfCheck_tab (m : Nat) : List (FuncId × Ent) := [(23, .con (known_con m)), (24, .con (token3_con m)), (25, .con (hasData_con m))]
theorem rfCheck_tabok (m : Nat) : CallOk Tryd.prog (tabK Tryd.prog flR 300 (rfCheck_tab m) 6) := tabK_ok ty_mixed ((tabok_con (known_ok m) (tabok_con (token3_ok m) (tabok_con (hasData_ok m) tabok_nil)))) 6
def rfCheck_J0 {R : Type} (m : Nat) (x48 : Pkt) (k0 : Bool → Option R) : Option R :=
  (bnd (token3_D m x48.fst) fun y52 => (bif !y52.fst then (bif !decide (x48.snd.fst = (0 : Int)) then k0 (true) else (bif !decide (x48.snd.snd.fst = (0 : Int)) then k0 (true) else (bif decide ((127 : Int) < x48.snd.fst) then k0 (true) else k0 (decide ((15 : Int) < x48.snd.snd.fst))))) else (bif decide ((127 : Int) < x48.snd.fst) then k0 (true) else k0 (decide ((15 : Int) < x48.snd.snd.fst)))))
def rfCheck_J0i := (spat 102 (tcon0 1 (ptrp 17 0) tnil) (hcons 17 (boxs 29 (.i .u8) (.cons (.i .u8) (.cons (.i .u8) (.cons (.i .u16) (.cons (.i .u8) (.cons (.i .u8) (.cons .b (.cons .b (.cons (.i .u8) (.cons (.ints .u8) .nil)))))))))) hnil))
def rfCheck_J0o := (one .normal [] (spat 102 (tcon0 1 (ptrp 17 0) (tcons 31 (shp .b) tnil)) (hcons 17 (boxs 29 (.i .u8) (.cons (.i .u8) (.cons (.i .u8) (.cons (.i .u16) (.cons (.i .u8) (.cons (.i .u8) (.cons .b (.cons .b (.cons (.i .u8) (.cons (.ints .u8) .nil)))))))))) hnil)))
def rfCheck_J0f (m : Nat) : (R : Type) → (Unit × Pkt × Unit) → (((Bool × Unit) × Pkt × Unit) → Option R) → Option R := fun R x K => let x48 := x.2.1; rfCheck_J0 m x48 (fun d0 => K (((d0, ()), ((x48), ()))))
theorem rfCheck_J0k (m : Nat) : CutOk Tryd.prog _ _ rfCheck_J0i rfCheck_J0o (rfCheck_J0f m) (bodyAt Tryd.prog 9 [true, true, false, false]) :=
  cut_ok ty_mixed (rfCheck_tabok m) (fl := flR) (N := 300) (t := .leaf) trivial (fun R x K => by kernel_rfl)
def rfCheck_J1 {R : Type} (m : Nat) (x108 : Pkt) (k0 : Bool → Option R) : Option R :=
  (bif !decide (x108.fst = (5 : Int)) then (bif !decide (x108.snd.snd.snd.fst = (0 : Int)) then k0 (true) else k0 (decide ((2047 : Int) < x108.snd.snd.snd.fst))) else k0 (decide ((2047 : Int) < x108.snd.snd.snd.fst)))
def rfCheck_J1i := (spat 102 (tcon0 1 (ptrp 17 0) tnil) (hcons 17 (boxs 29 (.i .u8) (.cons (.i .u8) (.cons (.i .u8) (.cons (.i .u16) (.cons (.i .u8) (.cons (.i .u8) (.cons .b (.cons .b (.cons (.i .u8) (.cons (.ints .u8) .nil)))))))))) hnil))
def rfCheck_J1o := (one .normal [] (spat 102 (tcon0 1 (ptrp 17 0) (tcons 44 (shp .b) tnil)) (hcons 17 (boxs 29 (.i .u8) (.cons (.i .u8) (.cons (.i .u8) (.cons (.i .u16) (.cons (.i .u8) (.cons (.i .u8) (.cons .b (.cons .b (.cons (.i .u8) (.cons (.ints .u8) .nil)))))))))) hnil)))
def rfCheck_J1f (m : Nat) : (R : Type) → (Unit × Pkt × Unit) → (((Bool × Unit) × Pkt × Unit) → Option R) → Option R := fun R x K => let x108 := x.2.1; rfCheck_J1 m x108 (fun d0 => K (((d0, ()), ((x108), ()))))
theorem rfCheck_J1k (m : Nat) : CutOk Tryd.prog _ _ rfCheck_J1i rfCheck_J1o (rfCheck_J1f m) (bodyAt Tryd.prog 9 [true, true, true, false, false]) :=
  cut_ok ty_mixed (rfCheck_tabok m) (fl := flR) (N := 300) (t := .leaf) trivial (fun R x K => by kernel_rfl)
def rfCheck_J2 {R : Type} (m : Nat) (x215 : Pkt) (x216 : Int × Int × Bool × Bool × Int × Unit) (k0 : Bool → Option R) : Option R :=
  (bif !decide (x215.fst = (8 : Int)) then (bif !decide (x216.fst = (0 : Int)) then k0 (true) else (bif !decide (x216.snd.fst = (0 : Int)) then k0 (true) else (bif x216.snd.snd.fst then k0 (true) else (bif x216.snd.snd.snd.fst then k0 (true) else (bif !decide (x216.snd.snd.snd.snd.fst = (0 : Int)) then k0 (true) else (bif decide ((127 : Int) < x216.fst) then k0 (true) else (bif decide ((127 : Int) < x216.snd.fst) then k0 (true) else k0 (decide ((3 : Int) < x216.snd.snd.snd.snd.fst))))))))) else (bif decide ((127 : Int) < x216.fst) then k0 (true) else (bif decide ((127 : Int) < x216.snd.fst) then k0 (true) else k0 (decide ((3 : Int) < x216.snd.snd.snd.snd.fst)))))
def rfCheck_J2i := (spat 102 (tcon0 1 (ptrp 17 0) (tcon0 3 (ptrp 19 0) tnil)) (hcons 17 (boxs 29 (.i .u8) (.cons (.i .u8) (.cons (.i .u8) (.cons (.i .u16) (.cons (.i .u8) (.cons (.i .u8) (.cons .b (.cons .b (.cons (.i .u8) (.cons (.ints .u8) .nil)))))))))) (hcons 19 (boxs 26 (.i .u8) (.cons (.i .u8) (.cons .b (.cons .b (.cons (.i .u8) .nil))))) hnil)))
def rfCheck_J2o := (one .normal [] (spat 102 (tcon0 1 (ptrp 17 0) (tcons 87 (shp .b) tnil)) (hcons 17 (boxs 29 (.i .u8) (.cons (.i .u8) (.cons (.i .u8) (.cons (.i .u16) (.cons (.i .u8) (.cons (.i .u8) (.cons .b (.cons .b (.cons (.i .u8) (.cons (.ints .u8) .nil)))))))))) hnil)))
def rfCheck_J2f (m : Nat) : (R : Type) → (Unit × Pkt × (Int × Int × Bool × Bool × Int × Unit) × Unit) → (((Bool × Unit) × Pkt × Unit) → Option R) → Option R := fun R x K => let x215 := x.2.1; let x216 := x.2.2.1; rfCheck_J2 m x215 x216 (fun d0 => K (((d0, ()), ((x215), ()))))
theorem rfCheck_J2k (m : Nat) : CutOk Tryd.prog _ _ rfCheck_J2i rfCheck_J2o (rfCheck_J2f m) (bodyAt Tryd.prog 9 [true, true, true, true, true, false, false]) :=
  cut_ok ty_mixed (rfCheck_tabok m) (fl := flR) (N := 300) (t := .leaf) trivial (fun R x K => by kernel_rfl)
def rfCheck_J3 {R : Type} (m : Nat) (x313 : Pkt) (k0 : Bool → Option R) : Option R :=
  (bnd (hasData_D m x313.fst) fun y317 => (bif !y317.fst then k0 (!decide ((↑(List.length x313.snd.snd.snd.snd.snd.snd.snd.snd.snd.fst) : Int) = (0 : Int))) else k0 (false)))
def rfCheck_J3i := (spat 102 (tcon0 1 (ptrp 17 0) tnil) (hcons 17 (boxs 29 (.i .u8) (.cons (.i .u8) (.cons (.i .u8) (.cons (.i .u16) (.cons (.i .u8) (.cons (.i .u8) (.cons .b (.cons .b (.cons (.i .u8) (.cons (.ints .u8) .nil)))))))))) hnil))
def rfCheck_J3o := (one .normal [] (spat 102 (tcon0 1 (ptrp 17 0) (tcons 97 (shp .b) tnil)) (hcons 17 (boxs 29 (.i .u8) (.cons (.i .u8) (.cons (.i .u8) (.cons (.i .u16) (.cons (.i .u8) (.cons (.i .u8) (.cons .b (.cons .b (.cons (.i .u8) (.cons (.ints .u8) .nil)))))))))) hnil)))
def rfCheck_J3f (m : Nat) : (R : Type) → (Unit × Pkt × Unit) → (((Bool × Unit) × Pkt × Unit) → Option R) → Option R := fun R x K => let x313 := x.2.1; rfCheck_J3 m x313 (fun d0 => K (((d0, ()), ((x313), ()))))
theorem rfCheck_J3k (m : Nat) : CutOk Tryd.prog _ _ rfCheck_J3i rfCheck_J3o (rfCheck_J3f m) (bodyAt Tryd.prog 9 [true, true, true, true, true, true, false, false]) :=
  cut_ok ty_mixed (rfCheck_tabok m) (fl := flR) (N := 300) (t := .leaf) trivial (fun R x K => by kernel_rfl)
def rfCheck_D (m : Nat) (x0 : Pkt) : Option (Int × Unit) :=
  (bnd (known_D m x0.fst) fun y7 => (bif !y7.fst then some (((1 : Int), ())) else (rfCheck_J0 m (x0) (fun d87 => (bif d87 then some (((1 : Int), ())) else (rfCheck_J1 m (x0) (fun d126 => (bif d126 then some (((1 : Int), ())) else (rfCheck_J2 m (x0) ((x0.snd.snd.snd.snd.fst, x0.snd.snd.snd.snd.snd.fst, x0.snd.snd.snd.snd.snd.snd.fst, x0.snd.snd.snd.snd.snd.snd.snd.fst, x0.snd.snd.snd.snd.snd.snd.snd.snd.fst, ())) (fun d298 => (bif d298 then some (((1 : Int), ())) else (rfCheck_J3 m (x0) (fun d325 => (bif d325 then some (((1 : Int), ())) else (bif decide ((1024 : Int) < (↑(List.length x0.snd.snd.snd.snd.snd.snd.snd.snd.snd.fst) : Int)) then some (((3 : Int), ())) else some (((0 : Int), ())))))))))))))))))
def rfCheck_con (m : Nat) : Con := ⟨_, _, _, (vcons (shp shPkt) vnil), bnil, 0, fun _ => rfl, (rfz 0 (shp (.i .i64)) bnil), fun x b => rfCheck_D m x.1⟩
theorem rfCheck_ok (m : Nat) : ConOk Tryd.prog 9 (rfCheck_con m) :=
  con_ok ty_mixed (rfCheck_tabok m) (fl := flR) (N := 300) (t := (.node .leaf (.node .leaf (.node (.node (.cut _ _ rfCheck_J0i [] rfCheck_J0o (rfCheck_J0f m) .leaf) .leaf) (.node (.node (.cut _ _ rfCheck_J1i [] rfCheck_J1o (rfCheck_J1f m) .leaf) .leaf) (.node .leaf (.node (.node (.cut _ _ rfCheck_J2i [] rfCheck_J2o (rfCheck_J2f m) .leaf) .leaf) (.node (.node (.cut _ _ rfCheck_J3i [] rfCheck_J3o (rfCheck_J3f m) .leaf) .leaf) .leaf)))))))) (tree_of (Eq.mpr (show TreeOk Tryd.prog (.node .leaf (.node .leaf (.node (.node (.cut _ _ rfCheck_J0i [] rfCheck_J0o (rfCheck_J0f m) .leaf) .leaf) (.node (.node (.cut _ _ rfCheck_J1i [] rfCheck_J1o (rfCheck_J1f m) .leaf) .leaf) (.node .leaf (.node (.node (.cut _ _ rfCheck_J2i [] rfCheck_J2o (rfCheck_J2f m) .leaf) .leaf) (.node (.node (.cut _ _ rfCheck_J3i [] rfCheck_J3o (rfCheck_J3f m) .leaf) .leaf) .leaf))))))) (bodyAt Tryd.prog 9 []) = (True ∧ (True ∧ (((CutOk Tryd.prog _ _ rfCheck_J0i rfCheck_J0o (rfCheck_J0f m) (bodyAt Tryd.prog 9 [true, true, false, false]) ∧ True) ∧ True) ∧ (((CutOk Tryd.prog _ _ rfCheck_J1i rfCheck_J1o (rfCheck_J1f m) (bodyAt Tryd.prog 9 [true, true, true, false, false]) ∧ True) ∧ True) ∧ (True ∧ (((CutOk Tryd.prog _ _ rfCheck_J2i rfCheck_J2o (rfCheck_J2f m) (bodyAt Tryd.prog 9 [true, true, true, true, true, false, false]) ∧ True) ∧ True) ∧ (((CutOk Tryd.prog _ _ rfCheck_J3i rfCheck_J3o (rfCheck_J3f m) (bodyAt Tryd.prog 9 [true, true, true, true, true, true, false, false]) ∧ True) ∧ True) ∧ True))))))) by kernel_rfl) ⟨trivial, ⟨trivial, ⟨⟨⟨rfCheck_J0k m, trivial⟩, trivial⟩, ⟨⟨⟨rfCheck_J1k m, trivial⟩, trivial⟩, ⟨trivial, ⟨⟨⟨rfCheck_J2k m, trivial⟩, trivial⟩, ⟨⟨⟨rfCheck_J3k m, trivial⟩, trivial⟩, trivial⟩⟩⟩⟩⟩⟩⟩)) (fun x b => by kernel_rfl)
--END rfCheck

end Go.Proofs.YtpdbekbobkjfgaaDoor

