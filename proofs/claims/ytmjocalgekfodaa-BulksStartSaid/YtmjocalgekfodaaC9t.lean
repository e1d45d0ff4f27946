/-
  Plain functions that the code reckons out to, with the proofs.
  Conditions: none.
-/
import Derived.Test.YtmjocalgekfodaaFnP9
import Derived.Test.YtmjocalgekfodaaRF9
import Derived.Test.YtmjocalgekfodaaC9u
namespace Go.Proofs.Ytmjocalgekfodaa
set_option linter.unusedVariables false
set_option maxRecDepth 100000

--BEGIN bcut
def bcut_tab (m : Nat) : List (FuncId × Ent) := []
theorem bcut_tabok (m : Nat) : CallOk Try.prog (tabK Try.prog flT 300 (bcut_tab m) 6) := tabK_ok ty_mixed (tabok_nil) 6
def bcut_J0 {R : Type} (m : Nat) (x11 : List Int) (x12 : Int) (x13 : Bool) (k0 : Bool → Option R) : Option R :=
  (bif decide (x12 < (1 : Int)) then k0 (true) else k0 (decide ((1024 : Int) < x12)))
def bcut_J0i := (spat 38 (tcons 0 (shp (.ints .u8)) (tcons 1 (shp (.i .i64)) (tcons 2 (shp .b) tnil))) hnil)
def bcut_J0o := (one .normal [] (spat 38 (tcons 0 (shp (.ints .u8)) (tcons 1 (shp (.i .i64)) (tcons 2 (shp .b) (tcons 15 (shp .b) tnil)))) hnil))
def bcut_J0f (m : Nat) : (R : Type) → ((List Int × Int × Bool × Unit) × Unit) → (((List Int × Int × Bool × Bool × Unit) × Unit) → Option R) → Option R := fun R x K => let x11 := x.1.1; let x12 := x.1.2.1; let x13 := x.1.2.2.1; bcut_J0 m x11 x12 x13 (fun d0 => K ((((x11), ((x12), ((x13), (d0, ())))), ())))
theorem bcut_J0k (m : Nat) : CutOk Try.prog _ _ bcut_J0i bcut_J0o (bcut_J0f m) (bodyAt Try.prog 23 [true, false, false]) :=
  cut_ok ty_mixed (bcut_tabok m) (fl := flT) (N := 300) (t := .leaf) trivial (fun R x K => by kernel_rfl)
def bcut_D (m : Nat) (x0 : List Int) (x1 : Int) (x2 : Bool) : Option ((List (List Int) × Int × Unit) × Unit) :=
  (bcut_J0 m (x0) (x1) (x2) (fun d19 => (bif d19 then some ((([], (1 : Int), ()), ())) else (bif !decide (x1 = (0 : Int)) then (bif makeOb (24 : Nat) (0 : Int) (Go.IntKind.wrap .i64 (Go.IntKind.wrap .i64 (Int.tdiv (↑(List.length x0) : Int) x1) + (2 : Int))) (decide ((1 : Nat) = (1 : Nat))) then (bcutRF m (x0) (x1) (x2) (List.replicate (Int.toNat (0 : Int)) []) (fun d36 => (bif decide ((0 : Int) ≤ (↑(List.length d36) : Int)) && (decide ((↑(List.length d36) : Int) ≤ (↑(List.length d36) : Int)) && decide (Int.toNat (↑(List.length d36) : Int) ≤ List.length d36)) then some (((List.take (Int.toNat (↑(List.length d36) : Int)) d36, (0 : Int), ()), ())) else none))) else none) else none))))
def bcut_con (m : Nat) : Con := ⟨_, _, _, (vcons (shp (.ints .u8)) (vcons (shp (.i .i64)) (vcons (shp .b) vnil))), bnil, 0, fun _ => rfl, (rfz 0 (tupp (vcons (shp (.row (.ints .u8))) (vcons (shp (.i .i64)) vnil))) bnil), fun x b => bcut_D m x.1 x.2.1 x.2.2.1⟩
theorem bcut_ok (m : Nat) : ConOk Try.prog 23 (bcut_con m) :=
  con_ok ty_mixed (bcut_tabok m) (fl := flT) (N := 300) (t := (.node .leaf (.node (.node (.cut _ _ bcut_J0i [] bcut_J0o (bcut_J0f m) .leaf) .leaf) (.node .leaf (.node (.cut _ _ bcutRFi [] bcutRFo (bcutRFf m) .leaf) .leaf))))) (tree_of (Eq.mpr (show TreeOk Try.prog (.node .leaf (.node (.node (.cut _ _ bcut_J0i [] bcut_J0o (bcut_J0f m) .leaf) .leaf) (.node .leaf (.node (.cut _ _ bcutRFi [] bcutRFo (bcutRFf m) .leaf) .leaf)))) (bodyAt Try.prog 23 []) = (True ∧ (((CutOk Try.prog _ _ bcut_J0i bcut_J0o (bcut_J0f m) (bodyAt Try.prog 23 [true, false, false]) ∧ True) ∧ True) ∧ (True ∧ ((CutOk Try.prog _ _ bcutRFi bcutRFo (bcutRFf m) (bodyAt Try.prog 23 [true, true, true, false]) ∧ True) ∧ True)))) by kernel_rfl) ⟨trivial, ⟨⟨⟨bcut_J0k m, trivial⟩, trivial⟩, ⟨trivial, ⟨⟨bcutRFk m, trivial⟩, trivial⟩⟩⟩⟩)) (fun x b => by kernel_rfl)
--END bcut

--BEGIN lst9
def lst9_tab (m : Nat) : List (FuncId × Ent) := []
theorem lst9_tabok (m : Nat) : CallOk Try.prog (tabK Try.prog flT 300 (lst9_tab m) 6) := tabK_ok ty_mixed (tabok_nil) 6
def lst9_L0 (m : Nat) : Nat → (List (List Int)) → (List (List Int)) → Int → Option ((Int × Unit) × Unit ⊕ Unit × Unit)
  | 0, _, _, _ => none
  | n + 1, x127, x128, x129 => (bif decide (x129 < (↑(List.length x127) : Int)) then (bif inB x129 (List.length x127) then (bif inB x129 (List.length x128) then (bif !decide (ByteArray.toList (Go.strOfNums (List.getD x127 (Int.toNat x129) [])) = ByteArray.toList (Go.strOfNums (List.getD x128 (Int.toNat x129) []))) then some (Sum.inl (((1 : Int), ()), ())) else lst9_L0 m n (x127) (x128) (Go.IntKind.wrap .i64 (x129 + (1 : Int)))) else none) else none) else some (Sum.inr ((), ())))
def lst9_L0i := (spat 28 (tcons 0 (shp (.row (.ints .u8))) (tcons 1 (shp (.row (.ints .u8))) (tcons 5 (shp (.i .i64)) tnil))) hnil)
def lst9_L0o := (two (one .ret [] (spat 28 (tcons 4 (shp (.i .i64)) tnil) hnil)) (one (.exit 0) [] (spat 28 tnil hnil)))
def lst9_L0g : List Gh := []
def lst9_L0f (m n : Nat) := fun (x : (List (List Int) × List (List Int) × Int × Unit) × Unit) => lst9_L0 m n x.1.1 x.1.2.1 x.1.2.2.1
theorem lst9_L0k (m : Nat) : ∀ n, LoopOk Try.prog _ _ lst9_L0i lst9_L0o (lst9_L0f m n) (bodyAt Try.prog 26 [true, true, false, true, false, false]) :=
  loop_ok ty_mixed (lst9_tabok m) (fl := flT) (gh := lst9_L0g) (lst9_L0f m) (N := 300) (t := .leaf) trivial (fun _ => rfl) (fun n x => by kernel_rfl)
def lst9_D (m : Nat) (x0 : List (List Int)) (x1 : List (List Int)) : Option (Int × Unit) :=
  (bif !decide ((↑(List.length x0) : Int) = (↑(List.length x1) : Int)) then some (((1 : Int), ())) else (bnd (lst9_L0 m m (x0) (x1) ((0 : Int))) fun y145 => (sumK y145 (fun a146 => some (a146.fst)) (fun b147 => some (((0 : Int), ()))))))
def lst9_con (m : Nat) : Con := ⟨_, _, _, (vcons (shp (.row (.ints .u8))) (vcons (shp (.row (.ints .u8))) vnil)), bnil, 0, fun _ => rfl, (rfz 0 (shp (.i .i64)) bnil), fun x b => lst9_D m x.1 x.2.1⟩
theorem lst9_ok (m : Nat) : ConOk Try.prog 26 (lst9_con m) :=
  con_ok ty_mixed (lst9_tabok m) (fl := flT) (N := 300) (t := (.node .leaf (.node .leaf (.node (.node .leaf (.node (.loop _ _ lst9_L0i lst9_L0g lst9_L0o (lst9_L0f m m)) .leaf)) .leaf)))) (tree_of (Eq.mpr (show TreeOk Try.prog (.node .leaf (.node .leaf (.node (.node .leaf (.node (.loop _ _ lst9_L0i lst9_L0g lst9_L0o (lst9_L0f m m)) .leaf)) .leaf))) (bodyAt Try.prog 26 []) = (True ∧ (True ∧ ((True ∧ (LoopOk Try.prog _ _ lst9_L0i lst9_L0o (lst9_L0f m m) (bodyAt Try.prog 26 [true, true, false, true, false, false]))) ∧ True))) by kernel_rfl) ⟨trivial, ⟨trivial, ⟨⟨trivial, (lst9_L0k m m)⟩, trivial⟩⟩⟩)) (fun x b => by kernel_rfl)
--END lst9

--BEGIN rjoin
--END rjoin

end Go.Proofs.Ytmjocalgekfodaa

