/-
  Plain functions that the code reckons out to, with the proofs.
  Conditions: none.
-/
import Derived.Test.YtpdbekbobkjfgaaG4m
namespace Go.Proofs.Ytpdbekbobkjfgaa
set_option linter.unusedVariables false
set_option maxRecDepth 100000

--BEGIN tLine
def tLine_tab (m : Nat) : List (FuncId × Ent) := [(56, .con (cloneF_con m)), (74, .con (cloneB_con m)), (21, .con (lives6_con m))]
theorem tLine_tabok (m : Nat) : CallOk Try.prog (tabK Try.prog flT 300 (tLine_tab m) 6) := tabK_ok ty_mixed ((tabok_con (cloneF_ok m) (tabok_con (cloneB_ok m) (tabok_con (lives6_ok m) tabok_nil)))) 6
def tLine_L0 (m : Nat) : Nat → List Int → Int → Int → List Int → Option ((List Int × Int × Unit) × List Int × Unit)
  | 0, _, _, _, _ => none
  | n + 1, x2015, x2016, x2017, x2018 => (bif decide (x2017 < (↑(List.length x2015) : Int)) then (bif inB x2017 (List.length x2015) then (bif growOb (1 : Nat) (List.length x2018 + List.length [List.getD x2015 (Int.toNat x2017) (0 : Int)]) then tLine_L0 m n (x2015) (x2016) (Go.IntKind.wrap .i64 (x2017 + (1 : Int))) (x2018 ++ [List.getD x2015 (Int.toNat x2017) (0 : Int)]) else none) else none) else some ((x2015, (x2016, ())), (x2018, ())))
def tLine_L0i := (spat 102 (tcons 0 (shp (.ints .u8)) (tcons 1 (shp (.i .u8)) (tcon0 5 (ownp 1005) (tcons 6 (shp (.i .i64)) tnil)))) (hcons 1005 (intsp 77 .u8) hnil))
def tLine_L0o := (one (.exit 0) [] (spat 102 (tcons 0 (shp (.ints .u8)) (tcons 1 (shp (.i .u8)) (tcon0 5 (ownp 1005) tnil))) (hcons 1005 (intsp 77 .u8) hnil)))
def tLine_L0g : List Gh := [.mat 5 1005 (.ints 77 .u8 [] (some 0))]
def tLine_L0f (m n : Nat) := fun (x : (List Int × Int × Int × Unit) × List Int × Unit) => tLine_L0 m n x.1.1 x.1.2.1 x.1.2.2.1 x.2.1
theorem tLine_L0k (m : Nat) : ∀ n, LoopOk Try.prog _ _ tLine_L0i tLine_L0o (tLine_L0f m n) (bodyAt Try.prog 6 [true, true, true, false, true, false, false]) :=
  loop_ok ty_mixed (tLine_tabok m) (fl := flT) (gh := tLine_L0g) (tLine_L0f m) (N := 300) (t := .leaf) trivial (fun _ => rfl) (fun n x => by kernel_rfl)
def tLine_L1 (m : Nat) : Nat → List Int → Int → Int → List Int → List Int → Option ((List Int × Int × Unit) × List Int × Unit)
  | 0, _, _, _, _, _ => none
  | n + 1, x3031, x3032, x3033, x3034, x3035 => (bif decide (x3033 < (↑(List.length x3034) : Int)) then (bif inB x3033 (List.length x3034) then (bif decide (Int.toNat x3033 < List.length x3034) then (bif inB x3033 (List.length x3034) then (bif decide (Int.toNat x3033 < List.length x3034) then tLine_L1 m n (x3031) (x3032) (Go.IntKind.wrap .i64 (x3033 + (1 : Int))) (List.set x3034 (Int.toNat x3033) (Go.IntKind.wrap .u8 (List.getD x3034 (Int.toNat x3033) (0 : Int) + (1 : Int)))) (x3035) else none) else none) else none) else none) else some ((x3031, (x3032, ())), (x3035, ())))
def tLine_L1i := (spat 102 (tcons 0 (shp (.ints .u8)) (tcons 1 (shp (.i .u8)) (tcon0 5 (ownp 1005) (tcon0 7 (ptrp 1006 0) (tcons 8 (shp (.i .i64)) tnil))))) (hcons 1005 (intsp 77 .u8) (hcon0 1006 (boxp 82 (vcon0 (ownp 1007) vnil)) (hcons 1007 (intsp 77 .u8) hnil))))
def tLine_L1o := (one (.exit 2) [] (spat 102 (tcons 0 (shp (.ints .u8)) (tcons 1 (shp (.i .u8)) (tcon0 7 (ptrp 1006 0) tnil))) (hcon0 1006 (boxp 82 (vcon0 (ownp 1007) vnil)) (hcons 1007 (intsp 77 .u8) hnil))))
def tLine_L1g : List Gh := []
def tLine_L1f (m n : Nat) := fun (x : (List Int × Int × Int × Unit) × List Int × List Int × Unit) => tLine_L1 m n x.1.1 x.1.2.1 x.1.2.2.1 x.2.1 x.2.2.1
theorem tLine_L1k (m : Nat) : ∀ n, LoopOk Try.prog _ _ tLine_L1i tLine_L1o (tLine_L1f m n) (bodyAt Try.prog 6 [true, true, true, true, true, false, true, false, false]) :=
  loop_ok ty_mixed (tLine_tabok m) (fl := flT) (gh := tLine_L1g) (tLine_L1f m) (N := 300) (t := .leaf) trivial (fun _ => rfl) (fun n x => by kernel_rfl)
def tLine_L2 (m : Nat) : Nat → List Int → Int → Int → List Int → Option ((Bool × Unit) × Unit ⊕ Unit × Unit)
  | 0, _, _, _, _ => none
  | n + 1, x5049, x5050, x5051, x5052 => (bif decide (x5051 < Go.IntKind.wrap .i64 x5050) then (bif decide ((0 : Int) < Go.IntKind.wrap .i64 ((↑(List.length x5049) : Int) - x5051)) then (bif inB x5051 (List.length x5049) then (bif !decide ((↑(List.length x5052) : Int) = Go.IntKind.wrap .i64 ((↑(List.length x5049) : Int) - x5051)) then some (Sum.inl ((false, ()), ())) else (bif decide ((↑(List.length x5052) : Int) = (0 : Int)) then (bif !decide ((0 : Int) = List.getD x5049 (Int.toNat x5051) (0 : Int)) then some (Sum.inl ((false, ()), ())) else tLine_L2 m n (x5049) (x5050) (Go.IntKind.wrap .i64 (x5051 + (1 : Int))) (x5052)) else (bif inB (0 : Int) (List.length x5052) then (bif decide ((0 : Int) ≤ (1 : Int)) && decide (Int.toNat (1 : Int) ≤ List.length x5052) then (bif !decide (List.getD x5052 (Int.toNat (0 : Int)) (0 : Int) = List.getD x5049 (Int.toNat x5051) (0 : Int)) then some (Sum.inl ((false, ()), ())) else tLine_L2 m n (x5049) (x5050) (Go.IntKind.wrap .i64 (x5051 + (1 : Int))) (List.drop (Int.toNat (1 : Int)) x5052)) else none) else none))) else none) else (bif !decide ((↑(List.length x5052) : Int) = (0 : Int)) then some (Sum.inl ((false, ()), ())) else (bif decide ((↑(List.length x5052) : Int) = (0 : Int)) then tLine_L2 m n (x5049) (x5050) (Go.IntKind.wrap .i64 (x5051 + (1 : Int))) (x5052) else (bif inB (0 : Int) (List.length x5052) then (bif decide ((0 : Int) ≤ (1 : Int)) && decide (Int.toNat (1 : Int) ≤ List.length x5052) then (bif !decide (List.getD x5052 (Int.toNat (0 : Int)) (0 : Int) = (0 : Int)) then some (Sum.inl ((false, ()), ())) else tLine_L2 m n (x5049) (x5050) (Go.IntKind.wrap .i64 (x5051 + (1 : Int))) (List.drop (Int.toNat (1 : Int)) x5052)) else none) else none)))) else some (Sum.inr ((), ())))
def tLine_L2i := (spat 102 (tcons 0 (shp (.ints .u8)) (tcons 1 (shp (.i .u8)) (tcon0 7 (ptrp 1006 0) (tcons 9 (shp (.i .i64)) tnil)))) (hcons 1006 (boxp 82 (vcons (shp (.ints .u8)) vnil)) hnil))
def tLine_L2o := (two (one .ret [] (spat 102 (tcons 4 (shp .b) tnil) hnil)) (one (.exit 4) [] (spat 102 tnil hnil)))
def tLine_L2g : List Gh := [.fzk 1007]
def tLine_L2f (m n : Nat) := fun (x : (List Int × Int × Int × Unit) × (List Int × Unit) × Unit) => tLine_L2 m n x.1.1 x.1.2.1 x.1.2.2.1 x.2.1.1
theorem tLine_L2k (m : Nat) : ∀ n, LoopOk Try.prog _ _ tLine_L2i tLine_L2o (tLine_L2f m n) (bodyAt Try.prog 6 [true, true, true, true, true, true, false, true, false, false]) :=
  loop_ok ty_mixed (tLine_tabok m) (fl := flT) (gh := tLine_L2g) (tLine_L2f m) (N := 300) (t := .leaf) trivial (fun _ => rfl) (fun n x => by kernel_rfl)
def tLine_D (m : Nat) (x0 : List Int) (x1 : Int) : Option (Bool × Unit) :=
  (bif decide ((60 : Int) < (↑(List.length x0) : Int)) then some ((true, ())) else (bnd (tLine_L0 m m (x0) (x1) ((0 : Int)) ([])) fun y5084 => (bnd (cloneF_D m y5084.snd.fst) fun y5086 => (bnd (tLine_L1 m m (y5084.fst.fst) (y5084.fst.snd.fst) ((0 : Int)) (y5084.snd.fst) (y5086.snd.fst)) fun y5088 => (bnd (tLine_L2 m m (y5088.fst.fst) (y5088.fst.snd.fst) ((0 : Int)) (y5088.snd.fst)) fun y5090 => (sumK y5090 (fun a5091 => some (a5091.fst)) (fun b5092 => (bnd (lives6_D m) fun y5098 => some (y5098)))))))))
def tLine_con (m : Nat) : Con := ⟨_, _, _, (vcons (shp (.ints .u8)) (vcons (shp (.i .u8)) vnil)), bnil, 0, fun _ => rfl, (rfz 0 (shp .b) bnil), fun x b => tLine_D m x.1 x.2.1⟩
theorem tLine_ok (m : Nat) : ConOk Try.prog 6 (tLine_con m) :=
  con_ok ty_mixed (tLine_tabok m) (fl := flT) (N := 300) (t := (.node .leaf (.node .leaf (.node .leaf (.node (.node .leaf (.node (.loop _ _ tLine_L0i tLine_L0g tLine_L0o (tLine_L0f m m)) .leaf)) (.node .leaf (.node (.node .leaf (.node (.loop _ _ tLine_L1i tLine_L1g tLine_L1o (tLine_L1f m m)) .leaf)) (.node (.node .leaf (.node (.loop _ _ tLine_L2i tLine_L2g tLine_L2o (tLine_L2f m m)) .leaf)) .leaf)))))))) (tree_of (Eq.mpr (show TreeOk Try.prog (.node .leaf (.node .leaf (.node .leaf (.node (.node .leaf (.node (.loop _ _ tLine_L0i tLine_L0g tLine_L0o (tLine_L0f m m)) .leaf)) (.node .leaf (.node (.node .leaf (.node (.loop _ _ tLine_L1i tLine_L1g tLine_L1o (tLine_L1f m m)) .leaf)) (.node (.node .leaf (.node (.loop _ _ tLine_L2i tLine_L2g tLine_L2o (tLine_L2f m m)) .leaf)) .leaf))))))) (bodyAt Try.prog 6 []) = (True ∧ (True ∧ (True ∧ ((True ∧ (LoopOk Try.prog _ _ tLine_L0i tLine_L0o (tLine_L0f m m) (bodyAt Try.prog 6 [true, true, true, false, true, false, false]))) ∧ (True ∧ ((True ∧ (LoopOk Try.prog _ _ tLine_L1i tLine_L1o (tLine_L1f m m) (bodyAt Try.prog 6 [true, true, true, true, true, false, true, false, false]))) ∧ ((True ∧ (LoopOk Try.prog _ _ tLine_L2i tLine_L2o (tLine_L2f m m) (bodyAt Try.prog 6 [true, true, true, true, true, true, false, true, false, false]))) ∧ True))))))) by kernel_rfl) ⟨trivial, ⟨trivial, ⟨trivial, ⟨⟨trivial, (tLine_L0k m m)⟩, ⟨trivial, ⟨⟨trivial, (tLine_L1k m m)⟩, ⟨⟨trivial, (tLine_L2k m m)⟩, trivial⟩⟩⟩⟩⟩⟩⟩)) (fun x b => by kernel_rfl)
--END tLine

--BEGIN faults
def faults_tab (m : Nat) : List (FuncId × Ent) := [(56, .con (cloneF_con m)), (74, .con (cloneB_con m)), (21, .con (lives6_con m))]
theorem faults_tabok (m : Nat) : CallOk Try.prog (tabK Try.prog flT 300 (faults_tab m) 6) := tabK_ok ty_mixed ((tabok_con (cloneF_ok m) (tabok_con (cloneB_ok m) (tabok_con (lives6_ok m) tabok_nil)))) 6
def faults_L0 (m : Nat) : Nat → List Int → Int → List Int → Option (Unit × List Int × Unit)
  | 0, _, _, _ => none
  | n + 1, x2010, x2011, x2012 => (bif decide (x2011 < (↑(List.length x2010) : Int)) then (bif inB x2011 (List.length x2010) then (bif growOb (1 : Nat) (List.length x2012 + List.length [Int.tmod (List.getD x2010 (Int.toNat x2011) (0 : Int)) (3 : Int)]) then faults_L0 m n (x2010) (Go.IntKind.wrap .i64 (x2011 + (1 : Int))) (x2012 ++ [Int.tmod (List.getD x2010 (Int.toNat x2011) (0 : Int)) (3 : Int)]) else none) else none) else some ((), (x2012, ())))
def faults_L0i := (spat 20 (tcons 0 (shp (.ints .u8)) (tcon0 3 (ownp 1003) (tcons 4 (shp (.i .i64)) tnil))) (hcons 1003 (intsp 77 .u8) hnil))
def faults_L0o := (one (.exit 0) [] (spat 20 (tcon0 3 (ownp 1003) tnil) (hcons 1003 (intsp 77 .u8) hnil)))
def faults_L0g : List Gh := [.mat 3 1003 (.ints 77 .u8 [] (some 0))]
def faults_L0f (m n : Nat) := fun (x : (List Int × Int × Unit) × List Int × Unit) => faults_L0 m n x.1.1 x.1.2.1 x.2.1
theorem faults_L0k (m : Nat) : ∀ n, LoopOk Try.prog _ _ faults_L0i faults_L0o (faults_L0f m n) (bodyAt Try.prog 16 [true, true, false, true, false, false]) :=
  loop_ok ty_mixed (faults_tabok m) (fl := flT) (gh := faults_L0g) (faults_L0f m) (N := 300) (t := .leaf) trivial (fun _ => rfl) (fun n x => by kernel_rfl)
def faults_D (m : Nat) (x0 : List Int) : Option (List Int × Unit) :=
  (bnd (faults_L0 m m (x0) ((0 : Int)) ([])) fun y2021 => some (y2021.snd))
def faults_con (m : Nat) : Con := ⟨_, _, _, (vcons (shp (.ints .u8)) vnil), bnil, 0, fun _ => rfl, (rfz 0 (shp (.ints .u8)) bnil), fun x b => faults_D m x.1⟩
theorem faults_ok (m : Nat) : ConOk Try.prog 16 (faults_con m) :=
  con_ok ty_mixed (faults_tabok m) (fl := flT) (N := 300) (t := (.node .leaf (.node .leaf (.node (.node .leaf (.node (.loop _ _ faults_L0i faults_L0g faults_L0o (faults_L0f m m)) .leaf)) .leaf)))) (tree_of (Eq.mpr (show TreeOk Try.prog (.node .leaf (.node .leaf (.node (.node .leaf (.node (.loop _ _ faults_L0i faults_L0g faults_L0o (faults_L0f m m)) .leaf)) .leaf))) (bodyAt Try.prog 16 []) = (True ∧ (True ∧ ((True ∧ (LoopOk Try.prog _ _ faults_L0i faults_L0o (faults_L0f m m) (bodyAt Try.prog 16 [true, true, false, true, false, false]))) ∧ True))) by kernel_rfl) ⟨trivial, ⟨trivial, ⟨⟨trivial, (faults_L0k m m)⟩, trivial⟩⟩⟩)) (fun x b => by kernel_rfl)
--END faults

end Go.Proofs.Ytpdbekbobkjfgaa

