/-
  Plain functions that the code reckons out to, with the proofs.
  Conditions: none.
-/
import Derived.Test.YtebmmecpcgnnkaaL8C
namespace Go.Proofs.Ytebmmecpcgnnkaa
set_option linter.unusedVariables false
set_option maxRecDepth 100000

--BEGIN reads
/-! plugboard/controls.reads -/
def reads_tab (m : Nat) : List (FuncId × Ent) := [(92, .con (cloneB_con m))]
theorem reads_tabok (m : Nat) : CallOk Try.prog (tabK Try.prog flT 300 (reads_tab m) 6) := tabK_ok ty_mixed ((tabok_con (cloneB_ok m) tabok_nil)) 6
def reads_J0 {R : Type} (m : Nat) (x13 : Int × Int × Int × Int × Int × Unit) (k0 : Bool → Option R) : Option R :=
  (bif !decide (Go.bits Go.BinOp.and Go.IntKind.u8 x13.fst (128 : Int) = (0 : Int)) then k0 (decide ((0 : Int) < x13.snd.snd.snd.snd.fst)) else k0 (false))
def reads_J0i := (spat 12 (tcon0 1 (ptrp 17 0) tnil) (hcons 17 (boxs 58 (.i .u8) (.cons (.i .u8) (.cons (.i .u16) (.cons (.i .u16) (.cons (.i .u16) .nil))))) hnil))
def reads_J0o := (one .normal [] (spat 12 (tcons 2 (shp .b) tnil) hnil))
def reads_J0f (m : Nat) : (R : Type) → (Unit × (Int × Int × Int × Int × Int × Unit) × Unit) → (((Bool × Unit) × Unit) → Option R) → Option R := fun R x K => let x13 := x.2.1; reads_J0 m x13 (fun d0 => K (((d0, ()), ())))
theorem reads_J0k (m : Nat) : CutOk Try.prog _ _ reads_J0i reads_J0o (reads_J0f m) (bodyAt Try.prog 58 [true, false]) :=
  cut_ok ty_mixed (reads_tabok m) (fl := flT) (N := 300) (t := .leaf) trivial (fun R x K => by kernel_rfl)
def reads_D (m : Nat) (x0 : Int × Int × Int × Int × Int × Unit) : Option (Bool × Unit) :=
  (reads_J0 m (x0) (fun d23 => some ((d23, ()))))
def reads_con (m : Nat) : Con := ⟨_, _, _, (vcons (shp (.cons (.i .u8) (.cons (.i .u8) (.cons (.i .u16) (.cons (.i .u16) (.cons (.i .u16) .nil)))))) vnil), bnil, 0, fun _ => rfl, (rfz 0 (shp .b) bnil), fun x b => reads_D m x.1⟩
theorem reads_ok (m : Nat) : ConOk Try.prog 58 (reads_con m) :=
  con_ok ty_mixed (reads_tabok m) (fl := flT) (N := 300) (t := (.node .leaf (.node (.cut _ _ reads_J0i [] reads_J0o (reads_J0f m) .leaf) .leaf))) (tree_of (Eq.mpr (show TreeOk Try.prog (.node .leaf (.node (.cut _ _ reads_J0i [] reads_J0o (reads_J0f m) .leaf) .leaf)) (bodyAt Try.prog 58 []) = (True ∧ ((CutOk Try.prog _ _ reads_J0i reads_J0o (reads_J0f m) (bodyAt Try.prog 58 [true, false]) ∧ True) ∧ True)) by kernel_rfl) ⟨trivial, ⟨⟨reads_J0k m, trivial⟩, trivial⟩⟩)) (fun x b => by kernel_rfl)
--END reads

--BEGIN writes
/-! plugboard/controls.writes -/
def writes_tab (m : Nat) : List (FuncId × Ent) := [(92, .con (cloneB_con m)), (58, .con (reads_con m))]
theorem writes_tabok (m : Nat) : CallOk Try.prog (tabK Try.prog flT 300 (writes_tab m) 6) := tabK_ok ty_mixed ((tabok_con (cloneB_ok m) (tabok_con (reads_ok m) tabok_nil))) 6
def writes_J0 {R : Type} (m : Nat) (x13 : Int × Int × Int × Int × Int × Unit) (k0 : Bool → Option R) : Option R :=
  (bif decide (Go.bits Go.BinOp.and Go.IntKind.u8 x13.fst (128 : Int) = (0 : Int)) then k0 (decide ((0 : Int) < x13.snd.snd.snd.snd.fst)) else k0 (false))
def writes_J0i := (spat 12 (tcon0 1 (ptrp 17 0) tnil) (hcons 17 (boxs 58 (.i .u8) (.cons (.i .u8) (.cons (.i .u16) (.cons (.i .u16) (.cons (.i .u16) .nil))))) hnil))
def writes_J0o := (one .normal [] (spat 12 (tcons 2 (shp .b) tnil) hnil))
def writes_J0f (m : Nat) : (R : Type) → (Unit × (Int × Int × Int × Int × Int × Unit) × Unit) → (((Bool × Unit) × Unit) → Option R) → Option R := fun R x K => let x13 := x.2.1; writes_J0 m x13 (fun d0 => K (((d0, ()), ())))
theorem writes_J0k (m : Nat) : CutOk Try.prog _ _ writes_J0i writes_J0o (writes_J0f m) (bodyAt Try.prog 56 [true, false]) :=
  cut_ok ty_mixed (writes_tabok m) (fl := flT) (N := 300) (t := .leaf) trivial (fun R x K => by kernel_rfl)
def writes_D (m : Nat) (x0 : Int × Int × Int × Int × Int × Unit) : Option (Bool × Unit) :=
  (writes_J0 m (x0) (fun d23 => some ((d23, ()))))
def writes_con (m : Nat) : Con := ⟨_, _, _, (vcons (shp (.cons (.i .u8) (.cons (.i .u8) (.cons (.i .u16) (.cons (.i .u16) (.cons (.i .u16) .nil)))))) vnil), bnil, 0, fun _ => rfl, (rfz 0 (shp .b) bnil), fun x b => writes_D m x.1⟩
theorem writes_ok (m : Nat) : ConOk Try.prog 56 (writes_con m) :=
  con_ok ty_mixed (writes_tabok m) (fl := flT) (N := 300) (t := (.node .leaf (.node (.cut _ _ writes_J0i [] writes_J0o (writes_J0f m) .leaf) .leaf))) (tree_of (Eq.mpr (show TreeOk Try.prog (.node .leaf (.node (.cut _ _ writes_J0i [] writes_J0o (writes_J0f m) .leaf) .leaf)) (bodyAt Try.prog 56 []) = (True ∧ ((CutOk Try.prog _ _ writes_J0i writes_J0o (writes_J0f m) (bodyAt Try.prog 56 [true, false]) ∧ True) ∧ True)) by kernel_rfl) ⟨trivial, ⟨⟨writes_J0k m, trivial⟩, trivial⟩⟩)) (fun x b => by kernel_rfl)
--END writes

--BEGIN fits8
/-! plugboard/controls.fits -/
def fits8_tab (m : Nat) : List (FuncId × Ent) := [(92, .con (cloneB_con m)), (58, .con (reads_con m)), (56, .con (writes_con m))]
theorem fits8_tabok (m : Nat) : CallOk Try.prog (tabK Try.prog flT 300 (fits8_tab m) 6) := tabK_ok ty_mixed ((tabok_con (cloneB_ok m) (tabok_con (reads_ok m) (tabok_con (writes_ok m) tabok_nil)))) 6
def fits8_J0 {R : Type} (m : Nat) (x19 : Int) (k0 : Bool → Option R) : Option R :=
  (bif decide (x19 = (8 : Int)) then k0 (true) else (bif decide (x19 = (16 : Int)) then k0 (true) else (bif decide (x19 = (32 : Int)) then k0 (true) else k0 (decide (x19 = (64 : Int))))))
def fits8_J0i := (spat 17 (tcons 0 (shp (.i .i64)) tnil) hnil)
def fits8_J0o := (one .normal [] (spat 17 (tcons 2 (shp .b) tnil) hnil))
def fits8_J0f (m : Nat) : (R : Type) → ((Int × Unit) × Unit) → (((Bool × Unit) × Unit) → Option R) → Option R := fun R x K => let x19 := x.1.1; fits8_J0 m x19 (fun d0 => K (((d0, ()), ())))
theorem fits8_J0k (m : Nat) : CutOk Try.prog _ _ fits8_J0i fits8_J0o (fits8_J0f m) (bodyAt Try.prog 55 [true, false]) :=
  cut_ok ty_mixed (fits8_tabok m) (fl := flT) (N := 300) (t := .leaf) trivial (fun R x K => by kernel_rfl)
def fits8_D (m : Nat) (x0 : Int) : Option (Bool × Unit) :=
  (fits8_J0 m (x0) (fun d36 => some ((d36, ()))))
def fits8_con (m : Nat) : Con := ⟨_, _, _, (vcons (shp (.i .i64)) vnil), bnil, 0, fun _ => rfl, (rfz 0 (shp .b) bnil), fun x b => fits8_D m x.1⟩
theorem fits8_ok (m : Nat) : ConOk Try.prog 55 (fits8_con m) :=
  con_ok ty_mixed (fits8_tabok m) (fl := flT) (N := 300) (t := (.node .leaf (.node (.cut _ _ fits8_J0i [] fits8_J0o (fits8_J0f m) .leaf) .leaf))) (tree_of (Eq.mpr (show TreeOk Try.prog (.node .leaf (.node (.cut _ _ fits8_J0i [] fits8_J0o (fits8_J0f m) .leaf) .leaf)) (bodyAt Try.prog 55 []) = (True ∧ ((CutOk Try.prog _ _ fits8_J0i fits8_J0o (fits8_J0f m) (bodyAt Try.prog 55 [true, false]) ∧ True) ∧ True)) by kernel_rfl) ⟨trivial, ⟨⟨fits8_J0k m, trivial⟩, trivial⟩⟩)) (fun x b => by kernel_rfl)
--END fits8

--BEGIN rreads
/-! plugboard/plugboardref08.Reads -/
def rreads_tab (m : Nat) : List (FuncId × Ent) := [(92, .con (cloneB_con m)), (58, .con (reads_con m)), (56, .con (writes_con m)), (55, .con (fits8_con m))]
theorem rreads_tabok (m : Nat) : CallOk Try.prog (tabK Try.prog flT 300 (rreads_tab m) 6) := tabK_ok ty_mixed ((tabok_con (cloneB_ok m) (tabok_con (reads_ok m) (tabok_con (writes_ok m) (tabok_con (fits8_ok m) tabok_nil))))) 6
def rreads_J0 {R : Type} (m : Nat) (x12 : Int × Int × Int × Int × Int × Unit) (k0 : Bool → Option R) : Option R :=
  (bif decide ((128 : Int) ≤ x12.fst) then k0 (decide ((0 : Int) < x12.snd.snd.snd.snd.fst)) else k0 (false))
def rreads_J0i := (spat 11 (tcon0 1 (ptrp 17 0) tnil) (hcons 17 (boxs 58 (.i .u8) (.cons (.i .u8) (.cons (.i .u16) (.cons (.i .u16) (.cons (.i .u16) .nil))))) hnil))
def rreads_J0o := (one .normal [] (spat 11 (tcons 2 (shp .b) tnil) hnil))
def rreads_J0f (m : Nat) : (R : Type) → (Unit × (Int × Int × Int × Int × Int × Unit) × Unit) → (((Bool × Unit) × Unit) → Option R) → Option R := fun R x K => let x12 := x.2.1; rreads_J0 m x12 (fun d0 => K (((d0, ()), ())))
theorem rreads_J0k (m : Nat) : CutOk Try.prog _ _ rreads_J0i rreads_J0o (rreads_J0f m) (bodyAt Try.prog 34 [true, false]) :=
  cut_ok ty_mixed (rreads_tabok m) (fl := flT) (N := 300) (t := .leaf) trivial (fun R x K => by kernel_rfl)
def rreads_D (m : Nat) (x0 : Int × Int × Int × Int × Int × Unit) : Option (Bool × Unit) :=
  (rreads_J0 m (x0) (fun d21 => some ((d21, ()))))
def rreads_con (m : Nat) : Con := ⟨_, _, _, (vcons (shp (.cons (.i .u8) (.cons (.i .u8) (.cons (.i .u16) (.cons (.i .u16) (.cons (.i .u16) .nil)))))) vnil), bnil, 0, fun _ => rfl, (rfz 0 (shp .b) bnil), fun x b => rreads_D m x.1⟩
theorem rreads_ok (m : Nat) : ConOk Try.prog 34 (rreads_con m) :=
  con_ok ty_mixed (rreads_tabok m) (fl := flT) (N := 300) (t := (.node .leaf (.node (.cut _ _ rreads_J0i [] rreads_J0o (rreads_J0f m) .leaf) .leaf))) (tree_of (Eq.mpr (show TreeOk Try.prog (.node .leaf (.node (.cut _ _ rreads_J0i [] rreads_J0o (rreads_J0f m) .leaf) .leaf)) (bodyAt Try.prog 34 []) = (True ∧ ((CutOk Try.prog _ _ rreads_J0i rreads_J0o (rreads_J0f m) (bodyAt Try.prog 34 [true, false]) ∧ True) ∧ True)) by kernel_rfl) ⟨trivial, ⟨⟨rreads_J0k m, trivial⟩, trivial⟩⟩)) (fun x b => by kernel_rfl)
--END rreads

--BEGIN rwrites
/-! plugboard/plugboardref08.Writes -/
def rwrites_tab (m : Nat) : List (FuncId × Ent) := [(92, .con (cloneB_con m)), (58, .con (reads_con m)), (56, .con (writes_con m)), (55, .con (fits8_con m)), (34, .con (rreads_con m))]
theorem rwrites_tabok (m : Nat) : CallOk Try.prog (tabK Try.prog flT 300 (rwrites_tab m) 6) := tabK_ok ty_mixed ((tabok_con (cloneB_ok m) (tabok_con (reads_ok m) (tabok_con (writes_ok m) (tabok_con (fits8_ok m) (tabok_con (rreads_ok m) tabok_nil)))))) 6
def rwrites_J0 {R : Type} (m : Nat) (x12 : Int × Int × Int × Int × Int × Unit) (k0 : Bool → Option R) : Option R :=
  (bif decide (x12.fst < (128 : Int)) then k0 (decide ((0 : Int) < x12.snd.snd.snd.snd.fst)) else k0 (false))
def rwrites_J0i := (spat 11 (tcon0 1 (ptrp 17 0) tnil) (hcons 17 (boxs 58 (.i .u8) (.cons (.i .u8) (.cons (.i .u16) (.cons (.i .u16) (.cons (.i .u16) .nil))))) hnil))
def rwrites_J0o := (one .normal [] (spat 11 (tcons 2 (shp .b) tnil) hnil))
def rwrites_J0f (m : Nat) : (R : Type) → (Unit × (Int × Int × Int × Int × Int × Unit) × Unit) → (((Bool × Unit) × Unit) → Option R) → Option R := fun R x K => let x12 := x.2.1; rwrites_J0 m x12 (fun d0 => K (((d0, ()), ())))
theorem rwrites_J0k (m : Nat) : CutOk Try.prog _ _ rwrites_J0i rwrites_J0o (rwrites_J0f m) (bodyAt Try.prog 39 [true, false]) :=
  cut_ok ty_mixed (rwrites_tabok m) (fl := flT) (N := 300) (t := .leaf) trivial (fun R x K => by kernel_rfl)
def rwrites_D (m : Nat) (x0 : Int × Int × Int × Int × Int × Unit) : Option (Bool × Unit) :=
  (rwrites_J0 m (x0) (fun d21 => some ((d21, ()))))
def rwrites_con (m : Nat) : Con := ⟨_, _, _, (vcons (shp (.cons (.i .u8) (.cons (.i .u8) (.cons (.i .u16) (.cons (.i .u16) (.cons (.i .u16) .nil)))))) vnil), bnil, 0, fun _ => rfl, (rfz 0 (shp .b) bnil), fun x b => rwrites_D m x.1⟩
theorem rwrites_ok (m : Nat) : ConOk Try.prog 39 (rwrites_con m) :=
  con_ok ty_mixed (rwrites_tabok m) (fl := flT) (N := 300) (t := (.node .leaf (.node (.cut _ _ rwrites_J0i [] rwrites_J0o (rwrites_J0f m) .leaf) .leaf))) (tree_of (Eq.mpr (show TreeOk Try.prog (.node .leaf (.node (.cut _ _ rwrites_J0i [] rwrites_J0o (rwrites_J0f m) .leaf) .leaf)) (bodyAt Try.prog 39 []) = (True ∧ ((CutOk Try.prog _ _ rwrites_J0i rwrites_J0o (rwrites_J0f m) (bodyAt Try.prog 39 [true, false]) ∧ True) ∧ True)) by kernel_rfl) ⟨trivial, ⟨⟨rwrites_J0k m, trivial⟩, trivial⟩⟩)) (fun x b => by kernel_rfl)
--END rwrites

--BEGIN sizes
/-! plugboard/plugboardlaw08.sizes -/
def sizes_tab (m : Nat) : List (FuncId × Ent) := [(92, .con (cloneB_con m)), (58, .con (reads_con m)), (56, .con (writes_con m)), (55, .con (fits8_con m)), (34, .con (rreads_con m)), (39, .con (rwrites_con m))]
theorem sizes_tabok (m : Nat) : CallOk Try.prog (tabK Try.prog flT 300 (sizes_tab m) 6) := tabK_ok ty_mixed ((tabok_con (cloneB_ok m) (tabok_con (reads_ok m) (tabok_con (writes_ok m) (tabok_con (fits8_ok m) (tabok_con (rreads_ok m) (tabok_con (rwrites_ok m) tabok_nil))))))) 6
def sizes_D (m : Nat) (x0 : Int) : Option (Int × Unit) :=
  (bif decide ((0 : Int) ≤ Int.tmod x0 (4 : Int)) then some ((Go.IntKind.wrap .i64 ((8 : Int) * (2 : Int) ^ Min.min (Int.toNat (Int.tmod x0 (4 : Int))) (Go.IntKind.bits Go.IntKind.i64)), ())) else none)
def sizes_con (m : Nat) : Con := ⟨_, _, _, (vcons (shp (.i .u8)) vnil), bnil, 0, fun _ => rfl, (rfz 0 (shp (.i .i64)) bnil), fun x b => sizes_D m x.1⟩
theorem sizes_ok (m : Nat) : ConOk Try.prog 24 (sizes_con m) :=
  con_ok ty_mixed (sizes_tabok m) (fl := flT) (N := 300) (t := .leaf) (tree_of trivial) (fun x b => by kernel_rfl)
--END sizes

--BEGIN split8
/-! plugboard/controls.Split -/
def split8_tab (m : Nat) : List (FuncId × Ent) := [(92, .con (cloneB_con m)), (58, .con (reads_con m)), (56, .con (writes_con m)), (55, .con (fits8_con m)), (34, .con (rreads_con m)), (39, .con (rwrites_con m)), (24, .con (sizes_con m))]
theorem split8_tabok (m : Nat) : CallOk Try.prog (tabK Try.prog flT 300 (split8_tab m) 6) := tabK_ok ty_mixed ((tabok_con (cloneB_ok m) (tabok_con (reads_ok m) (tabok_con (writes_ok m) (tabok_con (fits8_ok m) (tabok_con (rreads_ok m) (tabok_con (rwrites_ok m) (tabok_con (sizes_ok m) tabok_nil)))))))) 6
def split8_D (m : Nat) (x0 : Int × Int × Int × Int × Int × Unit) : Option (List Int × Unit) :=
  some (([x0.fst, x0.snd.fst, Go.IntKind.wrap .u8 (List.getD [x0.snd.snd.fst, x0.snd.snd.snd.fst, x0.snd.snd.snd.snd.fst] (Int.toNat (0 : Int)) (0 : Int)), Go.IntKind.wrap .u8 (Int.fdiv (List.getD [x0.snd.snd.fst, x0.snd.snd.snd.fst, x0.snd.snd.snd.snd.fst] (Int.toNat (0 : Int)) (0 : Int)) ((2 : Int) ^ Min.min (Int.toNat (8 : Int)) (Go.IntKind.bits Go.IntKind.u16))), Go.IntKind.wrap .u8 (List.getD [x0.snd.snd.fst, x0.snd.snd.snd.fst, x0.snd.snd.snd.snd.fst] (Int.toNat (Go.IntKind.wrap .i64 ((0 : Int) + (1 : Int)))) (0 : Int)), Go.IntKind.wrap .u8 (Int.fdiv (List.getD [x0.snd.snd.fst, x0.snd.snd.snd.fst, x0.snd.snd.snd.snd.fst] (Int.toNat (Go.IntKind.wrap .i64 ((0 : Int) + (1 : Int)))) (0 : Int)) ((2 : Int) ^ Min.min (Int.toNat (8 : Int)) (Go.IntKind.bits Go.IntKind.u16))), Go.IntKind.wrap .u8 (List.getD [x0.snd.snd.fst, x0.snd.snd.snd.fst, x0.snd.snd.snd.snd.fst] (Int.toNat (Go.IntKind.wrap .i64 (Go.IntKind.wrap .i64 ((0 : Int) + (1 : Int)) + (1 : Int)))) (0 : Int)), Go.IntKind.wrap .u8 (Int.fdiv (List.getD [x0.snd.snd.fst, x0.snd.snd.snd.fst, x0.snd.snd.snd.snd.fst] (Int.toNat (Go.IntKind.wrap .i64 (Go.IntKind.wrap .i64 ((0 : Int) + (1 : Int)) + (1 : Int)))) (0 : Int)) ((2 : Int) ^ Min.min (Int.toNat (8 : Int)) (Go.IntKind.bits Go.IntKind.u16)))], ()))
def split8_con (m : Nat) : Con := ⟨_, _, _, (vcons (shp (.cons (.i .u8) (.cons (.i .u8) (.cons (.i .u16) (.cons (.i .u16) (.cons (.i .u16) .nil)))))) vnil), bnil, 0, fun _ => rfl, (rfz 0 (shp (.ints .u8)) bnil), fun x b => split8_D m x.1⟩
theorem split8_ok (m : Nat) : ConOk Try.prog 18 (split8_con m) :=
  con_ok ty_mixed (split8_tabok m) (fl := flT) (N := 300) (t := .leaf) (tree_of trivial) (fun x b => by kernel_rfl)
--END split8

--BEGIN join8
/-! plugboard/controls.Join -/
def join8_tab (m : Nat) : List (FuncId × Ent) := [(92, .con (cloneB_con m)), (58, .con (reads_con m)), (56, .con (writes_con m)), (55, .con (fits8_con m)), (34, .con (rreads_con m)), (39, .con (rwrites_con m)), (24, .con (sizes_con m)), (18, .con (split8_con m))]
theorem join8_tabok (m : Nat) : CallOk Try.prog (tabK Try.prog flT 300 (join8_tab m) 6) := tabK_ok ty_mixed ((tabok_con (cloneB_ok m) (tabok_con (reads_ok m) (tabok_con (writes_ok m) (tabok_con (fits8_ok m) (tabok_con (rreads_ok m) (tabok_con (rwrites_ok m) (tabok_con (sizes_ok m) (tabok_con (split8_ok m) tabok_nil))))))))) 6
def join8_D (m : Nat) (x0 : List Int) : Option (((Int × Int × Int × Int × Int × Unit) × Int × Unit) × Unit) :=
  (bif !decide ((↑(List.length x0) : Int) = (8 : Int)) then some (((((0 : Int), (0 : Int), (0 : Int), (0 : Int), (0 : Int), ()), (5 : Int), ()), ())) else (bif inB (Go.IntKind.wrap .i64 (Go.IntKind.wrap .i64 ((2 : Int) * (0 : Int)) + (2 : Int))) (List.length x0) then (bif inB (Go.IntKind.wrap .i64 (Go.IntKind.wrap .i64 ((2 : Int) * (0 : Int)) + (3 : Int))) (List.length x0) then (bif inB (Go.IntKind.wrap .i64 (Go.IntKind.wrap .i64 ((2 : Int) * Go.IntKind.wrap .i64 ((0 : Int) + (1 : Int))) + (2 : Int))) (List.length x0) then (bif inB (Go.IntKind.wrap .i64 (Go.IntKind.wrap .i64 ((2 : Int) * Go.IntKind.wrap .i64 ((0 : Int) + (1 : Int))) + (3 : Int))) (List.length x0) then (bif inB (Go.IntKind.wrap .i64 (Go.IntKind.wrap .i64 ((2 : Int) * Go.IntKind.wrap .i64 (Go.IntKind.wrap .i64 ((0 : Int) + (1 : Int)) + (1 : Int))) + (2 : Int))) (List.length x0) then (bif inB (Go.IntKind.wrap .i64 (Go.IntKind.wrap .i64 ((2 : Int) * Go.IntKind.wrap .i64 (Go.IntKind.wrap .i64 ((0 : Int) + (1 : Int)) + (1 : Int))) + (3 : Int))) (List.length x0) then (bif inB (0 : Int) (List.length x0) then (bif inB (1 : Int) (List.length x0) then some ((((List.getD x0 (Int.toNat (0 : Int)) (0 : Int), List.getD x0 (Int.toNat (1 : Int)) (0 : Int), Go.bits Go.BinOp.or Go.IntKind.u16 (Go.IntKind.wrap .u16 (List.getD x0 (Int.toNat (Go.IntKind.wrap .i64 (Go.IntKind.wrap .i64 ((2 : Int) * (0 : Int)) + (2 : Int)))) (0 : Int))) (Go.IntKind.wrap .u16 (Go.IntKind.wrap .u16 (List.getD x0 (Int.toNat (Go.IntKind.wrap .i64 (Go.IntKind.wrap .i64 ((2 : Int) * (0 : Int)) + (3 : Int)))) (0 : Int)) * (2 : Int) ^ Min.min (Int.toNat (8 : Int)) (Go.IntKind.bits Go.IntKind.u16))), Go.bits Go.BinOp.or Go.IntKind.u16 (Go.IntKind.wrap .u16 (List.getD x0 (Int.toNat (Go.IntKind.wrap .i64 (Go.IntKind.wrap .i64 ((2 : Int) * Go.IntKind.wrap .i64 ((0 : Int) + (1 : Int))) + (2 : Int)))) (0 : Int))) (Go.IntKind.wrap .u16 (Go.IntKind.wrap .u16 (List.getD x0 (Int.toNat (Go.IntKind.wrap .i64 (Go.IntKind.wrap .i64 ((2 : Int) * Go.IntKind.wrap .i64 ((0 : Int) + (1 : Int))) + (3 : Int)))) (0 : Int)) * (2 : Int) ^ Min.min (Int.toNat (8 : Int)) (Go.IntKind.bits Go.IntKind.u16))), Go.bits Go.BinOp.or Go.IntKind.u16 (Go.IntKind.wrap .u16 (List.getD x0 (Int.toNat (Go.IntKind.wrap .i64 (Go.IntKind.wrap .i64 ((2 : Int) * Go.IntKind.wrap .i64 (Go.IntKind.wrap .i64 ((0 : Int) + (1 : Int)) + (1 : Int))) + (2 : Int)))) (0 : Int))) (Go.IntKind.wrap .u16 (Go.IntKind.wrap .u16 (List.getD x0 (Int.toNat (Go.IntKind.wrap .i64 (Go.IntKind.wrap .i64 ((2 : Int) * Go.IntKind.wrap .i64 (Go.IntKind.wrap .i64 ((0 : Int) + (1 : Int)) + (1 : Int))) + (3 : Int)))) (0 : Int)) * (2 : Int) ^ Min.min (Int.toNat (8 : Int)) (Go.IntKind.bits Go.IntKind.u16))), ()), (0 : Int), ()), ())) else none) else none) else none) else none) else none) else none) else none) else none))
def join8_con (m : Nat) : Con := ⟨_, _, _, (vcons (shp (.ints .u8)) vnil), bnil, 0, fun _ => rfl, (rfz 0 (tupp (vcons (shp (.cons (.i .u8) (.cons (.i .u8) (.cons (.i .u16) (.cons (.i .u16) (.cons (.i .u16) .nil)))))) (vcons (shp (.i .i64)) vnil))) bnil), fun x b => join8_D m x.1⟩
theorem join8_ok (m : Nat) : ConOk Try.prog 19 (join8_con m) :=
  con_ok ty_mixed (join8_tabok m) (fl := flT) (N := 300) (t := .leaf) (tree_of trivial) (fun x b => by kernel_rfl)
--END join8

--BEGIN rbytes
/-! plugboard/plugboardref08.Bytes -/
def rbytes_tab (m : Nat) : List (FuncId × Ent) := [(92, .con (cloneB_con m)), (58, .con (reads_con m)), (56, .con (writes_con m)), (55, .con (fits8_con m)), (34, .con (rreads_con m)), (39, .con (rwrites_con m)), (24, .con (sizes_con m)), (18, .con (split8_con m)), (19, .con (join8_con m))]
theorem rbytes_tabok (m : Nat) : CallOk Try.prog (tabK Try.prog flT 300 (rbytes_tab m) 6) := tabK_ok ty_mixed ((tabok_con (cloneB_ok m) (tabok_con (reads_ok m) (tabok_con (writes_ok m) (tabok_con (fits8_ok m) (tabok_con (rreads_ok m) (tabok_con (rwrites_ok m) (tabok_con (sizes_ok m) (tabok_con (split8_ok m) (tabok_con (join8_ok m) tabok_nil)))))))))) 6
def rbytes_D (m : Nat) (x0 : Int × Int × Int × Int × Int × Unit) : Option (List Int × Unit) :=
  some (([x0.fst, x0.snd.fst, Go.IntKind.wrap .u8 (Int.tmod x0.snd.snd.fst (256 : Int)), Go.IntKind.wrap .u8 (Go.IntKind.wrap .u16 (Int.tdiv x0.snd.snd.fst (256 : Int))), Go.IntKind.wrap .u8 (Int.tmod x0.snd.snd.snd.fst (256 : Int)), Go.IntKind.wrap .u8 (Go.IntKind.wrap .u16 (Int.tdiv x0.snd.snd.snd.fst (256 : Int))), Go.IntKind.wrap .u8 (Int.tmod x0.snd.snd.snd.snd.fst (256 : Int)), Go.IntKind.wrap .u8 (Go.IntKind.wrap .u16 (Int.tdiv x0.snd.snd.snd.snd.fst (256 : Int)))], ()))
def rbytes_con (m : Nat) : Con := ⟨_, _, _, (vcons (shp (.cons (.i .u8) (.cons (.i .u8) (.cons (.i .u16) (.cons (.i .u16) (.cons (.i .u16) .nil)))))) vnil), bnil, 0, fun _ => rfl, (rfz 0 (shp (.ints .u8)) bnil), fun x b => rbytes_D m x.1⟩
theorem rbytes_ok (m : Nat) : ConOk Try.prog 20 (rbytes_con m) :=
  con_ok ty_mixed (rbytes_tabok m) (fl := flT) (N := 300) (t := .leaf) (tree_of trivial) (fun x b => by kernel_rfl)
--END rbytes

end Go.Proofs.Ytebmmecpcgnnkaa
