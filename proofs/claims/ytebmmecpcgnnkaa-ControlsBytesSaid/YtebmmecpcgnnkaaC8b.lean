/-
  Plain functions that the code reckons out to, with the proofs.
  Conditions: none.
-/
import Derived.Test.YtebmmecpcgnnkaaC8a
import Derived.Test.YtebmmecpcgnnkaaL8T
namespace Go.Proofs.Ytebmmecpcgnnkaa
set_option linter.unusedVariables false
set_option maxRecDepth 100000

--BEGIN bytesL
/-! plugboard/plugboardlaw08.ControlsBytes -/
def bytesL_tab (m : Nat) : List (FuncId × Ent) := [(92, .con (cloneB_con m)), (58, .con (reads_con m)), (56, .con (writes_con m)), (55, .con (fits8_con m)), (34, .con (rreads_con m)), (39, .con (rwrites_con m)), (24, .con (sizes_con m)), (18, .con (split8_con m)), (19, .con (join8_con m)), (20, .con (rbytes_con m)), (21, .con (lives8_con m))]
theorem bytesL_tabok (m : Nat) : CallOk Try.prog (tabK Try.prog flT 300 (bytesL_tab m) 6) := tabK_ok ty_mixed ((tabok_con (cloneB_ok m) (tabok_con (reads_ok m) (tabok_con (writes_ok m) (tabok_con (fits8_ok m) (tabok_con (rreads_ok m) (tabok_con (rwrites_ok m) (tabok_con (sizes_ok m) (tabok_con (split8_ok m) (tabok_con (join8_ok m) (tabok_con (rbytes_ok m) (tabok_con (lives8_ok m) tabok_nil)))))))))))) 6
def bytesL_J0 {R : Type} (m : Nat) (x42 : List Int) (x43 : ByteArray) (x44 : List Int) (x45 : Int) (x46 : Int × Int × Int × Int × Int × Unit) (x47 : Int × Int × Int × Int × Int × Unit) (k0 : Bool → Option R) : Option R :=
  (bnd (rbytes_D m x46) fun y52 => (bif !decide (ByteArray.toList (Go.strOfNums x44) = ByteArray.toList (Go.strOfNums y52.fst)) then k0 (true) else (bif !decide (x45 = (0 : Int)) then k0 (true) else k0 (!(decide (x47.fst = x46.fst) && (decide (x47.snd.fst = x46.snd.fst) && (decide (x47.snd.snd.fst = x46.snd.snd.fst) && (decide (x47.snd.snd.snd.fst = x46.snd.snd.snd.fst) && (decide (x47.snd.snd.snd.snd.fst = x46.snd.snd.snd.snd.fst) && true)))))))))
def bytesL_J0i := (spat 72 (tcons 1 (shp (.ints .u8)) (tcon0 2 (ptrp 18 0) (tcons 5 (shp .s) (tcons 6 (shp (.ints .u8)) (tcon0 7 (ptrp 23 0) (tcons 8 (shp (.i .i64)) tnil)))))) (hcons 18 (boxs 58 (.i .u8) (.cons (.i .u8) (.cons (.i .u16) (.cons (.i .u16) (.cons (.i .u16) .nil))))) (hcons 23 (boxs 58 (.i .u8) (.cons (.i .u8) (.cons (.i .u16) (.cons (.i .u16) (.cons (.i .u16) .nil))))) hnil)))
def bytesL_J0o := (one .normal [] (spat 72 (tcons 1 (shp (.ints .u8)) (tcons 5 (shp .s) (tcon0 7 (ptrp 23 0) (tcons 35 (shp .b) tnil)))) (hcons 23 (boxs 58 (.i .u8) (.cons (.i .u8) (.cons (.i .u16) (.cons (.i .u16) (.cons (.i .u16) .nil))))) hnil)))
def bytesL_J0f (m : Nat) : (R : Type) → ((List Int × ByteArray × List Int × Int × Unit) × (Int × Int × Int × Int × Int × Unit) × (Int × Int × Int × Int × Int × Unit) × Unit) → (((List Int × ByteArray × Bool × Unit) × (Int × Int × Int × Int × Int × Unit) × Unit) → Option R) → Option R := fun R x K => let x42 := x.1.1; let x43 := x.1.2.1; let x44 := x.1.2.2.1; let x45 := x.1.2.2.2.1; let x46 := x.2.1; let x47 := x.2.2.1; bytesL_J0 m x42 x43 x44 x45 x46 x47 (fun d0 => K ((((x42), ((x43), (d0, ()))), ((x47), ()))))
theorem bytesL_J0k (m : Nat) : CutOk Try.prog _ _ bytesL_J0i bytesL_J0o (bytesL_J0f m) (bodyAt Try.prog 5 [true, true, true, true, true, false, false]) :=
  cut_ok ty_mixed (bytesL_tabok m) (fl := flT) (N := 300) (t := .leaf) trivial (fun R x K => by kernel_rfl)
def bytesL_J1 {R : Type} (m : Nat) (x96 : Int) (x97 : Int × Int × Int × Int × Int × Unit) (k0 : Bool → Option R) : Option R :=
  (bif decide (x96 = (5 : Int)) then (bif decide (x97.fst = (0 : Int)) && (decide (x97.snd.fst = (0 : Int)) && (decide (x97.snd.snd.fst = (0 : Int)) && (decide (x97.snd.snd.snd.fst = (0 : Int)) && (decide (x97.snd.snd.snd.snd.fst = (0 : Int)) && true)))) then (bnd (lives8_D m) fun y104 => k0 (y104.fst)) else k0 (false)) else k0 (false))
def bytesL_J1i := (spat 72 (tcon0 7 (ptrp 23 0) (tcons 8 (shp (.i .i64)) tnil)) (hcons 23 (boxs 58 (.i .u8) (.cons (.i .u8) (.cons (.i .u16) (.cons (.i .u16) (.cons (.i .u16) .nil))))) hnil))
def bytesL_J1o := (one .normal [] (spat 72 (tcons 4 (shp .b) tnil) hnil))
def bytesL_J1f (m : Nat) : (R : Type) → ((Int × Unit) × (Int × Int × Int × Int × Int × Unit) × Unit) → (((Bool × Unit) × Unit) → Option R) → Option R := fun R x K => let x96 := x.1.1; let x97 := x.2.1; bytesL_J1 m x96 x97 (fun d0 => K (((d0, ()), ())))
theorem bytesL_J1k (m : Nat) : CutOk Try.prog _ _ bytesL_J1i bytesL_J1o (bytesL_J1f m) (bodyAt Try.prog 5 [true, true, true, true, true, true, true, false, true, false, false]) :=
  cut_ok ty_mixed (bytesL_tabok m) (fl := flT) (N := 300) (t := .leaf) trivial (fun R x K => by kernel_rfl)
def bytesL_J2 {R : Type} (m : Nat) (x131 : List Int) (x132 : ByteArray) (x133 : Int) (x134 : Int × Int × Int × Int × Int × Unit) (k0 : Bool → Option R) : Option R :=
  (bif decide (x133 = (0 : Int)) then (bnd (rbytes_D m x134) fun y138 => (bif decide (ByteArray.toList (Go.strOfNums y138.fst) = ByteArray.toList x132) then (bif decide (ByteArray.toList (Go.strOfNums x131) = ByteArray.toList x132) then (bnd (lives8_D m) fun y147 => k0 (y147.fst)) else k0 (false)) else k0 (false))) else k0 (false))
def bytesL_J2i := (spat 72 (tcons 1 (shp (.ints .u8)) (tcons 5 (shp .s) (tcon0 7 (ptrp 23 0) (tcons 8 (shp (.i .i64)) tnil)))) (hcons 23 (boxs 58 (.i .u8) (.cons (.i .u8) (.cons (.i .u16) (.cons (.i .u16) (.cons (.i .u16) .nil))))) hnil))
def bytesL_J2o := (one .normal [] (spat 72 (tcons 4 (shp .b) tnil) hnil))
def bytesL_J2f (m : Nat) : (R : Type) → ((List Int × ByteArray × Int × Unit) × (Int × Int × Int × Int × Int × Unit) × Unit) → (((Bool × Unit) × Unit) → Option R) → Option R := fun R x K => let x131 := x.1.1; let x132 := x.1.2.1; let x133 := x.1.2.2.1; let x134 := x.2.1; bytesL_J2 m x131 x132 x133 x134 (fun d0 => K (((d0, ()), ())))
theorem bytesL_J2k (m : Nat) : CutOk Try.prog _ _ bytesL_J2i bytesL_J2o (bytesL_J2f m) (bodyAt Try.prog 5 [true, true, true, true, true, true, true, true, false]) :=
  cut_ok ty_mixed (bytesL_tabok m) (fl := flT) (N := 300) (t := .leaf) trivial (fun R x K => by kernel_rfl)
def bytesL_D (m : Nat) (x0 : Int × Int × Int × Int × Int × Unit) (x1 : List Int) : Option (Bool × Unit) :=
  (bif decide ((20 : Int) < (↑(List.length x1) : Int)) then some ((true, ())) else (bnd (split8_D m x0) fun y11 => (bnd (join8_D m y11.fst) fun y13 => (bytesL_J0 m (x1) (Go.strOfNums x1) (y11.fst) (y13.fst.snd.fst) (x0) (y13.fst.fst) (fun d72 => (bif d72 then some ((false, ())) else (bnd (join8_D m x1) fun y79 => (bif !decide ((↑(List.length x1) : Int) = (8 : Int)) then (bytesL_J1 m (y79.fst.snd.fst) (y79.fst.fst) (fun d109 => some ((d109, ())))) else (bytesL_J2 m (x1) (Go.strOfNums x1) (y79.fst.snd.fst) (y79.fst.fst) (fun d155 => some ((d155, ()))))))))))))
def bytesL_con (m : Nat) : Con := ⟨_, _, _, (vcons (shp (.cons (.i .u8) (.cons (.i .u8) (.cons (.i .u16) (.cons (.i .u16) (.cons (.i .u16) .nil)))))) (vcons (shp (.ints .u8)) vnil)), bnil, 0, fun _ => rfl, (rfz 0 (shp .b) bnil), fun x b => bytesL_D m x.1 x.2.1⟩
theorem bytesL_ok (m : Nat) : ConOk Try.prog 5 (bytesL_con m) :=
  con_ok ty_mixed (bytesL_tabok m) (fl := flT) (N := 300) (t := (.node .leaf (.node .leaf (.node .leaf (.node .leaf (.node .leaf (.node (.node (.cut _ _ bytesL_J0i [] bytesL_J0o (bytesL_J0f m) .leaf) .leaf) (.node .leaf (.node (.node .leaf (.node (.node (.cut _ _ bytesL_J1i [] bytesL_J1o (bytesL_J1f m) .leaf) .leaf) .leaf)) (.node (.cut _ _ bytesL_J2i [] bytesL_J2o (bytesL_J2f m) .leaf) .leaf)))))))))) (tree_of (Eq.mpr (show TreeOk Try.prog (.node .leaf (.node .leaf (.node .leaf (.node .leaf (.node .leaf (.node (.node (.cut _ _ bytesL_J0i [] bytesL_J0o (bytesL_J0f m) .leaf) .leaf) (.node .leaf (.node (.node .leaf (.node (.node (.cut _ _ bytesL_J1i [] bytesL_J1o (bytesL_J1f m) .leaf) .leaf) .leaf)) (.node (.cut _ _ bytesL_J2i [] bytesL_J2o (bytesL_J2f m) .leaf) .leaf))))))))) (bodyAt Try.prog 5 []) = (True ∧ (True ∧ (True ∧ (True ∧ (True ∧ (((CutOk Try.prog _ _ bytesL_J0i bytesL_J0o (bytesL_J0f m) (bodyAt Try.prog 5 [true, true, true, true, true, false, false]) ∧ True) ∧ True) ∧ (True ∧ ((True ∧ (((CutOk Try.prog _ _ bytesL_J1i bytesL_J1o (bytesL_J1f m) (bodyAt Try.prog 5 [true, true, true, true, true, true, true, false, true, false, false]) ∧ True) ∧ True) ∧ True)) ∧ ((CutOk Try.prog _ _ bytesL_J2i bytesL_J2o (bytesL_J2f m) (bodyAt Try.prog 5 [true, true, true, true, true, true, true, true, false]) ∧ True) ∧ True))))))))) by kernel_rfl) ⟨trivial, ⟨trivial, ⟨trivial, ⟨trivial, ⟨trivial, ⟨⟨⟨bytesL_J0k m, trivial⟩, trivial⟩, ⟨trivial, ⟨⟨trivial, ⟨⟨⟨bytesL_J1k m, trivial⟩, trivial⟩, trivial⟩⟩, ⟨⟨bytesL_J2k m, trivial⟩, trivial⟩⟩⟩⟩⟩⟩⟩⟩⟩)) (fun x b => by kernel_rfl)
--END bytesL

end Go.Proofs.Ytebmmecpcgnnkaa
