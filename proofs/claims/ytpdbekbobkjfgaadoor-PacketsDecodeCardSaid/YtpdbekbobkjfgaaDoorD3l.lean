/-
  Plain functions that the code reckons out to, with the proofs.
  Conditions: none.
-/
import Derived.Test.YtpdbekbobkjfgaaDoorD3s
import Derived.Test.YtpdbekbobkjfgaaDoorD3y
import Derived.Test.YtpdbekbobkjfgaaDoorD3r
namespace Go.Proofs.YtpdbekbobkjfgaaDoor
set_option linter.unusedVariables false
set_option maxRecDepth 100000

--BEGIN decL
/-! plugboard/plugboardlaw03.PacketsDecode -/
def decL_tab (m : Nat) : List (FuncId × Ent) := [(13, .con (lives3_con m)), (17, .con (df3_con m)), (9, .con (rfCheck_con m)), (16, .con (decode_con m)), (14, .con (rencode_con m)), (18, .con (rerror_con m))]
theorem decL_tabok (m : Nat) : CallOk Tryd.prog (tabK Tryd.prog flR 300 (decL_tab m) 6) := tabK_ok ty_mixed ((tabok_con (lives3_ok m) (tabok_con (df3_ok m) (tabok_con (rfCheck_ok m) (tabok_con (decode_ok m) (tabok_con (rencode_ok m) (tabok_con (rerror_ok m) tabok_nil))))))) 6
def decL_J0 {R : Type} (m : Nat) (x21 : List Int) (x22 : ByteArray) (x23 : Int) (x24 : Pkt) (k0 : Bool → Option R) : Option R :=
  (bnd (rerror_D m x21) fun y26 => (bif !decide (x23 = y26.fst) then k0 (true) else k0 (!decide (ByteArray.toList (Go.strOfNums x21) = ByteArray.toList x22))))
def decL_J0i := (spat 48 (tcons 0 (shp (.ints .u8)) (tcons 3 (shp .s) (tcon0 4 (ptrp 20 0) (tcons 5 (shp (.i .i64)) tnil)))) (hcons 20 (boxs 29 (.i .u8) (.cons (.i .u8) (.cons (.i .u8) (.cons (.i .u16) (.cons (.i .u8) (.cons (.i .u8) (.cons .b (.cons .b (.cons (.i .u8) (.cons (.ints .u8) .nil)))))))))) hnil))
def decL_J0o := (one .normal [] (spat 48 (tcons 3 (shp .s) (tcon0 4 (ptrp 20 0) (tcons 5 (shp (.i .i64)) (tcons 25 (shp .b) tnil)))) (hcons 20 (boxs 29 (.i .u8) (.cons (.i .u8) (.cons (.i .u8) (.cons (.i .u16) (.cons (.i .u8) (.cons (.i .u8) (.cons .b (.cons .b (.cons (.i .u8) (.cons (.ints .u8) .nil)))))))))) hnil)))
def decL_J0f (m : Nat) : (R : Type) → ((List Int × ByteArray × Int × Unit) × Pkt × Unit) → (((ByteArray × Int × Bool × Unit) × Pkt × Unit) → Option R) → Option R := fun R x K => let x21 := x.1.1; let x22 := x.1.2.1; let x23 := x.1.2.2.1; let x24 := x.2.1; decL_J0 m x21 x22 x23 x24 (fun d0 => K ((((x22), ((x23), (d0, ()))), ((x24), ()))))
theorem decL_J0k (m : Nat) : CutOk Tryd.prog _ _ decL_J0i decL_J0o (decL_J0f m) (bodyAt Tryd.prog 5 [true, true, true, true, false, false]) :=
  cut_ok ty_mixed (decL_tabok m) (fl := flR) (N := 300) (t := .leaf) trivial (fun R x K => by kernel_rfl)
def decL_J1 {R : Type} (m : Nat) (x49 : Pkt) (k0 : Bool → Option R) : Option R :=
  (bnd (df3_D m x49 ((0 : Int), (0 : Int), (0 : Int), (0 : Int), (0 : Int), (0 : Int), false, false, (0 : Int), [], ())) fun y53 => (bif decide (y53.fst = (0 : Int)) then (bnd (lives3_D m) fun y56 => k0 (y56.fst)) else k0 (false)))
def decL_J1i := (spat 48 (tcon0 4 (ptrp 20 0) tnil) (hcons 20 (boxs 29 (.i .u8) (.cons (.i .u8) (.cons (.i .u8) (.cons (.i .u16) (.cons (.i .u8) (.cons (.i .u8) (.cons .b (.cons .b (.cons (.i .u8) (.cons (.ints .u8) .nil)))))))))) hnil))
def decL_J1o := (one .normal [] (spat 48 (tcons 2 (shp .b) tnil) hnil))
def decL_J1f (m : Nat) : (R : Type) → (Unit × Pkt × Unit) → (((Bool × Unit) × Unit) → Option R) → Option R := fun R x K => let x49 := x.2.1; decL_J1 m x49 (fun d0 => K (((d0, ()), ())))
theorem decL_J1k (m : Nat) : CutOk Tryd.prog _ _ decL_J1i decL_J1o (decL_J1f m) (bodyAt Tryd.prog 5 [true, true, true, true, true, false, true, false, false]) :=
  cut_ok ty_mixed (decL_tabok m) (fl := flR) (N := 300) (t := .leaf) trivial (fun R x K => by kernel_rfl)
def decL_J2 {R : Type} (m : Nat) (x77 : ByteArray) (x78 : Pkt) (k0 : Bool → Option R) : Option R :=
  (bnd (rfCheck_D m x78) fun y81 => (bif decide (y81.fst = (0 : Int)) then (bnd (rencode_D m x78) fun y85 => (bif decide (ByteArray.toList (Go.strOfNums y85.fst) = ByteArray.toList x77) then (bnd (lives3_D m) fun y90 => k0 (y90.fst)) else k0 (false))) else k0 (false)))
def decL_J2i := (spat 48 (tcons 3 (shp .s) (tcon0 4 (ptrp 20 0) tnil)) (hcons 20 (boxs 29 (.i .u8) (.cons (.i .u8) (.cons (.i .u8) (.cons (.i .u16) (.cons (.i .u8) (.cons (.i .u8) (.cons .b (.cons .b (.cons (.i .u8) (.cons (.ints .u8) .nil)))))))))) hnil))
def decL_J2o := (one .normal [] (spat 48 (tcons 2 (shp .b) tnil) hnil))
def decL_J2f (m : Nat) : (R : Type) → ((ByteArray × Unit) × Pkt × Unit) → (((Bool × Unit) × Unit) → Option R) → Option R := fun R x K => let x77 := x.1.1; let x78 := x.2.1; decL_J2 m x77 x78 (fun d0 => K (((d0, ()), ())))
theorem decL_J2k (m : Nat) : CutOk Tryd.prog _ _ decL_J2i decL_J2o (decL_J2f m) (bodyAt Tryd.prog 5 [true, true, true, true, true, true, false]) :=
  cut_ok ty_mixed (decL_tabok m) (fl := flR) (N := 300) (t := .leaf) trivial (fun R x K => by kernel_rfl)
def decL_D (m : Nat) (x0 : List Int) : Option (Bool × Unit) :=
  (bif decide ((1100 : Int) < (↑(List.length x0) : Int)) then some ((true, ())) else (bnd (decode_D m x0) fun y8 => (decL_J0 m (x0) (Go.strOfNums x0) (y8.fst.snd.fst) (y8.fst.fst) (fun d33 => (bif d33 then some ((false, ())) else (bif !decide (y8.fst.snd.fst = (0 : Int)) then (decL_J1 m (y8.fst.fst) (fun d59 => some ((d59, ())))) else (decL_J2 m (Go.strOfNums x0) (y8.fst.fst) (fun d95 => some ((d95, ()))))))))))
def decL_con (m : Nat) : Con := ⟨_, _, _, (vcons (shp (.ints .u8)) vnil), bnil, 0, fun _ => rfl, (rfz 0 (shp .b) bnil), fun x b => decL_D m x.1⟩
theorem decL_ok (m : Nat) : ConOk Tryd.prog 5 (decL_con m) :=
  con_ok ty_mixed (decL_tabok m) (fl := flR) (N := 300) (t := (.node .leaf (.node .leaf (.node .leaf (.node .leaf (.node (.node (.cut _ _ decL_J0i [] decL_J0o (decL_J0f m) .leaf) .leaf) (.node (.node .leaf (.node (.node (.cut _ _ decL_J1i [] decL_J1o (decL_J1f m) .leaf) .leaf) .leaf)) (.node (.cut _ _ decL_J2i [] decL_J2o (decL_J2f m) .leaf) .leaf)))))))) (tree_of (Eq.mpr (show TreeOk Tryd.prog (.node .leaf (.node .leaf (.node .leaf (.node .leaf (.node (.node (.cut _ _ decL_J0i [] decL_J0o (decL_J0f m) .leaf) .leaf) (.node (.node .leaf (.node (.node (.cut _ _ decL_J1i [] decL_J1o (decL_J1f m) .leaf) .leaf) .leaf)) (.node (.cut _ _ decL_J2i [] decL_J2o (decL_J2f m) .leaf) .leaf))))))) (bodyAt Tryd.prog 5 []) = (True ∧ (True ∧ (True ∧ (True ∧ (((CutOk Tryd.prog _ _ decL_J0i decL_J0o (decL_J0f m) (bodyAt Tryd.prog 5 [true, true, true, true, false, false]) ∧ True) ∧ True) ∧ ((True ∧ (((CutOk Tryd.prog _ _ decL_J1i decL_J1o (decL_J1f m) (bodyAt Tryd.prog 5 [true, true, true, true, true, false, true, false, false]) ∧ True) ∧ True) ∧ True)) ∧ ((CutOk Tryd.prog _ _ decL_J2i decL_J2o (decL_J2f m) (bodyAt Tryd.prog 5 [true, true, true, true, true, true, false]) ∧ True) ∧ True))))))) by kernel_rfl) ⟨trivial, ⟨trivial, ⟨trivial, ⟨trivial, ⟨⟨⟨decL_J0k m, trivial⟩, trivial⟩, ⟨⟨trivial, ⟨⟨⟨decL_J1k m, trivial⟩, trivial⟩, trivial⟩⟩, ⟨⟨decL_J2k m, trivial⟩, trivial⟩⟩⟩⟩⟩⟩⟩)) (fun x b => by kernel_rfl)
--END decL

end Go.Proofs.YtpdbekbobkjfgaaDoor
