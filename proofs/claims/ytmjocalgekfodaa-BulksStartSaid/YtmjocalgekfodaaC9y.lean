/-
  Plain functions that the code reckons out to, with the proofs.
  Conditions: none.
-/
import Derived.Test.YtmjocalgekfodaaFnP9
import Derived.Test.YtmjocalgekfodaaRF9
import Derived.Test.YtmjocalgekfodaaC9u
import Derived.Test.YtmjocalgekfodaaC9t
import Derived.Test.YtmjocalgekfodaaC9w
import Derived.Test.YtmjocalgekfodaaC9x
namespace Go.Proofs.Ytmjocalgekfodaa
set_option linter.unusedVariables false
set_option maxRecDepth 100000

--BEGIN bdone
def bdone_tab (m : Nat) : List (FuncId × Ent) := []
theorem bdone_tabok (m : Nat) : CallOk Try.prog (tabK Try.prog flJ 300 (bdone_tab m) 6) := tabK_ok ty_mixed (tabok_nil) 6
def bdone_D (m : Nat) (x0 : Int) : Option ((Int × List Int × Unit) × Unit) :=
  (bif makeOb (1 : Nat) x0 x0 true then some ((((1 : Int), List.replicate (Int.toNat x0) (0 : Int), ()), ())) else none)
def bdone_con (m : Nat) : Con := ⟨_, _, _, (vcons (shp (.i .i64)) vnil), bnil, 0, fun _ => rfl, (rfz 0 (shp (.cons (.i .u8) (.cons (.ints .u8) .nil))) bnil), fun x b => bdone_D m x.1⟩
theorem bdone_ok (m : Nat) : ConOk Try.prog 32 (bdone_con m) :=
  con_ok ty_mixed (bdone_tabok m) (fl := flJ) (N := 300) (t := .leaf) (tree_of trivial) (fun x b => by kernel_rfl)
--END bdone

--BEGIN lives9
def lives9_tab (m : Nat) : List (FuncId × Ent) := [(23, .con (bcut_con m)), (26, .con (lst9_con m)), (24, .con (bjoin_con m)), (30, .con (bstart_con m)), (63, .con (bends_con m)), (32, .con (bdone_con m))]
theorem lives9_tabok (m : Nat) : CallOk Try.prog (tabK Try.prog flJ 300 (lives9_tab m) 6) := tabK_ok ty_mixed ((tabok_con (bcut_ok m) (tabok_con (lst9_ok m) (tabok_con (bjoin_ok m) (tabok_con (bstart_ok m) (tabok_con (bends_ok m) (tabok_con (bdone_ok m) tabok_nil))))))) 6
def lives9_J0 {R : Type} (m : Nat) (x63 : List Int) (x64 : List (List Int)) (x65 : Int) (x66 : List (List Int)) (x67 : Int) (x68 : List (List Int)) (x69 : Int) (k0 : Bool → Option R) : Option R :=
  (bif !decide (x65 = (0 : Int)) then k0 (true) else (bif !decide (x67 = (0 : Int)) then k0 (true) else (bif !decide (x69 = (0 : Int)) then k0 (true) else (bnd (lst9_D m x64 [[(1 : Int), (2 : Int)], [(3 : Int), (4 : Int)], [(5 : Int)]]) fun y95 => (bif !decide (y95.fst = (0 : Int)) then k0 (true) else (bnd (lst9_D m x66 [[(1 : Int), (2 : Int)], [(3 : Int), (4 : Int)], []]) fun y106 => (bif !decide (y106.fst = (0 : Int)) then k0 (true) else (bnd (lst9_D m x68 [[]]) fun y114 => k0 (!decide (y114.fst = (0 : Int)))))))))))
def lives9_J0i := (spat 201 (tcons 1 (shp (.ints .u8)) (tcons 2 (shp (.row (.ints .u8))) (tcons 3 (shp (.i .i64)) (tcons 4 (shp (.row (.ints .u8))) (tcons 5 (shp (.i .i64)) (tcons 6 (shp (.row (.ints .u8))) (tcons 7 (shp (.i .i64)) tnil))))))) hnil)
def lives9_J0o := (one .normal [] (spat 201 (tcons 1 (shp (.ints .u8)) (tcons 69 (shp .b) tnil)) hnil))
def lives9_J0f (m : Nat) : (R : Type) → ((List Int × List (List Int) × Int × List (List Int) × Int × List (List Int) × Int × Unit) × Unit) → (((List Int × Bool × Unit) × Unit) → Option R) → Option R := fun R x K => let x63 := x.1.1; let x64 := x.1.2.1; let x65 := x.1.2.2.1; let x66 := x.1.2.2.2.1; let x67 := x.1.2.2.2.2.1; let x68 := x.1.2.2.2.2.2.1; let x69 := x.1.2.2.2.2.2.2.1; lives9_J0 m x63 x64 x65 x66 x67 x68 x69 (fun d0 => K ((((x63), (d0, ())), ())))
theorem lives9_J0k (m : Nat) : CutOk Try.prog _ _ lives9_J0i lives9_J0o (lives9_J0f m) (bodyAt Try.prog 25 [true, true, true, true, true, false, false]) :=
  cut_ok ty_mixed (lives9_tabok m) (fl := flJ) (N := 300) (t := .leaf) trivial (fun R x K => by kernel_rfl)
def lives9_J1 {R : Type} (m : Nat) (x148 : List Int) (x149 : Int) (x150 : List (List Int)) (x151 : List Int) (k0 : Bool → Option R) : Option R :=
  (bif !decide (x149 = (0 : Int)) then k0 (true) else (bnd (lst9_D m x150 [[(1 : Int), (2 : Int), (3 : Int), (4 : Int), (5 : Int)], []]) fun y160 => (bif !decide (y160.fst = (0 : Int)) then k0 (true) else k0 (!decide (ByteArray.toList (Go.strOfNums x151) = ByteArray.toList { data := { toList := [(6 : UInt8), (7 : UInt8)] } })))))
def lives9_J1i := (spat 201 (tcons 1 (shp (.ints .u8)) (tcons 3 (shp (.i .i64)) (tcons 8 (shp (.row (.ints .u8))) (tcons 9 (shp (.ints .u8)) tnil)))) hnil)
def lives9_J1o := (one .normal [] (spat 201 (tcons 1 (shp (.ints .u8)) (tcons 95 (shp .b) tnil)) hnil))
def lives9_J1f (m : Nat) : (R : Type) → ((List Int × Int × List (List Int) × List Int × Unit) × Unit) → (((List Int × Bool × Unit) × Unit) → Option R) → Option R := fun R x K => let x148 := x.1.1; let x149 := x.1.2.1; let x150 := x.1.2.2.1; let x151 := x.1.2.2.2.1; lives9_J1 m x148 x149 x150 x151 (fun d0 => K ((((x148), (d0, ())), ())))
theorem lives9_J1k (m : Nat) : CutOk Try.prog _ _ lives9_J1i lives9_J1o (lives9_J1f m) (bodyAt Try.prog 25 [true, true, true, true, true, true, true, false, false]) :=
  cut_ok ty_mixed (lives9_tabok m) (fl := flJ) (N := 300) (t := .leaf) trivial (fun R x K => by kernel_rfl)
def lives9_J2 {R : Type} (m : Nat) (x336 : Bool) (x337 : Bool) (x338 : Bool) (x339 : Bool) (x340 : Int × List Int × Int × Unit) (x341 : Int × List Int × Int × Unit) (x342 : Int × List Int × Int × Unit) (x343 : Int × List Int × Int × Unit) (k0 : Bool → Option R) : Option R :=
  (bif !decide (x340.fst = (0 : Int)) then k0 (true) else (bif !decide (x340.snd.snd.fst = (10 : Int)) then k0 (true) else (bif x336 then k0 (true) else (bif !decide (x341.fst = (0 : Int)) then k0 (true) else (bif !decide ((↑(List.length x341.snd.fst) : Int) = (3 : Int)) then k0 (true) else (bif !x337 then k0 (true) else (bif !decide (x342.fst = (13 : Int)) then k0 (true) else (bif !decide (x342.snd.snd.fst = (8 : Int)) then k0 (true) else (bif !x338 then k0 (true) else (bif !decide (x343.fst = (12 : Int)) then k0 (true) else (bif !decide (x343.snd.snd.fst = (2 : Int)) then k0 (true) else k0 (!x339))))))))))))
def lives9_J2i := (spat 201 (tcon0 11 (ptrp 27 0) (tcons 12 (shp .b) (tcon0 13 (ptrp 29 0) (tcons 14 (shp .b) (tcon0 15 (ptrp 31 0) (tcons 16 (shp .b) (tcon0 17 (ptrp 33 0) (tcons 18 (shp .b) tnil)))))))) (hcons 27 (boxs 90 (.i .i64) (.cons (.ints .u8) (.cons (.i .i64) .nil))) (hcons 29 (boxs 90 (.i .i64) (.cons (.ints .u8) (.cons (.i .i64) .nil))) (hcons 31 (boxs 90 (.i .i64) (.cons (.ints .u8) (.cons (.i .i64) .nil))) (hcons 33 (boxs 90 (.i .i64) (.cons (.ints .u8) (.cons (.i .i64) .nil))) hnil)))))
def lives9_J2o := (one .normal [] (spat 201 (tcons 184 (shp .b) tnil) hnil))
def lives9_J2f (m : Nat) : (R : Type) → ((Bool × Bool × Bool × Bool × Unit) × (Int × List Int × Int × Unit) × (Int × List Int × Int × Unit) × (Int × List Int × Int × Unit) × (Int × List Int × Int × Unit) × Unit) → (((Bool × Unit) × Unit) → Option R) → Option R := fun R x K => let x336 := x.1.1; let x337 := x.1.2.1; let x338 := x.1.2.2.1; let x339 := x.1.2.2.2.1; let x340 := x.2.1; let x341 := x.2.2.1; let x342 := x.2.2.2.1; let x343 := x.2.2.2.2.1; lives9_J2 m x336 x337 x338 x339 x340 x341 x342 x343 (fun d0 => K (((d0, ()), ())))
theorem lives9_J2k (m : Nat) : CutOk Try.prog _ _ lives9_J2i lives9_J2o (lives9_J2f m) (bodyAt Try.prog 25 [true, true, true, true, true, true, true, true, true, true, true, true, true, false, false]) :=
  cut_ok ty_mixed (lives9_tabok m) (fl := flJ) (N := 300) (t := .leaf) trivial (fun R x K => by kernel_rfl)
def lives9_J3 {R : Type} (m : Nat) (x471 : Int) (x472 : Int) (k0 : Bool → Option R) : Option R :=
  (bif decide (x471 = (1 : Int)) then k0 (decide (x472 = (3 : Int))) else k0 (false))
def lives9_J3i := (spat 201 (tcons 3 (shp (.i .i64)) (tcons 5 (shp (.i .i64)) tnil)) hnil)
def lives9_J3o := (one .normal [] (spat 201 (tcons 0 (shp .b) tnil) hnil))
def lives9_J3f (m : Nat) : (R : Type) → ((Int × Int × Unit) × Unit) → (((Bool × Unit) × Unit) → Option R) → Option R := fun R x K => let x471 := x.1.1; let x472 := x.1.2.1; lives9_J3 m x471 x472 (fun d0 => K (((d0, ()), ())))
theorem lives9_J3k (m : Nat) : CutOk Try.prog _ _ lives9_J3i lives9_J3o (lives9_J3f m) (bodyAt Try.prog 25 [true, true, true, true, true, true, true, true, true, true, true, true, true, true, true, true, false]) :=
  cut_ok ty_mixed (lives9_tabok m) (fl := flJ) (N := 300) (t := .leaf) trivial (fun R x K => by kernel_rfl)
def lives9_D (m : Nat)  : Option (Bool × Unit) :=
  (bnd (bcut_D m [(1 : Int), (2 : Int), (3 : Int), (4 : Int), (5 : Int)] (2 : Int) false) fun y4 => (bnd (bcut_D m (List.take (Int.toNat (4 : Int)) [(1 : Int), (2 : Int), (3 : Int), (4 : Int), (5 : Int)]) (2 : Int) true) fun y9 => (bnd (bcut_D m [] (2 : Int) true) fun y13 => (lives9_J0 m ([(1 : Int), (2 : Int), (3 : Int), (4 : Int), (5 : Int)]) (y4.fst.fst) (y4.fst.snd.fst) (y9.fst.fst) (y9.fst.snd.fst) (y13.fst.fst) (y13.fst.snd.fst) (fun d117 => (bif d117 then some ((false, ())) else (bnd (bjoin_D m [[(1 : Int), (2 : Int)], [(3 : Int), (4 : Int)], [(5 : Int)], [], [(6 : Int), (7 : Int)]] (2 : Int)) fun y128 => (lives9_J1 m ([(1 : Int), (2 : Int), (3 : Int), (4 : Int), (5 : Int)]) (y128.fst.snd.snd.fst) (y128.fst.fst) (y128.fst.snd.fst) (fun d168 => (bif d168 then some ((false, ())) else (bnd (bdone_D m (8 : Int)) fun y177 => (bnd (bdone_D m (2 : Int)) fun y180 => (bnd (bends_D m (true, (1 : Int), (8 : Int), false, [], false, (10 : Int), ()) [y177.fst, ((4 : Int), [], ()), y180.fst]) fun y183 => (bnd (bdone_D m (3 : Int)) fun y191 => (bnd (bends_D m (true, (1 : Int), (8 : Int), false, [], false, (10 : Int), ()) [y191.fst]) fun y194 => (bnd (bdone_D m (8 : Int)) fun y202 => (bnd (bdone_D m (3 : Int)) fun y204 => (bnd (bends_D m (true, (1 : Int), (8 : Int), false, [], false, (10 : Int), ()) [y202.fst, y204.fst]) fun y207 => (bnd (bdone_D m (0 : Int)) fun y217 => (bnd (bends_D m (false, (1 : Int), (2 : Int), false, List.take (Int.toNat (4 : Int)) [(1 : Int), (2 : Int), (3 : Int), (4 : Int), (5 : Int)], false, (0 : Int), ()) [y217.fst, ((3 : Int), [], ())]) fun y221 => (lives9_J2 m (y183.fst.snd.fst) (y194.fst.snd.fst) (y207.fst.snd.fst) (y221.fst.snd.fst) (y183.fst.fst) (y194.fst.fst) (y207.fst.fst) (y221.fst.fst) (fun d453 => (bif d453 then some ((false, ())) else (bnd (bstart_D m (true, (0 : Int), (8 : Int), false, [], false, (0 : Int), ())) fun y458 => (bnd (bstart_D m (true, (1 : Int), (8 : Int), false, [], false, (65537 : Int), ())) fun y463 => (lives9_J3 m (y458.fst.snd.fst) (y463.fst.snd.fst) (fun d478 => some ((d478, ())))))))))))))))))))))))))))))
def lives9_con (m : Nat) : Con := ⟨_, _, _, vnil, bnil, 0, fun _ => rfl, (rfz 0 (shp .b) bnil), fun x b => lives9_D m⟩
theorem lives9_ok (m : Nat) : ConOk Try.prog 25 (lives9_con m) :=
  con_ok ty_mixed (lives9_tabok m) (fl := flJ) (N := 300) (t := (.node .leaf (.node .leaf (.node .leaf (.node .leaf (.node .leaf (.node (.node (.cut _ _ lives9_J0i [] lives9_J0o (lives9_J0f m) .leaf) .leaf) (.node .leaf (.node (.node (.cut _ _ lives9_J1i [] lives9_J1o (lives9_J1f m) .leaf) .leaf) (.node .leaf (.node .leaf (.node .leaf (.node .leaf (.node .leaf (.node (.node (.cut _ _ lives9_J2i [] lives9_J2o (lives9_J2f m) .leaf) .leaf) (.node .leaf (.node .leaf (.node (.cut _ _ lives9_J3i [] lives9_J3o (lives9_J3f m) .leaf) .leaf)))))))))))))))))) (tree_of (Eq.mpr (show TreeOk Try.prog (.node .leaf (.node .leaf (.node .leaf (.node .leaf (.node .leaf (.node (.node (.cut _ _ lives9_J0i [] lives9_J0o (lives9_J0f m) .leaf) .leaf) (.node .leaf (.node (.node (.cut _ _ lives9_J1i [] lives9_J1o (lives9_J1f m) .leaf) .leaf) (.node .leaf (.node .leaf (.node .leaf (.node .leaf (.node .leaf (.node (.node (.cut _ _ lives9_J2i [] lives9_J2o (lives9_J2f m) .leaf) .leaf) (.node .leaf (.node .leaf (.node (.cut _ _ lives9_J3i [] lives9_J3o (lives9_J3f m) .leaf) .leaf))))))))))))))))) (bodyAt Try.prog 25 []) = (True ∧ (True ∧ (True ∧ (True ∧ (True ∧ (((CutOk Try.prog _ _ lives9_J0i lives9_J0o (lives9_J0f m) (bodyAt Try.prog 25 [true, true, true, true, true, false, false]) ∧ True) ∧ True) ∧ (True ∧ (((CutOk Try.prog _ _ lives9_J1i lives9_J1o (lives9_J1f m) (bodyAt Try.prog 25 [true, true, true, true, true, true, true, false, false]) ∧ True) ∧ True) ∧ (True ∧ (True ∧ (True ∧ (True ∧ (True ∧ (((CutOk Try.prog _ _ lives9_J2i lives9_J2o (lives9_J2f m) (bodyAt Try.prog 25 [true, true, true, true, true, true, true, true, true, true, true, true, true, false, false]) ∧ True) ∧ True) ∧ (True ∧ (True ∧ ((CutOk Try.prog _ _ lives9_J3i lives9_J3o (lives9_J3f m) (bodyAt Try.prog 25 [true, true, true, true, true, true, true, true, true, true, true, true, true, true, true, true, false]) ∧ True) ∧ True))))))))))))))))) by kernel_rfl) ⟨trivial, ⟨trivial, ⟨trivial, ⟨trivial, ⟨trivial, ⟨⟨⟨lives9_J0k m, trivial⟩, trivial⟩, ⟨trivial, ⟨⟨⟨lives9_J1k m, trivial⟩, trivial⟩, ⟨trivial, ⟨trivial, ⟨trivial, ⟨trivial, ⟨trivial, ⟨⟨⟨lives9_J2k m, trivial⟩, trivial⟩, ⟨trivial, ⟨trivial, ⟨⟨lives9_J3k m, trivial⟩, trivial⟩⟩⟩⟩⟩⟩⟩⟩⟩⟩⟩⟩⟩⟩⟩⟩⟩)) (fun x b => by kernel_rfl)
--END lives9

--BEGIN lawJ
--END lawJ

--BEGIN rerr9
def rerr9_tab (m : Nat) : List (FuncId × Ent) := []
theorem rerr9_tabok (m : Nat) : CallOk Try.prog (tabK Try.prog flJ 300 (rerr9_tab m) 6) := tabK_ok ty_mixed (tabok_nil) 6
def rerr9_J0 {R : Type} (m : Nat) (x25 : Bool × Int × Int × Bool × List Int × Bool × Int × Unit) (k0 : Bool → Option R) : Option R :=
  (bif decide (x25.snd.fst = (0 : Int)) then k0 (true) else (bif decide ((15 : Int) < x25.snd.fst) then k0 (true) else (bif decide (x25.snd.snd.fst < (1 : Int)) then k0 (true) else k0 (decide ((1024 : Int) < x25.snd.snd.fst)))))
def rerr9_J0i := (spat 57 (tcon0 1 (ptrp 17 0) tnil) (hcons 17 (boxs 73 .b (.cons (.i .u8) (.cons (.i .i64) (.cons .b (.cons (.ints .u8) (.cons .b (.cons (.i .i64) .nil))))))) hnil))
def rerr9_J0o := (one .normal [] (spat 57 (tcon0 1 (ptrp 17 0) (tcons 20 (shp .b) tnil)) (hcons 17 (boxs 73 .b (.cons (.i .u8) (.cons (.i .i64) (.cons .b (.cons (.ints .u8) (.cons .b (.cons (.i .i64) .nil))))))) hnil)))
def rerr9_J0f (m : Nat) : (R : Type) → (Unit × (Bool × Int × Int × Bool × List Int × Bool × Int × Unit) × Unit) → (((Bool × Unit) × (Bool × Int × Int × Bool × List Int × Bool × Int × Unit) × Unit) → Option R) → Option R := fun R x K => let x25 := x.2.1; rerr9_J0 m x25 (fun d0 => K (((d0, ()), ((x25), ()))))
theorem rerr9_J0k (m : Nat) : CutOk Try.prog _ _ rerr9_J0i rerr9_J0o (rerr9_J0f m) (bodyAt Try.prog 29 [true, false, false]) :=
  cut_ok ty_mixed (rerr9_tabok m) (fl := flJ) (N := 300) (t := .leaf) trivial (fun R x K => by kernel_rfl)
def rerr9_J1 {R : Type} (m : Nat) (x94 : Bool × Int × Int × Bool × List Int × Bool × Int × Unit) (k0 : Bool → Option R) : Option R :=
  (bif x94.fst then (bif !decide ((↑(List.length x94.snd.snd.snd.snd.fst) : Int) = (0 : Int)) then k0 (true) else (bif x94.snd.snd.snd.snd.snd.fst then k0 (true) else (bif decide (x94.snd.snd.snd.snd.snd.snd.fst < (0 : Int)) then k0 (true) else (bif !x94.fst then k0 (!decide (x94.snd.snd.snd.snd.snd.snd.fst = (0 : Int))) else k0 (false))))) else (bif !x94.fst then k0 (!decide (x94.snd.snd.snd.snd.snd.snd.fst = (0 : Int))) else k0 (false)))
def rerr9_J1i := (spat 57 (tcon0 1 (ptrp 17 0) tnil) (hcons 17 (boxs 73 .b (.cons (.i .u8) (.cons (.i .i64) (.cons .b (.cons (.ints .u8) (.cons .b (.cons (.i .i64) .nil))))))) hnil))
def rerr9_J1o := (one .normal [] (spat 57 (tcon0 1 (ptrp 17 0) (tcons 47 (shp .b) tnil)) (hcons 17 (boxs 73 .b (.cons (.i .u8) (.cons (.i .i64) (.cons .b (.cons (.ints .u8) (.cons .b (.cons (.i .i64) .nil))))))) hnil)))
def rerr9_J1f (m : Nat) : (R : Type) → (Unit × (Bool × Int × Int × Bool × List Int × Bool × Int × Unit) × Unit) → (((Bool × Unit) × (Bool × Int × Int × Bool × List Int × Bool × Int × Unit) × Unit) → Option R) → Option R := fun R x K => let x94 := x.2.1; rerr9_J1 m x94 (fun d0 => K (((d0, ()), ((x94), ()))))
theorem rerr9_J1k (m : Nat) : CutOk Try.prog _ _ rerr9_J1i rerr9_J1o (rerr9_J1f m) (bodyAt Try.prog 29 [true, true, false, false]) :=
  cut_ok ty_mixed (rerr9_tabok m) (fl := flJ) (N := 300) (t := .leaf) trivial (fun R x K => by kernel_rfl)
def rerr9_J2 {R : Type} (m : Nat) (x151 : Bool × Int × Int × Bool × List Int × Bool × Int × Unit) (k0 : Bool → Option R) : Option R :=
  (bif decide ((65536 : Int) < (↑(List.length x151.snd.snd.snd.snd.fst) : Int)) then k0 (true) else k0 (decide ((65536 : Int) < x151.snd.snd.snd.snd.snd.snd.fst)))
def rerr9_J2i := (spat 57 (tcon0 1 (ptrp 17 0) tnil) (hcons 17 (boxs 73 .b (.cons (.i .u8) (.cons (.i .i64) (.cons .b (.cons (.ints .u8) (.cons .b (.cons (.i .i64) .nil))))))) hnil))
def rerr9_J2o := (one .normal [] (spat 57 (tcons 56 (shp .b) tnil) hnil))
def rerr9_J2f (m : Nat) : (R : Type) → (Unit × (Bool × Int × Int × Bool × List Int × Bool × Int × Unit) × Unit) → (((Bool × Unit) × Unit) → Option R) → Option R := fun R x K => let x151 := x.2.1; rerr9_J2 m x151 (fun d0 => K (((d0, ()), ())))
theorem rerr9_J2k (m : Nat) : CutOk Try.prog _ _ rerr9_J2i rerr9_J2o (rerr9_J2f m) (bodyAt Try.prog 29 [true, true, true, false, false]) :=
  cut_ok ty_mixed (rerr9_tabok m) (fl := flJ) (N := 300) (t := .leaf) trivial (fun R x K => by kernel_rfl)
def rerr9_D (m : Nat) (x0 : Bool × Int × Int × Bool × List Int × Bool × Int × Unit) : Option (Int × Unit) :=
  (rerr9_J0 m (x0) (fun d47 => (bif d47 then some (((1 : Int), ())) else (rerr9_J1 m (x0) (fun d138 => (bif d138 then some (((1 : Int), ())) else (rerr9_J2 m (x0) (fun d161 => (bif d161 then some (((3 : Int), ())) else some (((0 : Int), ())))))))))))
def rerr9_con (m : Nat) : Con := ⟨_, _, _, (vcons (shp (.cons .b (.cons (.i .u8) (.cons (.i .i64) (.cons .b (.cons (.ints .u8) (.cons .b (.cons (.i .i64) .nil)))))))) vnil), bnil, 0, fun _ => rfl, (rfz 0 (shp (.i .i64)) bnil), fun x b => rerr9_D m x.1⟩
theorem rerr9_ok (m : Nat) : ConOk Try.prog 29 (rerr9_con m) :=
  con_ok ty_mixed (rerr9_tabok m) (fl := flJ) (N := 300) (t := (.node .leaf (.node (.node (.cut _ _ rerr9_J0i [] rerr9_J0o (rerr9_J0f m) .leaf) .leaf) (.node (.node (.cut _ _ rerr9_J1i [] rerr9_J1o (rerr9_J1f m) .leaf) .leaf) (.node (.node (.cut _ _ rerr9_J2i [] rerr9_J2o (rerr9_J2f m) .leaf) .leaf) .leaf))))) (tree_of (Eq.mpr (show TreeOk Try.prog (.node .leaf (.node (.node (.cut _ _ rerr9_J0i [] rerr9_J0o (rerr9_J0f m) .leaf) .leaf) (.node (.node (.cut _ _ rerr9_J1i [] rerr9_J1o (rerr9_J1f m) .leaf) .leaf) (.node (.node (.cut _ _ rerr9_J2i [] rerr9_J2o (rerr9_J2f m) .leaf) .leaf) .leaf)))) (bodyAt Try.prog 29 []) = (True ∧ (((CutOk Try.prog _ _ rerr9_J0i rerr9_J0o (rerr9_J0f m) (bodyAt Try.prog 29 [true, false, false]) ∧ True) ∧ True) ∧ (((CutOk Try.prog _ _ rerr9_J1i rerr9_J1o (rerr9_J1f m) (bodyAt Try.prog 29 [true, true, false, false]) ∧ True) ∧ True) ∧ (((CutOk Try.prog _ _ rerr9_J2i rerr9_J2o (rerr9_J2f m) (bodyAt Try.prog 29 [true, true, true, false, false]) ∧ True) ∧ True) ∧ True)))) by kernel_rfl) ⟨trivial, ⟨⟨⟨rerr9_J0k m, trivial⟩, trivial⟩, ⟨⟨⟨rerr9_J1k m, trivial⟩, trivial⟩, ⟨⟨⟨rerr9_J2k m, trivial⟩, trivial⟩, trivial⟩⟩⟩⟩)) (fun x b => by kernel_rfl)
--END rerr9

end Go.Proofs.Ytmjocalgekfodaa

