/-
  Plain functions that the code reckons out to, with the proofs.
  Conditions: none.
-/
import Derived.Test.YtngghkoghbpceaaDoorE7a
namespace Go.Proofs.YtngghkoghbpceaaDoor
set_option linter.unusedVariables false
set_option maxRecDepth 100000

--BEGIN spkZ
def spkZ_tab (m : Nat) : List (FuncId × Ent) := [(171, .con (cloneB_con m)), (62, .con (pkChk_con m)), (111, .con (send6_con m))]
theorem spkZ_tabok (m : Nat) : CallOk Tryd.prog (tabK Tryd.prog fl7d 300 (spkZ_tab m) 6) := tabK_ok ty_mixed ((tabok_con (cloneB_ok m) (tabok_con (pkChk_ok m) (tabok_con (send6_ok m) tabok_nil)))) 6
def spkZ_D (m : Nat) (x0 : Pkt) (x1 : List Int) : Option ((Pkt × Bool × List (Int × Int × Int × Int × Int × Int × Bool × Bool × Int × List Int × Bool × Int × Unit) × Unit) × (List Int × Unit) × Unit) :=
  (bnd (pkChk_D m x0) fun y11 => (bif !decide (y11.fst = (0 : Int)) then some (((((0 : Int), (0 : Int), (0 : Int), (0 : Int), (0 : Int), (0 : Int), false, false, (0 : Int), [], ()), false, [], ()), (x1, ()), ())) else (bnd (send6_D m x0 true x1 []) fun y20 => (bif y20.fst then (bif decide ((0 : Int) ≤ (↑(List.length y20.snd.snd.fst) : Int)) && (decide ((↑(List.length y20.snd.snd.fst) : Int) ≤ (↑(List.length y20.snd.snd.fst) : Int)) && decide (Int.toNat (↑(List.length y20.snd.snd.fst) : Int) ≤ List.length y20.snd.snd.fst)) then some (((((0 : Int), (0 : Int), (0 : Int), (0 : Int), (0 : Int), (0 : Int), false, false, (0 : Int), [], ()), false, List.take (Int.toNat (↑(List.length y20.snd.snd.fst) : Int)) y20.snd.snd.fst, ()), y20.snd.fst, ())) else none) else (bif decide ((0 : Int) ≤ (↑(List.length y20.snd.snd.fst) : Int)) && (decide ((↑(List.length y20.snd.snd.fst) : Int) ≤ (↑(List.length y20.snd.snd.fst) : Int)) && decide (Int.toNat (↑(List.length y20.snd.snd.fst) : Int) ≤ List.length y20.snd.snd.fst)) then some (((((0 : Int), (0 : Int), (0 : Int), (0 : Int), (0 : Int), (0 : Int), false, false, (0 : Int), [], ()), false, List.take (Int.toNat (↑(List.length y20.snd.snd.fst) : Int)) y20.snd.snd.fst, ()), y20.snd.fst, ())) else none)))))
def spkZ_con (m : Nat) : Con := ⟨_, _, _, (vcon0 (datp (D.v .nilIface)) (vcon0 (ifcp 71 (ptrp 0 0)) (vcons (shp shPkt) vnil))), (bcons (boxp 251 (vcons (shp (.ints .u8)) vnil)) bnil), 1, fun _ => rfl, (rfz 1 (tupp (vcons (shp shPkt) (vcons (shp .b) (vcons (shp (.row (.cons (.i .u8) (.cons (.i .u8) (.cons (.i .u8) (.cons (.i .u16) (.cons (.i .u8) (.cons (.i .u8) (.cons .b (.cons .b (.cons (.i .u8) (.cons (.ints .u8) (.cons .b (.cons (.i .u8) .nil)))))))))))))) vnil)))) (bcons (boxp 251 (vcons (shp (.ints .u8)) vnil)) bnil)), fun x b => spkZ_D m x.1 b.1.1⟩
theorem spkZ_ok (m : Nat) : ConOk Tryd.prog 71 (spkZ_con m) :=
  con_ok ty_mixed (spkZ_tabok m) (fl := fl7d) (N := 300) (t := .leaf) (tree_of trivial) (fun x b => by kernel_rfl)
--END spkZ

--BEGIN sayZ
def sayZ_tab (m : Nat) : List (FuncId × Ent) := [(71, .con (spkZ_con m))]
theorem sayZ_tabok (m : Nat) : CallOk Tryd.prog (tabK Tryd.prog fl7d 300 (sayZ_tab m) 6) := tabK_ok ty_mixed ((tabok_con (spkZ_ok m) tabok_nil)) 6
def sayZ_J0 {R : Type} (m : Nat) (x29 : Bool) (x30 : List (Int × Int × Int × Int × Int × Int × Bool × Bool × Int × List Int × Bool × Int × Unit)) (x31 : List Int) (x32 : List (Int × Int × Int × Int × Int × Int × Bool × Bool × Int × List Int × Bool × Int × Unit)) (x33 : Int) (x34 : Int) (x35 : Int) (x36 : Int) (x37 : Int) (x38 : Int) (x39 : Bool) (x40 : Bool) (x41 : Int) (x42 : Pkt) (k0 : Bool → Option R) : Option R :=
  (bif decide ((0 : Int) < (↑(List.length x30) : Int)) then (bif inB (0 : Int) (List.length x30) then k0 (!decide ((List.getD x30 (Int.toNat (0 : Int)) ((0 : Int), (0 : Int), (0 : Int), (0 : Int), (0 : Int), (0 : Int), false, false, (0 : Int), [], false, (0 : Int), ())).snd.snd.snd.snd.snd.snd.snd.snd.snd.snd.snd.fst = (0 : Int))) else none) else k0 (false))
def sayZ_J0i := (spat 33 (tcon0 1 (ptrp 0 0) (tcon0 5 (ptrp 21 0) (tcon0 7 (ptrp 23 0) (tcons 8 (shp .b) (tcons 9 (shp (.row (.cons (.i .u8) (.cons (.i .u8) (.cons (.i .u8) (.cons (.i .u16) (.cons (.i .u8) (.cons (.i .u8) (.cons .b (.cons .b (.cons (.i .u8) (.cons (.ints .u8) (.cons .b (.cons (.i .u8) .nil)))))))))))))) tnil))))) (hcon0 0 (boxp 186 (vcon0 (datp (.v .nilIface)) vnil)) (hcon0 1 (boxp 188 (vcon0 (ifcp 71 (ptrp 2 0)) vnil)) (hcons 2 (boxp 251 (vcons (shp (.ints .u8)) vnil)) (hcon0 3 (boxp 76 (vcon0 (ownp 4) vnil)) (hcons 4 (rowp 93 (.cons (.i .u8) (.cons (.i .u8) (.cons (.i .u8) (.cons (.i .u16) (.cons (.i .u8) (.cons (.i .u8) (.cons .b (.cons .b (.cons (.i .u8) (.cons (.ints .u8) (.cons .b (.cons (.i .u8) .nil))))))))))))) (hcons 21 (boxp 57 (vcons (shp (.i .u8)) (vcons (shp (.i .u8)) (vcons (shp (.i .u8)) (vcons (shp (.i .u16)) (vcons (shp (.i .u8)) (vcons (shp (.i .u8)) (vcons (shp .b) (vcons (shp .b) (vcons (shp (.i .u8)) (vcon0 (datp (.v (.slice none 0 0))) vnil))))))))))) (hcons 23 (boxs 57 (.i .u8) (.cons (.i .u8) (.cons (.i .u8) (.cons (.i .u16) (.cons (.i .u8) (.cons (.i .u8) (.cons .b (.cons .b (.cons (.i .u8) (.cons (.ints .u8) .nil)))))))))) hnil))))))))
def sayZ_J0o := (one .normal [] (spat 33 (tcon0 1 (ptrp 0 0) (tcon0 5 (ptrp 21 0) (tcon0 7 (ptrp 23 0) (tcons 8 (shp .b) (tcons 30 (shp .b) tnil))))) (hcon0 0 (boxp 186 (vcon0 (datp (.v .nilIface)) vnil)) (hcon0 1 (boxp 188 (vcon0 (ifcp 71 (ptrp 2 0)) vnil)) (hcons 2 (boxp 251 (vcons (shp (.ints .u8)) vnil)) (hcon0 3 (boxp 76 (vcon0 (ownp 4) vnil)) (hcons 4 (rowp 93 (.cons (.i .u8) (.cons (.i .u8) (.cons (.i .u8) (.cons (.i .u16) (.cons (.i .u8) (.cons (.i .u8) (.cons .b (.cons .b (.cons (.i .u8) (.cons (.ints .u8) (.cons .b (.cons (.i .u8) .nil))))))))))))) (hcons 21 (boxp 57 (vcons (shp (.i .u8)) (vcons (shp (.i .u8)) (vcons (shp (.i .u8)) (vcons (shp (.i .u16)) (vcons (shp (.i .u8)) (vcons (shp (.i .u8)) (vcons (shp .b) (vcons (shp .b) (vcons (shp (.i .u8)) (vcon0 (datp (.v (.slice none 0 0))) vnil))))))))))) (hcons 23 (boxs 57 (.i .u8) (.cons (.i .u8) (.cons (.i .u8) (.cons (.i .u16) (.cons (.i .u8) (.cons (.i .u8) (.cons .b (.cons .b (.cons (.i .u8) (.cons (.ints .u8) .nil)))))))))) hnil)))))))))
def sayZ_J0f (m : Nat) : (R : Type) → ((Bool × List (Int × Int × Int × Int × Int × Int × Bool × Bool × Int × List Int × Bool × Int × Unit) × Unit) × (List Int × Unit) × List (Int × Int × Int × Int × Int × Int × Bool × Bool × Int × List Int × Bool × Int × Unit) × (Int × Int × Int × Int × Int × Int × Bool × Bool × Int × Unit) × Pkt × Unit) → (((Bool × Bool × Unit) × (List Int × Unit) × List (Int × Int × Int × Int × Int × Int × Bool × Bool × Int × List Int × Bool × Int × Unit) × (Int × Int × Int × Int × Int × Int × Bool × Bool × Int × Unit) × Pkt × Unit) → Option R) → Option R := fun R x K => let x29 := x.1.1; let x30 := x.1.2.1; let x31 := x.2.1.1; let x32 := x.2.2.1; let x33 := x.2.2.2.1.1; let x34 := x.2.2.2.1.2.1; let x35 := x.2.2.2.1.2.2.1; let x36 := x.2.2.2.1.2.2.2.1; let x37 := x.2.2.2.1.2.2.2.2.1; let x38 := x.2.2.2.1.2.2.2.2.2.1; let x39 := x.2.2.2.1.2.2.2.2.2.2.1; let x40 := x.2.2.2.1.2.2.2.2.2.2.2.1; let x41 := x.2.2.2.1.2.2.2.2.2.2.2.2.1; let x42 := x.2.2.2.2.1; sayZ_J0 m x29 x30 x31 x32 x33 x34 x35 x36 x37 x38 x39 x40 x41 x42 (fun d0 => K ((((x29), (d0, ())), (((x31), ()), ((x32), (((x33), ((x34), ((x35), ((x36), ((x37), ((x38), ((x39), ((x40), ((x41), ()))))))))), ((x42), ())))))))
theorem sayZ_J0k (m : Nat) : CutOk Tryd.prog _ _ sayZ_J0i sayZ_J0o (sayZ_J0f m) (bodyAt Tryd.prog 70 [true, true, true, false, false]) :=
  cut_ok ty_mixed (sayZ_tabok m) (fl := fl7d) (N := 300) (t := .leaf) trivial (fun R x K => by kernel_rfl)
def sayZ_D (m : Nat) (x0 : Pkt) (x1 : List Int) (x2 : List (Int × Int × Int × Int × Int × Int × Bool × Bool × Int × List Int × Bool × Int × Unit)) : Option ((Pkt × Bool × Unit) × (List Int × Unit) × List (Int × Int × Int × Int × Int × Int × Bool × Bool × Int × List Int × Bool × Int × Unit) × Unit) :=
  (bnd (spkZ_D m x0 x1) fun y11 => (bif growOb (48 : Nat) (List.length x2 + List.length y11.fst.snd.snd.fst) then (sayZ_J0 m (y11.fst.snd.fst) (y11.fst.snd.snd.fst) (y11.snd.fst.fst) (x2 ++ y11.fst.snd.snd.fst) ((0 : Int)) ((0 : Int)) ((0 : Int)) ((0 : Int)) ((0 : Int)) ((0 : Int)) (false) (false) ((0 : Int)) (y11.fst.fst) (fun d52 => (bif d52 then some (((y11.fst.fst, y11.fst.snd.fst, ()), y11.snd.fst, x2 ++ y11.fst.snd.snd.fst, ())) else some (((y11.fst.fst, y11.fst.snd.fst, ()), y11.snd.fst, x2 ++ y11.fst.snd.snd.fst, ()))))) else none))
def sayZ_con (m : Nat) : Con := ⟨_, _, _, (vcons (shp shPkt) (vcon0 (ptrp 0 0) (vcon0 (ptrp 1 0) (vcon0 (ptrp 3 0) vnil)))), (bcon0 (boxp 186 (vcon0 (datp (D.v .nilIface)) vnil)) (bcon0 (boxp 188 (vcon0 (ifcp 71 (ptrp 2 0)) vnil)) (bcons (boxp 251 (vcons (shp (.ints .u8)) vnil)) (bcon0 (boxp 76 (vcon0 (ownp 4) vnil)) (bcons (rowp 93 (.cons (.i .u8) (.cons (.i .u8) (.cons (.i .u8) (.cons (.i .u16) (.cons (.i .u8) (.cons (.i .u8) (.cons .b (.cons .b (.cons (.i .u8) (.cons (.ints .u8) (.cons .b (.cons (.i .u8) .nil))))))))))))) bnil))))), 5, fun _ => rfl, (rfz 5 (tupp (vcons (shp shPkt) (vcons (shp .b) vnil))) (bcon0 (boxp 186 (vcon0 (datp (D.v .nilIface)) vnil)) (bcon0 (boxp 188 (vcon0 (ifcp 71 (ptrp 2 0)) vnil)) (bcons (boxp 251 (vcons (shp (.ints .u8)) vnil)) (bcon0 (boxp 76 (vcon0 (ownp 4) vnil)) (bcons (rowp 93 (.cons (.i .u8) (.cons (.i .u8) (.cons (.i .u8) (.cons (.i .u16) (.cons (.i .u8) (.cons (.i .u8) (.cons .b (.cons .b (.cons (.i .u8) (.cons (.ints .u8) (.cons .b (.cons (.i .u8) .nil))))))))))))) bnil)))))), fun x b => sayZ_D m x.1 b.1.1 b.2.1⟩
theorem sayZ_ok (m : Nat) : ConOk Tryd.prog 70 (sayZ_con m) :=
  con_ok ty_mixed (sayZ_tabok m) (fl := fl7d) (N := 300) (t := (.node .leaf (.node .leaf (.node .leaf (.node (.node (.cut _ _ sayZ_J0i [] sayZ_J0o (sayZ_J0f m) .leaf) .leaf) .leaf))))) (tree_of (Eq.mpr (show TreeOk Tryd.prog (.node .leaf (.node .leaf (.node .leaf (.node (.node (.cut _ _ sayZ_J0i [] sayZ_J0o (sayZ_J0f m) .leaf) .leaf) .leaf)))) (bodyAt Tryd.prog 70 []) = (True ∧ (True ∧ (True ∧ (((CutOk Tryd.prog _ _ sayZ_J0i sayZ_J0o (sayZ_J0f m) (bodyAt Tryd.prog 70 [true, true, true, false, false]) ∧ True) ∧ True) ∧ True)))) by kernel_rfl) ⟨trivial, ⟨trivial, ⟨trivial, ⟨⟨⟨sayZ_J0k m, trivial⟩, trivial⟩, trivial⟩⟩⟩⟩)) (fun x b => by kernel_rfl)
--END sayZ

--BEGIN hTokW
--END hTokW

--BEGIN hD3W
--END hD3W

--BEGIN hD11W
--END hD11W

--BEGIN spkTW
--END spkTW

--BEGIN spkD3W
--END spkD3W

--BEGIN spkD11W
--END spkD11W

--BEGIN sayTW
--END sayTW

--BEGIN sayD3W
--END sayD3W

--BEGIN sayD11W
--END sayD11W

--BEGIN outW
--END outW

--BEGIN doWW
--END doWW

end Go.Proofs.YtngghkoghbpceaaDoor

