/-
  Plain functions that the code reckons out to, with the proofs.
  Conditions: none.
-/
import Derived.Test.YtmjocalgekfodaaFnP9
import Derived.Test.YtmjocalgekfodaaRF8
namespace Go.Proofs.Ytmjocalgekfodaa
set_option linter.unusedVariables false
set_option maxRecDepth 100000

--BEGIN pcs
def pcs_tab (m : Nat) : List (FuncId × Ent) := []
theorem pcs_tabok (m : Nat) : CallOk Try.prog (tabK Try.prog flT 300 (pcs_tab m) 6) := tabK_ok ty_mixed (tabok_nil) 6
def pcs_L0 {α : Type} (yk : YK α) (m : Nat) : Nat → (Go.Value) → Bool → List Int → Int → Bool → α → Option (((Go.Value × Bool × Unit) × (List Int × Unit) × (Int × Unit) × (Bool × Unit) × Unit) × α)
  | 0, _, _, _, _, _, _ => none
  | n + 1, x132, x133, x134, x135, x136, g => (bif decide (x135 < (↑(List.length x134) : Int)) then (bif decide ((0 : Int) ≤ x135) && (decide (x135 ≤ x135) && decide (Int.toNat x135 ≤ List.length x134)) then (yk _ x132 g [SV.ints Go.IntKind.u8 (List.take (Int.toNat x135) x134) (Option.some (Int.toNat x135))] fun g => (bif decide ((0 : Int) ≤ x135) && decide (Int.toNat x135 ≤ List.length x134) then pcs_L0 yk m n (x132) (x133) (List.drop (Int.toNat x135) x134) (x135) (x136) g else none)) else none) else some (((x132, (x133, ())), ((x134, ()), ((x135, ()), ((x136, ()), ())))), g))
def pcs_L0i := (spat 46 (tcons 0 vvp (tcon0 1 (ptrp 0 0) (tcon0 2 (ptrp 1 0) (tcon0 3 (ptrp 2 0) (tcons 5 (shp .b) tnil))))) (hcons 0 (boxp 22 (vcons (shp (.ints .u8)) vnil)) (hcons 1 (boxp 3 (vcons (shp (.i .i64)) vnil)) (hcons 2 (boxp 4 (vcons (shp .b) vnil)) hnil))))
def pcs_L0o := (one (.exit 0) [] (spat 46 (tcons 0 vvp (tcon0 1 (ptrp 0 0) (tcon0 3 (ptrp 2 0) (tcons 5 (shp .b) tnil)))) (hcons 0 (boxp 22 (vcons (shp (.ints .u8)) vnil)) (hcons 1 (boxp 3 (vcons (shp (.i .i64)) vnil)) (hcons 2 (boxp 4 (vcons (shp .b) vnil)) hnil)))))
def pcs_L0g : List Gh := []
def pcs_L0f {α : Type} (yk : YK α) (m n : Nat) := fun (x : (Go.Value × Bool × Unit) × (List Int × Unit) × (Int × Unit) × (Bool × Unit) × Unit) (g : α) => pcs_L0 yk m n x.1.1 x.1.2.1 x.2.1.1 x.2.2.1.1 x.2.2.2.1.1 g
theorem pcs_L0k {α : Type} {C : α → Ctx → Prop} {yk : YK α} (hyk : YKOk Try.prog C yk) (m : Nat) : ∀ n, LoopYOk Try.prog C _ _ pcs_L0i pcs_L0o (pcs_L0f yk m n) (bodyAt Try.prog 80 [true, false, false, false]) :=
  loopY_ok ty_mixed (pcs_tabok m) (fl := flT) hyk (gh := pcs_L0g) (pcs_L0f yk m) (N := 300) (t := (.seq (.plain .leaf) (.block (.seq (.seq (.reg 5) (.plain .leaf)) (.plain .leaf))))) (Eq.mpr (show TreeY Try.prog C (.seq (.plain .leaf) (.block (.seq (.seq (.reg 5) (.plain .leaf)) (.plain .leaf)))) (bodyAt Try.prog 80 [true, false, false, false]) = (True ∧ ((True ∧ True) ∧ True)) by kernel_rfl) ⟨trivial, ⟨⟨trivial, trivial⟩, trivial⟩⟩) (fun _ _ => rfl) (fun n x g => by kernel_rfl)
def pcs_Y {α : Type} (yk : YK α) (m : Nat) (x0 : Go.Value) (x1 : List Int) (x2 : Int) (x3 : Bool) (g : α) : Option α :=
  (bif decide ((0 : Int) < (↑(List.length x1) : Int)) then (bif !decide (x2 = (0 : Int)) then (bnd (pcs_L0 yk m m (x0) (decide (Int.tmod (↑(List.length x1) : Int) x2 = (0 : Int))) (x1) (x2) (x3) g) fun yg => let y150 := yg.1; let g := yg.2; (bif decide ((0 : Int) ≤ (↑(List.length y150.snd.fst.fst) : Int)) && (decide ((↑(List.length y150.snd.fst.fst) : Int) ≤ (↑(List.length y150.snd.fst.fst) : Int)) && decide (Int.toNat (↑(List.length y150.snd.fst.fst) : Int) ≤ List.length y150.snd.fst.fst)) then (yk _ y150.fst.1 g [SV.ints Go.IntKind.u8 (List.take (Int.toNat (↑(List.length y150.snd.fst.fst) : Int)) y150.snd.fst.fst) (Option.some (Int.toNat (↑(List.length y150.snd.fst.fst) : Int)))] fun g => (bif y150.snd.snd.snd.fst.fst then (bif y150.fst.snd.fst then (yk _ y150.fst.1 g [SV.d (D.v (Go.Value.slice Option.none (0 : Nat) (0 : Nat)))] fun g => some g) else some g) else some g)) else none)) else none) else (bnd (pcs_L0 yk m m (x0) (false) (x1) (x2) (x3) g) fun yg => let y263 := yg.1; let g := yg.2; (bif decide ((0 : Int) ≤ (↑(List.length y263.snd.fst.fst) : Int)) && (decide ((↑(List.length y263.snd.fst.fst) : Int) ≤ (↑(List.length y263.snd.fst.fst) : Int)) && decide (Int.toNat (↑(List.length y263.snd.fst.fst) : Int) ≤ List.length y263.snd.fst.fst)) then (yk _ y263.fst.1 g [SV.ints Go.IntKind.u8 (List.take (Int.toNat (↑(List.length y263.snd.fst.fst) : Int)) y263.snd.fst.fst) (Option.some (Int.toNat (↑(List.length y263.snd.fst.fst) : Int)))] fun g => (bif y263.snd.snd.snd.fst.fst then (bif y263.fst.snd.fst then (yk _ y263.fst.1 g [SV.d (D.v (Go.Value.slice Option.none (0 : Nat) (0 : Nat)))] fun g => some g) else some g) else some g)) else none)))
theorem pcs_ok {α : Type} {C : α → Ctx → Prop} {yk : YK α} (hyk : YKOk Try.prog C yk) (m : Nat) (x0 : Go.Value) (x1 : List Int) (x2 : Int) (x3 : Bool) (g g' : α) (h : pcs_Y yk m x0 x1 x2 x3 g = some g') : ICall Try.prog 80 (SV.toAVs (VsPat.put (vcons vvp (vcon0 (ptrp 0 0) (vcon0 (ptrp 1 0) (vcon0 (ptrp 2 0) vnil)))) (x0, ()))) ((BsPat.put (bcons (boxp 22 (vcons (shp (.ints .u8)) vnil)) (bcons (boxp 3 (vcons (shp (.i .i64)) vnil)) (bcons (boxp 4 (vcons (shp .b) vnil)) bnil))) ((x1, ()), ((x2, ()), ((x3, ()), ())))).map SB.toB) C g (fun g2 => g2 = g') :=
  funY_ok ty_mixed (pcs_tabok m) (fl := flT) hyk (N := 300) (t := (.seq (.plain .leaf) (.seq (.block (.loop _ _ pcs_L0i pcs_L0g pcs_L0o (pcs_L0f yk m m))) (.seq (.reg 7) (.cond (.reg 1) (.plain .leaf)))))) (Eq.mpr (show TreeY Try.prog C (.seq (.plain .leaf) (.seq (.block (.loop _ _ pcs_L0i pcs_L0g pcs_L0o (pcs_L0f yk m m))) (.seq (.reg 7) (.cond (.reg 1) (.plain .leaf))))) (bodyAt Try.prog 80 []) = (True ∧ ((LoopYOk Try.prog C _ _ pcs_L0i pcs_L0o (pcs_L0f yk m m) (bodyAt Try.prog 80 [true, false, false, false])) ∧ (True ∧ (True ∧ True)))) by kernel_rfl) ⟨trivial, ⟨(pcs_L0k hyk m m), ⟨trivial, ⟨trivial, trivial⟩⟩⟩⟩) ((show funY Try.prog (tabK Try.prog flT 300 (pcs_tab m) 6) flT yk 300 (.seq (.plain .leaf) (.seq (.block (.loop _ _ pcs_L0i pcs_L0g pcs_L0o (pcs_L0f yk m m))) (.seq (.reg 7) (.cond (.reg 1) (.plain .leaf))))) 80 (VsPat.put (vcons vvp (vcon0 (ptrp 0 0) (vcon0 (ptrp 1 0) (vcon0 (ptrp 2 0) vnil)))) (x0, ())) (BsPat.put (bcons (boxp 22 (vcons (shp (.ints .u8)) vnil)) (bcons (boxp 3 (vcons (shp (.i .i64)) vnil)) (bcons (boxp 4 (vcons (shp .b) vnil)) bnil))) ((x1, ()), ((x2, ()), ((x3, ()), ())))) g = pcs_Y yk m x0 x1 x2 x3 g by kernel_rfl).trans h)
--END pcs

--BEGIN aRight
--END aRight

--BEGIN aSend
--END aSend

--BEGIN aPlay
--END aPlay

--BEGIN frm
--END frm

end Go.Proofs.Ytmjocalgekfodaa

