/-
  Plain functions that the code reckons out to, with the proofs.
  Conditions: none.
-/
import Derived.Test.YtmjocalgekfodaaFnP9
import Derived.Test.YtmjocalgekfodaaRF9
import Derived.Test.YtmjocalgekfodaaC9u
import Derived.Test.YtmjocalgekfodaaC9t
namespace Go.Proofs.Ytmjocalgekfodaa
set_option linter.unusedVariables false
set_option maxRecDepth 100000

--BEGIN bclone
def bclone_tab (m : Nat) : List (FuncId × Ent) := []
theorem bclone_tabok (m : Nat) : CallOk Try.prog (tabK Try.prog flJ 300 (bclone_tab m) 6) := tabK_ok ty_mixed (tabok_nil) 6
def bclone_D (m : Nat) (x0 : List Int) : Option (List Int × Unit) :=
  (bif makeOb (1 : Nat) (0 : Int) (↑(List.length x0) : Int) true then (bif growOb (1 : Nat) (List.length (List.replicate (Int.toNat (0 : Int)) (0 : Int)) + List.length x0) then some ((List.replicate (Int.toNat (0 : Int)) (0 : Int) ++ x0, ())) else none) else none)
def bclone_con (m : Nat) : Con := ⟨_, _, _, (vcons (shp (.ints .u8)) vnil), bnil, 0, fun _ => rfl, (rfz 0 (shp (.ints .u8)) bnil), fun x b => bclone_D m x.1⟩
theorem bclone_ok (m : Nat) : ConOk Try.prog 62 (bclone_con m) :=
  con_ok ty_mixed (bclone_tabok m) (fl := flJ) (N := 300) (t := .leaf) (tree_of trivial) (fun x b => by kernel_rfl)
--END bclone

--BEGIN bjoin
def bjoin_tab (m : Nat) : List (FuncId × Ent) := [(62, .con (bclone_con m))]
theorem bjoin_tabok (m : Nat) : CallOk Try.prog (tabK Try.prog flJ 300 (bjoin_tab m) 6) := tabK_ok ty_mixed ((tabok_con (bclone_ok m) tabok_nil)) 6
def bjoin_J0 {R : Type} (m : Nat) (x11 : List (List Int)) (x12 : Int) (k0 : Bool → Option R) : Option R :=
  (bif decide (x12 < (1 : Int)) then k0 (true) else k0 (decide ((1024 : Int) < x12)))
def bjoin_J0i := (spat 55 (tcons 0 (shp (.row (.ints .u8))) (tcons 1 (shp (.i .i64)) (tcon0 4 (datp (.v (.slice none 0 0))) (tcon0 5 (datp (.v (.slice none 0 0))) tnil)))) hnil)
def bjoin_J0o := (one .normal [] (spat 55 (tcons 0 (shp (.row (.ints .u8))) (tcons 1 (shp (.i .i64)) (tcon0 4 (datp (.v (.slice none 0 0))) (tcon0 5 (datp (.v (.slice none 0 0))) (tcons 16 (shp .b) tnil))))) hnil))
def bjoin_J0f (m : Nat) : (R : Type) → ((List (List Int) × Int × Unit) × Unit) → (((List (List Int) × Int × Bool × Unit) × Unit) → Option R) → Option R := fun R x K => let x11 := x.1.1; let x12 := x.1.2.1; bjoin_J0 m x11 x12 (fun d0 => K ((((x11), ((x12), (d0, ()))), ())))
theorem bjoin_J0k (m : Nat) : CutOk Try.prog _ _ bjoin_J0i bjoin_J0o (bjoin_J0f m) (bodyAt Try.prog 24 [true, false, false]) :=
  cut_ok ty_mixed (bjoin_tabok m) (fl := flJ) (N := 300) (t := .leaf) trivial (fun R x K => by kernel_rfl)
def bjoin_L0 (m : Nat) : Nat → (List (List Int)) → Int → (List (List Int)) → Int → Int → Option ((Int × Unit) × Unit ⊕ (List (List Int) × Int × Unit) × Unit)
  | 0, _, _, _, _, _ => none
  | n + 1, x141, x142, x143, x144, x145 => (bif decide (x145 < x144) then (bif inB x145 (List.length x143) then (bif decide (x142 < (↑(List.length (List.getD x143 (Int.toNat x145) [])) : Int)) then some (Sum.inl (((3 : Int), ()), ())) else bjoin_L0 m n (x141) (x142) (x143) (x144) (Go.IntKind.wrap .i64 (x145 + (1 : Int)))) else none) else some (Sum.inr ((x141, (x142, ())), ())))
def bjoin_L0i := (spat 55 (tcons 0 (shp (.row (.ints .u8))) (tcons 1 (shp (.i .i64)) (tcon0 4 (datp (.v (.slice none 0 0))) (tcon0 5 (datp (.v (.slice none 0 0))) (tcons 17 (shp (.row (.ints .u8))) (tcons 18 (shp (.i .i64)) (tcons 19 (shp (.i .i64)) tnil))))))) hnil)
def bjoin_L0o := (two (one .ret [] (spat 55 (tcon0 4 (datp (.v (.slice none 0 0))) (tcon0 5 (datp (.v (.slice none 0 0))) (tcons 6 (shp (.i .i64)) tnil))) hnil)) (one (.exit 0) [] (spat 55 (tcons 0 (shp (.row (.ints .u8))) (tcons 1 (shp (.i .i64)) (tcon0 4 (datp (.v (.slice none 0 0))) (tcon0 5 (datp (.v (.slice none 0 0))) tnil)))) hnil)))
def bjoin_L0g : List Gh := []
def bjoin_L0f (m n : Nat) := fun (x : (List (List Int) × Int × List (List Int) × Int × Int × Unit) × Unit) => bjoin_L0 m n x.1.1 x.1.2.1 x.1.2.2.1 x.1.2.2.2.1 x.1.2.2.2.2.1
theorem bjoin_L0k (m : Nat) : ∀ n, LoopOk Try.prog _ _ bjoin_L0i bjoin_L0o (bjoin_L0f m n) (bodyAt Try.prog 24 [true, true, false, true, false, false]) :=
  loop_ok ty_mixed (bjoin_tabok m) (fl := flJ) (gh := bjoin_L0g) (bjoin_L0f m) (N := 300) (t := .leaf) trivial (fun _ => rfl) (fun n x => by kernel_rfl)
def bjoin_J1 {R : Type} (m : Nat) (x336 : Int) (x337 : List (List Int)) (x338 : Int) (x339 : Int) (x340 : List (List Int)) (x341 : List Int) (k0 : (List (List Int)) → Option R) (k1 : Option R) : Option R :=
  (bif inB x339 (List.length x337) then (bif growOb (1 : Nat) (List.length x341 + List.length (List.getD x337 (Int.toNat x339) [])) then (bif decide ((↑(List.length (List.getD x337 (Int.toNat x339) [])) : Int) < x336) then (bnd (bclone_D m (x341 ++ List.getD x337 (Int.toNat x339) [])) fun y348 => (bif growOb (24 : Nat) (List.length x340 + List.length [y348.fst]) then k0 (x340 ++ [y348.fst]) else none)) else k1) else none) else none)
def bjoin_J1i := (spat 55 (tcons 1 (shp (.i .i64)) (tcon0 4 (ownp 1004) (tcon0 5 (ownp 1005) (tcons 28 (shp (.row (.ints .u8))) (tcons 29 (shp (.i .i64)) (tcons 30 (shp (.i .i64)) tnil)))))) (hcons 1004 (rowp 22 (.ints .u8)) (hcons 1005 (intsp 5 .u8) hnil)))
def bjoin_J1o := (two (one .normal [] (spat 55 (tcons 1 (shp (.i .i64)) (tcon0 4 (ownp 1004) (tcon0 5 (datp (.v (.slice none 0 0))) (tcons 28 (shp (.row (.ints .u8))) (tcons 29 (shp (.i .i64)) (tcons 30 (shp (.i .i64)) tnil)))))) (hcons 1004 (rowp 22 (.ints .u8)) hnil))) (one .normal [] (spat 55 (tcons 1 (shp (.i .i64)) (tcon0 4 (ownp 1004) (tcon0 5 (ownp 1005) (tcons 28 (shp (.row (.ints .u8))) (tcons 29 (shp (.i .i64)) (tcons 30 (shp (.i .i64)) tnil)))))) (hcons 1004 (rowp 22 (.ints .u8)) (hcons 1005 (intsp 5 .u8) hnil)))))
def bjoin_J1f (m : Nat) : (R : Type) → ((Int × List (List Int) × Int × Int × Unit) × List (List Int) × List Int × Unit) → (((Int × List (List Int) × Int × Int × Unit) × List (List Int) × Unit ⊕ (Int × List (List Int) × Int × Int × Unit) × List (List Int) × List Int × Unit) → Option R) → Option R := fun R x K => let x336 := x.1.1; let x337 := x.1.2.1; let x338 := x.1.2.2.1; let x339 := x.1.2.2.2.1; let x340 := x.2.1; let x341 := x.2.2.1; bjoin_J1 m x336 x337 x338 x339 x340 x341 (fun d0 => K ((Sum.inl (((x336), ((x337), ((x338), ((x339), ())))), (d0, ()))))) (K ((Sum.inr (((x336), ((x337), ((x338), ((x339), ())))), ((x340), ((x341 ++ List.getD x337 (Int.toNat x339) []), ()))))))
theorem bjoin_J1k (m : Nat) : CutOk Try.prog _ _ bjoin_J1i bjoin_J1o (bjoin_J1f m) (bodyAt Try.prog 24 [true, true, true, false, true, false, false, true, true, false]) :=
  cut_ok ty_mixed (bjoin_tabok m) (fl := flJ) (N := 300) (t := .leaf) trivial (fun R x K => by kernel_rfl)
def bjoin_L1 (m : Nat) : Nat → Int → (List (List Int)) → Int → Int → (List (List Int)) → List Int → Option (Unit × List (List Int) × List Int × Unit)
  | 0, _, _, _, _, _, _ => none
  | n + 1, x329, x330, x331, x332, x333, x334 => (bif decide (x332 < x331) then (bjoin_J1 m (x329) (x330) (x331) (x332) (x333) (x334) (fun d352 => bjoin_L1 m n (x329) (x330) (x331) (Go.IntKind.wrap .i64 (x332 + (1 : Int))) (d352) ([])) (bjoin_L1 m n (x329) (x330) (x331) (Go.IntKind.wrap .i64 (x332 + (1 : Int))) (x333) (x334 ++ List.getD x330 (Int.toNat x332) []))) else some ((), (x333, (x334, ()))))
def bjoin_L1i := (spat 55 (tcons 1 (shp (.i .i64)) (tcon0 4 (ownp 1004) (tcon0 5 (ownp 1005) (tcons 28 (shp (.row (.ints .u8))) (tcons 29 (shp (.i .i64)) (tcons 30 (shp (.i .i64)) tnil)))))) (hcons 1004 (rowp 22 (.ints .u8)) (hcons 1005 (intsp 5 .u8) hnil)))
def bjoin_L1o := (one (.exit 2) [] (spat 55 (tcon0 4 (ownp 1004) (tcon0 5 (ownp 1005) tnil)) (hcons 1004 (rowp 22 (.ints .u8)) (hcons 1005 (intsp 5 .u8) hnil))))
def bjoin_L1g : List Gh := [.mat 4 1004 (.row 22 (.ints .u8) [] (some 0)), .mat 5 1005 (.ints 5 .u8 [] (some 0))]
def bjoin_L1f (m n : Nat) := fun (x : (Int × List (List Int) × Int × Int × Unit) × List (List Int) × List Int × Unit) => bjoin_L1 m n x.1.1 x.1.2.1 x.1.2.2.1 x.1.2.2.2.1 x.2.1 x.2.2.1
theorem bjoin_L1k (m : Nat) : ∀ n, LoopOk Try.prog _ _ bjoin_L1i bjoin_L1o (bjoin_L1f m n) (bodyAt Try.prog 24 [true, true, true, false, true, false, false]) :=
  loop_ok ty_mixed (bjoin_tabok m) (fl := flJ) (gh := bjoin_L1g) (bjoin_L1f m) (N := 300) (t := (.node .leaf (.node .leaf (.node (.cut _ _ bjoin_J1i [] bjoin_J1o (bjoin_J1f m) .leaf) .leaf)))) (Eq.mpr (show TreeOk Try.prog (.node .leaf (.node .leaf (.node (.cut _ _ bjoin_J1i [] bjoin_J1o (bjoin_J1f m) .leaf) .leaf))) (bodyAt Try.prog 24 [true, true, true, false, true, false, false]) = (True ∧ (True ∧ ((CutOk Try.prog _ _ bjoin_J1i bjoin_J1o (bjoin_J1f m) (bodyAt Try.prog 24 [true, true, true, false, true, false, false, true, true, false]) ∧ True) ∧ True))) by kernel_rfl) ⟨trivial, ⟨trivial, ⟨⟨bjoin_J1k m, trivial⟩, trivial⟩⟩⟩) (fun _ => rfl) (fun n x => by kernel_rfl)
def bjoin_D (m : Nat) (x0 : List (List Int)) (x1 : Int) : Option ((List (List Int) × List Int × Int × Unit) × Unit) :=
  (bjoin_J0 m (x0) (x1) (fun d18 => (bif d18 then some ((([], [], (1 : Int), ()), ())) else (bnd (bjoin_L0 m m (x0) (x1) (x0) ((↑(List.length x0) : Int)) ((0 : Int))) fun y155 => (sumK y155 (fun a156 => some ((([], [], a156.fst), ()))) (fun b157 => (bnd (bjoin_L1 m m (b157.fst.snd.fst) (b157.fst.fst) ((↑(List.length b157.fst.fst) : Int)) ((0 : Int)) ([]) ([])) fun y366 => (bif decide ((0 : Int) ≤ (↑(List.length y366.snd.fst) : Int)) && (decide ((↑(List.length y366.snd.fst) : Int) ≤ (↑(List.length y366.snd.fst) : Int)) && decide (Int.toNat (↑(List.length y366.snd.fst) : Int) ≤ List.length y366.snd.fst)) then (bnd (bclone_D m y366.snd.snd.fst) fun y375 => some (((List.take (Int.toNat (↑(List.length y366.snd.fst) : Int)) y366.snd.fst, y375.fst, (0 : Int), ()), ()))) else none))))))))
def bjoin_con (m : Nat) : Con := ⟨_, _, _, (vcons (shp (.row (.ints .u8))) (vcons (shp (.i .i64)) vnil)), bnil, 0, fun _ => rfl, (rfz 0 (tupp (vcons (shp (.row (.ints .u8))) (vcons (shp (.ints .u8)) (vcons (shp (.i .i64)) vnil)))) bnil), fun x b => bjoin_D m x.1 x.2.1⟩
theorem bjoin_ok (m : Nat) : ConOk Try.prog 24 (bjoin_con m) :=
  con_ok ty_mixed (bjoin_tabok m) (fl := flJ) (N := 300) (t := (.node .leaf (.node (.node (.cut _ _ bjoin_J0i [] bjoin_J0o (bjoin_J0f m) .leaf) .leaf) (.node (.node .leaf (.node (.loop _ _ bjoin_L0i bjoin_L0g bjoin_L0o (bjoin_L0f m m)) .leaf)) (.node (.node .leaf (.node (.loop _ _ bjoin_L1i bjoin_L1g bjoin_L1o (bjoin_L1f m m)) .leaf)) .leaf))))) (tree_of (Eq.mpr (show TreeOk Try.prog (.node .leaf (.node (.node (.cut _ _ bjoin_J0i [] bjoin_J0o (bjoin_J0f m) .leaf) .leaf) (.node (.node .leaf (.node (.loop _ _ bjoin_L0i bjoin_L0g bjoin_L0o (bjoin_L0f m m)) .leaf)) (.node (.node .leaf (.node (.loop _ _ bjoin_L1i bjoin_L1g bjoin_L1o (bjoin_L1f m m)) .leaf)) .leaf)))) (bodyAt Try.prog 24 []) = (True ∧ (((CutOk Try.prog _ _ bjoin_J0i bjoin_J0o (bjoin_J0f m) (bodyAt Try.prog 24 [true, false, false]) ∧ True) ∧ True) ∧ ((True ∧ (LoopOk Try.prog _ _ bjoin_L0i bjoin_L0o (bjoin_L0f m m) (bodyAt Try.prog 24 [true, true, false, true, false, false]))) ∧ ((True ∧ (LoopOk Try.prog _ _ bjoin_L1i bjoin_L1o (bjoin_L1f m m) (bodyAt Try.prog 24 [true, true, true, false, true, false, false]))) ∧ True)))) by kernel_rfl) ⟨trivial, ⟨⟨⟨bjoin_J0k m, trivial⟩, trivial⟩, ⟨⟨trivial, (bjoin_L0k m m)⟩, ⟨⟨trivial, (bjoin_L1k m m)⟩, trivial⟩⟩⟩⟩)) (fun x b => by kernel_rfl)
--END bjoin

end Go.Proofs.Ytmjocalgekfodaa

