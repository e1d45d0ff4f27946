/-
  Plain functions that the code reckons out to, with the proofs.
  Conditions: none.
-/
import Derived.Test.YtpdbekbobkjfgaaDoorL3T
import Derived.Test.YtpdbekbobkjfgaaDoorFnPr
namespace Go.Proofs.YtpdbekbobkjfgaaDoor
set_option linter.unusedVariables false
set_option maxRecDepth 100000

--BEGIN low
def low_tab (m : Nat) : List (FuncId × Ent) := []
theorem low_tabok (m : Nat) : CallOk Tryd.prog (tabK Tryd.prog flR 300 (low_tab m) 6) := tabK_ok ty_mixed (tabok_nil) 6
def low_L0 (m : Nat) : Nat → Int → Int → Int → List Int → Option (Unit × List Int × Unit)
  | 0, _, _, _, _ => none
  | n + 1, x129, x130, x131, x132 => (bif decide (x131 < x130) then (bif decide ((0 : Int) ≤ Go.IntKind.wrap .u64 x131) then (bif growOb (1 : Nat) (List.length x132 + List.length [Go.bits .and .u8 (Go.IntKind.wrap .u8 (Int.fdiv x129 ((2 : Int) ^ Min.min (Int.toNat (Go.IntKind.wrap .u64 x131)) (Go.IntKind.bits .u64)))) (1 : Int)]) then low_L0 m n (x129) (x130) (Go.IntKind.wrap .i64 (x131 + (1 : Int))) (x132 ++ [Go.bits .and .u8 (Go.IntKind.wrap .u8 (Int.fdiv x129 ((2 : Int) ^ Min.min (Int.toNat (Go.IntKind.wrap .u64 x131)) (Go.IntKind.bits .u64)))) (1 : Int)]) else none) else none) else some ((), (x132, ())))
def low_L0i := (spat 22 (tcons 0 (shp (.i .u64)) (tcons 1 (shp (.i .i64)) (tcon0 5 (ownp 1005) (tcons 6 (shp (.i .i64)) tnil)))) (hcons 1005 (intsp 5 .u8) hnil))
def low_L0o := (one (.exit 0) [] (spat 22 (tcon0 5 (ownp 1005) tnil) (hcons 1005 (intsp 5 .u8) hnil)))
def low_L0g : List Gh := [.mat 5 1005 (.ints 5 .u8 [] (some 0))]
def low_L0f (m n : Nat) := fun (x : (Int × Int × Int × Unit) × List Int × Unit) => low_L0 m n x.1.1 x.1.2.1 x.1.2.2.1 x.2.1
theorem low_L0k (m : Nat) : ∀ n, LoopOk Tryd.prog _ _ low_L0i low_L0o (low_L0f m n) (bodyAt Tryd.prog 77 [true, true, false, true, false, false]) :=
  loop_ok ty_mixed (low_tabok m) (fl := flR) (gh := low_L0g) (low_L0f m) (N := 300) (t := .leaf) trivial (fun _ => rfl) (fun n x => by kernel_rfl)
def low_D (m : Nat) (x0 : Int) (x1 : Int) : Option (Unit × List Int × Unit) :=
  (bnd (low_L0 m m (x0) (x1) ((0 : Int)) ([])) fun y141 => some (((), y141.snd)))
def low_con (m : Nat) : Con := ⟨_, _, _, (vcons (shp (.i .u64)) (vcons (shp (.i .i64)) vnil)), bnil, 0, fun _ => rfl, (rone 0 (ownp 0) (bcons (intsp 5 .u8) bnil)), fun x b => low_D m x.1 x.2.1⟩
theorem low_ok (m : Nat) : ConOk Tryd.prog 77 (low_con m) :=
  con_ok ty_mixed (low_tabok m) (fl := flR) (N := 300) (t := (.node .leaf (.node .leaf (.node (.node .leaf (.node (.loop _ _ low_L0i low_L0g low_L0o (low_L0f m m)) .leaf)) .leaf)))) (tree_of (Eq.mpr (show TreeOk Tryd.prog (.node .leaf (.node .leaf (.node (.node .leaf (.node (.loop _ _ low_L0i low_L0g low_L0o (low_L0f m m)) .leaf)) .leaf))) (bodyAt Tryd.prog 77 []) = (True ∧ (True ∧ ((True ∧ (LoopOk Tryd.prog _ _ low_L0i low_L0o (low_L0f m m) (bodyAt Tryd.prog 77 [true, true, false, true, false, false]))) ∧ True))) by kernel_rfl) ⟨trivial, ⟨trivial, ⟨⟨trivial, (low_L0k m m)⟩, trivial⟩⟩⟩)) (fun x b => by kernel_rfl)
--END low

--BEGIN number
def number_tab (m : Nat) : List (FuncId × Ent) := []
theorem number_tabok (m : Nat) : CallOk Tryd.prog (tabK Tryd.prog flR 300 (number_tab m) 6) := tabK_ok ty_mixed (tabok_nil) 6
def number_L0 (m : Nat) : Nat → List Int → Int → Int → Option ((Int × Unit) × Unit)
  | 0, _, _, _ => none
  | n + 1, x116, x117, x118 => (bif decide ((0 : Int) ≤ x118) then (bif inB x118 (List.length x116) then number_L0 m n (x116) (Go.IntKind.wrap .u64 (Go.IntKind.wrap .u64 ((2 : Int) * x117) + Go.IntKind.wrap .u64 (List.getD x116 (Int.toNat x118) (0 : Int)))) (Go.IntKind.wrap .i64 (x118 - (1 : Int))) else none) else some ((x117, ()), ()))
def number_L0i := (spat 21 (tcons 0 (shp (.ints .u8)) (tcons 3 (shp (.i .u64)) (tcons 4 (shp (.i .i64)) tnil))) hnil)
def number_L0o := (one (.exit 0) [] (spat 21 (tcons 3 (shp (.i .u64)) tnil) hnil))
def number_L0g : List Gh := []
def number_L0f (m n : Nat) := fun (x : (List Int × Int × Int × Unit) × Unit) => number_L0 m n x.1.1 x.1.2.1 x.1.2.2.1
theorem number_L0k (m : Nat) : ∀ n, LoopOk Tryd.prog _ _ number_L0i number_L0o (number_L0f m n) (bodyAt Tryd.prog 41 [true, true, false, true, false, false]) :=
  loop_ok ty_mixed (number_tabok m) (fl := flR) (gh := number_L0g) (number_L0f m) (N := 300) (t := .leaf) trivial (fun _ => rfl) (fun n x => by kernel_rfl)
def number_D (m : Nat) (x0 : List Int) : Option (Int × Unit) :=
  (bnd (number_L0 m m (x0) ((0 : Int)) (Go.IntKind.wrap .i64 ((↑(List.length x0) : Int) - (1 : Int)))) fun y126 => some (y126.fst))
def number_con (m : Nat) : Con := ⟨_, _, _, (vcons (shp (.ints .u8)) vnil), bnil, 0, fun _ => rfl, (rfz 0 (shp (.i .u64)) bnil), fun x b => number_D m x.1⟩
theorem number_ok (m : Nat) : ConOk Tryd.prog 41 (number_con m) :=
  con_ok ty_mixed (number_tabok m) (fl := flR) (N := 300) (t := (.node .leaf (.node .leaf (.node (.node .leaf (.node (.loop _ _ number_L0i number_L0g number_L0o (number_L0f m m)) .leaf)) .leaf)))) (tree_of (Eq.mpr (show TreeOk Tryd.prog (.node .leaf (.node .leaf (.node (.node .leaf (.node (.loop _ _ number_L0i number_L0g number_L0o (number_L0f m m)) .leaf)) .leaf))) (bodyAt Tryd.prog 41 []) = (True ∧ (True ∧ ((True ∧ (LoopOk Tryd.prog _ _ number_L0i number_L0o (number_L0f m m) (bodyAt Tryd.prog 41 [true, true, false, true, false, false]))) ∧ True))) by kernel_rfl) ⟨trivial, ⟨trivial, ⟨⟨trivial, (number_L0k m m)⟩, trivial⟩⟩⟩)) (fun x b => by kernel_rfl)
--END number

--BEGIN behind
def behind_tab (m : Nat) : List (FuncId × Ent) := []
theorem behind_tabok (m : Nat) : CallOk Tryd.prog (tabK Tryd.prog flR 300 (behind_tab m) 6) := tabK_ok ty_mixed (tabok_nil) 6
def behind_L0 (m : Nat) : Nat → List Int → List Int → Int → Int → List Int → Option ((List Int × List Int × Int × Unit) × List Int × Unit)
  | 0, _, _, _, _, _ => none
  | n + 1, x116, x117, x118, x119, x120 => (bif decide (x119 < x118) then (bif inB x119 (List.length x120) then (bif decide (Int.toNat x119 < List.length x120) then behind_L0 m n (x116) (x117) (x118) (Go.IntKind.wrap .i64 (x119 + (1 : Int))) (List.set x120 (Int.toNat x119) (1 : Int)) else none) else none) else some ((x116, (x117, (x118, ()))), (x120, ())))
def behind_L0i := (spat 70 (tcons 0 (shp (.ints .u8)) (tcons 1 (shp (.ints .u8)) (tcons 5 (shp (.i .i64)) (tcon0 6 (ownp 30) (tcons 7 (shp (.i .i64)) tnil))))) (hcons 30 (intsp 5 .u8) hnil))
def behind_L0o := (one (.exit 0) [] (spat 70 (tcons 0 (shp (.ints .u8)) (tcons 1 (shp (.ints .u8)) (tcons 5 (shp (.i .i64)) (tcon0 6 (ownp 30) tnil)))) (hcons 30 (intsp 5 .u8) hnil)))
def behind_L0g : List Gh := []
def behind_L0f (m n : Nat) := fun (x : (List Int × List Int × Int × Int × Unit) × List Int × Unit) => behind_L0 m n x.1.1 x.1.2.1 x.1.2.2.1 x.1.2.2.2.1 x.2.1
theorem behind_L0k (m : Nat) : ∀ n, LoopOk Tryd.prog _ _ behind_L0i behind_L0o (behind_L0f m n) (bodyAt Tryd.prog 79 [true, true, true, false, true, false, false]) :=
  loop_ok ty_mixed (behind_tabok m) (fl := flR) (gh := behind_L0g) (behind_L0f m) (N := 300) (t := .leaf) trivial (fun _ => rfl) (fun n x => by kernel_rfl)
def behind_L2 (m : Nat) : Nat → List Int → List Int → Int → Int → Int → Int → List Int → Option ((List Int × List Int × Int × Int × Int × Unit) × List Int × Unit)
  | 0, _, _, _, _, _, _, _ => none
  | n + 1, x550, x551, x552, x553, x554, x555, x556 => (bif decide ((0 : Int) < x555) then (bif inB (Go.IntKind.wrap .i64 (x555 - (1 : Int))) (List.length x556) then (bif decide (Int.toNat (Go.IntKind.wrap .i64 (x555 - (1 : Int))) < List.length x556) then (bif inB x555 (List.length x551) then (bif inB x555 (List.length x556) then (bif decide (Int.toNat x555 < List.length x556) then behind_L2 m n (x550) (x551) (x552) (x553) (x554) (Go.IntKind.wrap .i64 (x555 - (1 : Int))) (List.set x556 (Int.toNat x555) (Int.tmod (Go.IntKind.wrap .u8 (List.getD x556 (Int.toNat (Go.IntKind.wrap .i64 (x555 - (1 : Int)))) (0 : Int) + Go.IntKind.wrap .u8 (x554 * List.getD x551 (Int.toNat x555) (0 : Int)))) (2 : Int))) else none) else none) else none) else none) else none) else some ((x550, (x551, (x552, (x553, (x554, ()))))), (x556, ())))
def behind_L2i := (spat 70 (tcons 0 (shp (.ints .u8)) (tcons 1 (shp (.ints .u8)) (tcons 5 (shp (.i .i64)) (tcon0 6 (ownp 30) (tcons 8 (shp (.i .i64)) (tcons 9 (shp (.i .u8)) (tcons 10 (shp (.i .i64)) tnil))))))) (hcons 30 (intsp 5 .u8) hnil))
def behind_L2o := (one (.exit 4) [] (spat 70 (tcons 0 (shp (.ints .u8)) (tcons 1 (shp (.ints .u8)) (tcons 5 (shp (.i .i64)) (tcon0 6 (ownp 30) (tcons 8 (shp (.i .i64)) (tcons 9 (shp (.i .u8)) tnil)))))) (hcons 30 (intsp 5 .u8) hnil)))
def behind_L2g : List Gh := []
def behind_L2f (m n : Nat) := fun (x : (List Int × List Int × Int × Int × Int × Int × Unit) × List Int × Unit) => behind_L2 m n x.1.1 x.1.2.1 x.1.2.2.1 x.1.2.2.2.1 x.1.2.2.2.2.1 x.1.2.2.2.2.2.1 x.2.1
theorem behind_L2k (m : Nat) : ∀ n, LoopOk Tryd.prog _ _ behind_L2i behind_L2o (behind_L2f m n) (bodyAt Tryd.prog 79 [true, true, true, true, false, true, false, false, true, false, false, true, false, true, false, false]) :=
  loop_ok ty_mixed (behind_tabok m) (fl := flR) (gh := behind_L2g) (behind_L2f m) (N := 300) (t := .leaf) trivial (fun _ => rfl) (fun n x => by kernel_rfl)
def behind_L1 (m : Nat) : Nat → List Int → List Int → Int → Int → List Int → Option (Unit × List Int × Unit)
  | 0, _, _, _, _, _ => none
  | n + 1, x405, x406, x407, x408, x409 => (bif decide (x408 < (↑(List.length x405) : Int)) then (bif inB (Go.IntKind.wrap .i64 (x407 - (1 : Int))) (List.length x409) then (bif decide (Int.toNat (Go.IntKind.wrap .i64 (x407 - (1 : Int))) < List.length x409) then (bif inB x408 (List.length x405) then (bnd (behind_L2 m m (x405) (x406) (x407) (x408) (Int.tmod (Go.IntKind.wrap .u8 (List.getD x409 (Int.toNat (Go.IntKind.wrap .i64 (x407 - (1 : Int)))) (0 : Int) + List.getD x405 (Int.toNat x408) (0 : Int))) (2 : Int)) (Go.IntKind.wrap .i64 (x407 - (1 : Int))) (x409)) fun y576 => (bif inB (0 : Int) (List.length y576.fst.snd.fst) then (bif inB (0 : Int) (List.length y576.snd.fst) then (bif decide (Int.toNat (0 : Int) < List.length y576.snd.fst) then behind_L1 m n (y576.fst.fst) (y576.fst.snd.fst) (y576.fst.snd.snd.fst) (Go.IntKind.wrap .i64 (y576.fst.snd.snd.snd.fst + (1 : Int))) (List.set y576.snd.fst (Int.toNat (0 : Int)) (Go.IntKind.wrap .u8 (y576.fst.snd.snd.snd.snd.fst * List.getD y576.fst.snd.fst (Int.toNat (0 : Int)) (0 : Int)))) else none) else none) else none)) else none) else none) else none) else some ((), (x409, ())))
def behind_L1i := (spat 70 (tcons 0 (shp (.ints .u8)) (tcons 1 (shp (.ints .u8)) (tcons 5 (shp (.i .i64)) (tcon0 6 (ownp 30) (tcons 8 (shp (.i .i64)) tnil))))) (hcons 30 (intsp 5 .u8) hnil))
def behind_L1o := (one (.exit 2) [] (spat 70 (tcon0 6 (ownp 30) tnil) (hcons 30 (intsp 5 .u8) hnil)))
def behind_L1g : List Gh := []
def behind_L1f (m n : Nat) := fun (x : (List Int × List Int × Int × Int × Unit) × List Int × Unit) => behind_L1 m n x.1.1 x.1.2.1 x.1.2.2.1 x.1.2.2.2.1 x.2.1
theorem behind_L1k (m : Nat) : ∀ n, LoopOk Tryd.prog _ _ behind_L1i behind_L1o (behind_L1f m n) (bodyAt Tryd.prog 79 [true, true, true, true, false, true, false, false]) :=
  loop_ok ty_mixed (behind_tabok m) (fl := flR) (gh := behind_L1g) (behind_L1f m) (N := 300) (t := (.node .leaf (.node (.node (.node .leaf (.node (.node .leaf (.node (.loop _ _ behind_L2i behind_L2g behind_L2o (behind_L2f m m)) .leaf)) .leaf)) .leaf) .leaf))) (Eq.mpr (show TreeOk Tryd.prog (.node .leaf (.node (.node (.node .leaf (.node (.node .leaf (.node (.loop _ _ behind_L2i behind_L2g behind_L2o (behind_L2f m m)) .leaf)) .leaf)) .leaf) .leaf)) (bodyAt Tryd.prog 79 [true, true, true, true, false, true, false, false]) = (True ∧ ((True ∧ ((True ∧ (LoopOk Tryd.prog _ _ behind_L2i behind_L2o (behind_L2f m m) (bodyAt Tryd.prog 79 [true, true, true, true, false, true, false, false, true, false, false, true, false, true, false, false]))) ∧ True)) ∧ True)) by kernel_rfl) ⟨trivial, ⟨⟨trivial, ⟨⟨trivial, (behind_L2k m m)⟩, trivial⟩⟩, trivial⟩⟩) (fun _ => rfl) (fun n x => by kernel_rfl)
def behind_D (m : Nat) (x0 : List Int) (x1 : List Int) : Option (List Int × Unit) :=
  (bif makeOb (1 : Nat) (↑(List.length x1) : Int) (↑(List.length x1) : Int) true then (bnd (behind_L0 m m (x0) (x1) ((↑(List.length x1) : Int)) ((0 : Int)) (List.replicate (Int.toNat (↑(List.length x1) : Int)) (0 : Int))) fun y125 => (bnd (behind_L1 m m (y125.fst.fst) (y125.fst.snd.fst) (y125.fst.snd.snd.fst) ((0 : Int)) (y125.snd.fst)) fun y583 => some (y583.snd))) else none)
def behind_con (m : Nat) : Con := ⟨_, _, _, (vcons (shp (.ints .u8)) (vcons (shp (.ints .u8)) vnil)), bnil, 0, fun _ => rfl, (rfz 0 (shp (.ints .u8)) bnil), fun x b => behind_D m x.1 x.2.1⟩
theorem behind_ok (m : Nat) : ConOk Tryd.prog 79 (behind_con m) :=
  con_ok ty_mixed (behind_tabok m) (fl := flR) (N := 300) (t := (.node .leaf (.node .leaf (.node .leaf (.node (.node .leaf (.node (.loop _ _ behind_L0i behind_L0g behind_L0o (behind_L0f m m)) .leaf)) (.node (.node .leaf (.node (.loop _ _ behind_L1i behind_L1g behind_L1o (behind_L1f m m)) .leaf)) .leaf)))))) (tree_of (Eq.mpr (show TreeOk Tryd.prog (.node .leaf (.node .leaf (.node .leaf (.node (.node .leaf (.node (.loop _ _ behind_L0i behind_L0g behind_L0o (behind_L0f m m)) .leaf)) (.node (.node .leaf (.node (.loop _ _ behind_L1i behind_L1g behind_L1o (behind_L1f m m)) .leaf)) .leaf))))) (bodyAt Tryd.prog 79 []) = (True ∧ (True ∧ (True ∧ ((True ∧ (LoopOk Tryd.prog _ _ behind_L0i behind_L0o (behind_L0f m m) (bodyAt Tryd.prog 79 [true, true, true, false, true, false, false]))) ∧ ((True ∧ (LoopOk Tryd.prog _ _ behind_L1i behind_L1o (behind_L1f m m) (bodyAt Tryd.prog 79 [true, true, true, true, false, true, false, false]))) ∧ True))))) by kernel_rfl) ⟨trivial, ⟨trivial, ⟨trivial, ⟨⟨trivial, (behind_L0k m m)⟩, ⟨⟨trivial, (behind_L1k m m)⟩, trivial⟩⟩⟩⟩⟩)) (fun x b => by kernel_rfl)
--END behind

--BEGIN sent
def sent_tab (m : Nat) : List (FuncId × Ent) := [(79, .con (behind_con m))]
theorem sent_tabok (m : Nat) : CallOk Tryd.prog (tabK Tryd.prog flR 300 (sent_tab m) 6) := tabK_ok ty_mixed ((tabok_con (behind_ok m) tabok_nil)) 6
def sent_L0 (m : Nat) : Nat → List Int → Int → List Int → Option (Unit × List Int × Unit)
  | 0, _, _, _ => none
  | n + 1, x128, x129, x130 => (bif decide ((0 : Int) ≤ x129) then (bif inB x129 (List.length x128) then (bif growOb (1 : Nat) (List.length x130 + List.length [Go.IntKind.wrap .u8 ((1 : Int) - List.getD x128 (Int.toNat x129) (0 : Int))]) then sent_L0 m n (x128) (Go.IntKind.wrap .i64 (x129 - (1 : Int))) (x130 ++ [Go.IntKind.wrap .u8 ((1 : Int) - List.getD x128 (Int.toNat x129) (0 : Int))]) else none) else none) else some ((), (x130, ())))
def sent_L0i := (spat 27 (tcons 5 (shp (.ints .u8)) (tcon0 6 (ownp 1006) (tcons 7 (shp (.i .i64)) tnil))) (hcons 1006 (intsp 5 .u8) hnil))
def sent_L0o := (one (.exit 0) [] (spat 27 (tcon0 6 (ownp 1006) tnil) (hcons 1006 (intsp 5 .u8) hnil)))
def sent_L0g : List Gh := [.mat 6 1006 (.ints 5 .u8 [] (some 0))]
def sent_L0f (m n : Nat) := fun (x : (List Int × Int × Unit) × List Int × Unit) => sent_L0 m n x.1.1 x.1.2.1 x.2.1
theorem sent_L0k (m : Nat) : ∀ n, LoopOk Tryd.prog _ _ sent_L0i sent_L0o (sent_L0f m n) (bodyAt Tryd.prog 39 [true, true, true, false, true, false, false]) :=
  loop_ok ty_mixed (sent_tabok m) (fl := flR) (gh := sent_L0g) (sent_L0f m) (N := 300) (t := .leaf) trivial (fun _ => rfl) (fun n x => by kernel_rfl)
def sent_D (m : Nat) (x0 : List Int) (x1 : List Int) : Option (Unit × List Int × Unit) :=
  (bnd (behind_D m x0 x1) fun y5 => (bnd (sent_L0 m m (y5.fst) (Go.IntKind.wrap .i64 ((↑(List.length y5.fst) : Int) - (1 : Int))) ([])) fun y138 => some (((), y138.snd))))
def sent_con (m : Nat) : Con := ⟨_, _, _, (vcons (shp (.ints .u8)) (vcons (shp (.ints .u8)) vnil)), bnil, 0, fun _ => rfl, (rone 0 (ownp 0) (bcons (intsp 5 .u8) bnil)), fun x b => sent_D m x.1 x.2.1⟩
theorem sent_ok (m : Nat) : ConOk Tryd.prog 39 (sent_con m) :=
  con_ok ty_mixed (sent_tabok m) (fl := flR) (N := 300) (t := (.node .leaf (.node .leaf (.node .leaf (.node (.node .leaf (.node (.loop _ _ sent_L0i sent_L0g sent_L0o (sent_L0f m m)) .leaf)) .leaf))))) (tree_of (Eq.mpr (show TreeOk Tryd.prog (.node .leaf (.node .leaf (.node .leaf (.node (.node .leaf (.node (.loop _ _ sent_L0i sent_L0g sent_L0o (sent_L0f m m)) .leaf)) .leaf)))) (bodyAt Tryd.prog 39 []) = (True ∧ (True ∧ (True ∧ ((True ∧ (LoopOk Tryd.prog _ _ sent_L0i sent_L0o (sent_L0f m m) (bodyAt Tryd.prog 39 [true, true, true, false, true, false, false]))) ∧ True)))) by kernel_rfl) ⟨trivial, ⟨trivial, ⟨trivial, ⟨⟨trivial, (sent_L0k m m)⟩, trivial⟩⟩⟩⟩)) (fun x b => by kernel_rfl)
--END sent

--BEGIN all
def all_tab (m : Nat) : List (FuncId × Ent) := [(77, .con (low_con m))]
theorem all_tabok (m : Nat) : CallOk Tryd.prog (tabK Tryd.prog flR 300 (all_tab m) 6) := tabK_ok ty_mixed ((tabok_con (low_ok m) tabok_nil)) 6
def all_L0 (m : Nat) : Nat → List Int → Int → List Int → Option (Unit × List Int × Unit)
  | 0, _, _, _ => none
  | n + 1, x128, x129, x130 => (bif decide (x129 < (↑(List.length x128) : Int)) then (bif inB x129 (List.length x128) then (bnd (low_D m (Go.IntKind.wrap .u64 (List.getD x128 (Int.toNat x129) (0 : Int))) (8 : Int)) fun y137 => (bif growOb (1 : Nat) (List.length x130 + List.length y137.snd.fst) then all_L0 m n (x128) (Go.IntKind.wrap .i64 (x129 + (1 : Int))) (x130 ++ y137.snd.fst) else none)) else none) else some ((), (x130, ())))
def all_L0i := (spat 20 (tcons 0 (shp (.ints .u8)) (tcon0 3 (ownp 1003) (tcons 4 (shp (.i .i64)) tnil))) (hcons 1003 (intsp 5 .u8) hnil))
def all_L0o := (one (.exit 0) [] (spat 20 (tcon0 3 (ownp 1003) tnil) (hcons 1003 (intsp 5 .u8) hnil)))
def all_L0g : List Gh := [.mat 3 1003 (.ints 5 .u8 [] (some 0))]
def all_L0f (m n : Nat) := fun (x : (List Int × Int × Unit) × List Int × Unit) => all_L0 m n x.1.1 x.1.2.1 x.2.1
theorem all_L0k (m : Nat) : ∀ n, LoopOk Tryd.prog _ _ all_L0i all_L0o (all_L0f m n) (bodyAt Tryd.prog 45 [true, true, false, true, false, false]) :=
  loop_ok ty_mixed (all_tabok m) (fl := flR) (gh := all_L0g) (all_L0f m) (N := 300) (t := .leaf) trivial (fun _ => rfl) (fun n x => by kernel_rfl)
def all_D (m : Nat) (x0 : List Int) : Option (List Int × Unit) :=
  (bnd (all_L0 m m (x0) ((0 : Int)) ([])) fun y140 => some (y140.snd))
def all_con (m : Nat) : Con := ⟨_, _, _, (vcons (shp (.ints .u8)) vnil), bnil, 0, fun _ => rfl, (rfz 0 (shp (.ints .u8)) bnil), fun x b => all_D m x.1⟩
theorem all_ok (m : Nat) : ConOk Tryd.prog 45 (all_con m) :=
  con_ok ty_mixed (all_tabok m) (fl := flR) (N := 300) (t := (.node .leaf (.node .leaf (.node (.node .leaf (.node (.loop _ _ all_L0i all_L0g all_L0o (all_L0f m m)) .leaf)) .leaf)))) (tree_of (Eq.mpr (show TreeOk Tryd.prog (.node .leaf (.node .leaf (.node (.node .leaf (.node (.loop _ _ all_L0i all_L0g all_L0o (all_L0f m m)) .leaf)) .leaf))) (bodyAt Tryd.prog 45 []) = (True ∧ (True ∧ ((True ∧ (LoopOk Tryd.prog _ _ all_L0i all_L0o (all_L0f m m) (bodyAt Tryd.prog 45 [true, true, false, true, false, false]))) ∧ True))) by kernel_rfl) ⟨trivial, ⟨trivial, ⟨⟨trivial, (all_L0k m m)⟩, trivial⟩⟩⟩)) (fun x b => by kernel_rfl)
--END all

--BEGIN r16
def r16_tab (m : Nat) : List (FuncId × Ent) := [(41, .con (number_con m)), (39, .con (sent_con m)), (45, .con (all_con m))]
theorem r16_tabok (m : Nat) : CallOk Tryd.prog (tabK Tryd.prog flR 300 (r16_tab m) 6) := tabK_ok ty_mixed ((tabok_con (number_ok m) (tabok_con (sent_ok m) (tabok_con (all_ok m) tabok_nil)))) 6
def r16_D (m : Nat) (x0 : List Int) : Option (Int × Unit) :=
  (bnd (all_D m x0) fun y4 => (bnd (sent_D m y4.fst [(1 : Int), (0 : Int), (1 : Int), (0 : Int), (0 : Int), (0 : Int), (0 : Int), (0 : Int), (0 : Int), (0 : Int), (0 : Int), (0 : Int), (0 : Int), (0 : Int), (0 : Int), (1 : Int)]) fun y7 => (bnd (number_D m y7.snd.fst) fun y9 => some (y9))))
def r16_con (m : Nat) : Con := ⟨_, _, _, (vcons (shp (.ints .u8)) vnil), bnil, 0, fun _ => rfl, (rfz 0 (shp (.i .u64)) bnil), fun x b => r16_D m x.1⟩
theorem r16_ok (m : Nat) : ConOk Tryd.prog 37 (r16_con m) :=
  con_ok ty_mixed (r16_tabok m) (fl := flR) (N := 300) (t := .leaf) (tree_of trivial) (fun x b => by kernel_rfl)
--END r16

--BEGIN flag
def flag_tab (m : Nat) : List (FuncId × Ent) := []
theorem flag_tabok (m : Nat) : CallOk Tryd.prog (tabK Tryd.prog flR 300 (flag_tab m) 6) := tabK_ok ty_mixed (tabok_nil) 6
def flag_D (m : Nat) (x0 : Bool) : Option (Int × Unit) :=
  (bif x0 then some (((1 : Int), ())) else some (((0 : Int), ())))
def flag_con (m : Nat) : Con := ⟨_, _, _, (vcons (shp .b) vnil), bnil, 0, fun _ => rfl, (rfz 0 (shp (.i .u8)) bnil), fun x b => flag_D m x.1⟩
theorem flag_ok (m : Nat) : ConOk Tryd.prog 78 (flag_con m) :=
  con_ok ty_mixed (flag_tabok m) (fl := flR) (N := 300) (t := .leaf) (tree_of trivial) (fun x b => by kernel_rfl)
--END flag

--BEGIN rfirst
def rfirst_tab (m : Nat) : List (FuncId × Ent) := []
theorem rfirst_tabok (m : Nat) : CallOk Tryd.prog (tabK Tryd.prog flR 300 (rfirst_tab m) 6) := tabK_ok ty_mixed (tabok_nil) 6
def rfirst_D (m : Nat) (x0 : Int) : Option (Int × Unit) :=
  some ((Go.IntKind.wrap .u8 (x0 + Go.IntKind.wrap .u8 ((16 : Int) * Go.IntKind.wrap .u8 ((15 : Int) - x0))), ()))
def rfirst_con (m : Nat) : Con := ⟨_, _, _, (vcons (shp (.i .u8)) vnil), bnil, 0, fun _ => rfl, (rfz 0 (shp (.i .u8)) bnil), fun x b => rfirst_D m x.1⟩
theorem rfirst_ok (m : Nat) : ConOk Tryd.prog 36 (rfirst_con m) :=
  con_ok ty_mixed (rfirst_tabok m) (fl := flR) (N := 300) (t := .leaf) (tree_of trivial) (fun x b => by kernel_rfl)
--END rfirst

--BEGIN rbits
def rbits_tab (m : Nat) : List (FuncId × Ent) := [(77, .con (low_con m)), (78, .con (flag_con m))]
theorem rbits_tabok (m : Nat) : CallOk Tryd.prog (tabK Tryd.prog flR 300 (rbits_tab m) 6) := tabK_ok ty_mixed ((tabok_con (low_ok m) (tabok_con (flag_ok m) tabok_nil))) 6
def rbits_J0 {R : Type} (m : Nat) (x7 : Pkt) (k0 : Bool → Option R) : Option R :=
  (bif decide (x7.fst = (1 : Int)) then k0 (true) else (bif decide (x7.fst = (9 : Int)) then k0 (true) else k0 (decide (x7.fst = (13 : Int)))))
def rbits_J0i := (spat 58 (tcon0 1 (ptrp 17 0) tnil) (hcons 17 (boxs 29 (.i .u8) (.cons (.i .u8) (.cons (.i .u8) (.cons (.i .u16) (.cons (.i .u8) (.cons (.i .u8) (.cons .b (.cons .b (.cons (.i .u8) (.cons (.ints .u8) .nil)))))))))) hnil))
def rbits_J0o := (one .normal [] (spat 58 (tcon0 1 (ptrp 17 0) (tcons 6 (shp .b) tnil)) (hcons 17 (boxs 29 (.i .u8) (.cons (.i .u8) (.cons (.i .u8) (.cons (.i .u16) (.cons (.i .u8) (.cons (.i .u8) (.cons .b (.cons .b (.cons (.i .u8) (.cons (.ints .u8) .nil)))))))))) hnil)))
def rbits_J0f (m : Nat) : (R : Type) → (Unit × Pkt × Unit) → (((Bool × Unit) × Pkt × Unit) → Option R) → Option R := fun R x K => let x7 := x.2.1; rbits_J0 m x7 (fun d0 => K (((d0, ()), ((x7), ()))))
theorem rbits_J0k (m : Nat) : CutOk Tryd.prog _ _ rbits_J0i rbits_J0o (rbits_J0f m) (bodyAt Tryd.prog 38 [true, false, false]) :=
  cut_ok ty_mixed (rbits_tabok m) (fl := flR) (N := 300) (t := .leaf) trivial (fun R x K => by kernel_rfl)
def rbits_D (m : Nat) (x0 : Pkt) : Option (Unit × List Int × Unit ⊕ Unit × Unit) :=
  (rbits_J0 m (x0) (fun d11 => (bif d11 then (bnd (low_D m (Go.IntKind.wrap .u64 x0.snd.fst) (7 : Int)) fun y18 => (bnd (low_D m (Go.IntKind.wrap .u64 x0.snd.snd.fst) (4 : Int)) fun y23 => (bif growOb (1 : Nat) (List.length y18.snd.fst + List.length y23.snd.fst) then some (Sum.inl ((), y18.snd.fst ++ y23.snd.fst, ())) else none))) else (bif decide (x0.fst = (5 : Int)) then (bnd (low_D m (Go.IntKind.wrap .u64 x0.snd.snd.snd.fst) (11 : Int)) fun y32 => some (Sum.inl ((), y32.snd))) else (bif !decide (x0.fst = (8 : Int)) then some (Sum.inr ((), ())) else (bnd (low_D m (Go.IntKind.wrap .u64 x0.snd.snd.snd.snd.fst) (7 : Int)) fun y42 => (bnd (flag_D m x0.snd.snd.snd.snd.snd.snd.fst) fun y47 => (bif growOb (1 : Nat) (List.length y42.snd.fst + List.length [y47.fst]) then (bnd (low_D m (Go.IntKind.wrap .u64 x0.snd.snd.snd.snd.snd.fst) (7 : Int)) fun y55 => (bif growOb (1 : Nat) (List.length (y42.snd.fst ++ [y47.fst]) + List.length y55.snd.fst) then (bnd (flag_D m x0.snd.snd.snd.snd.snd.snd.snd.fst) fun y61 => (bif growOb (1 : Nat) (List.length (y42.snd.fst ++ [y47.fst] ++ y55.snd.fst) + List.length [y61.fst, (0 : Int)]) then (bnd (low_D m (Go.IntKind.wrap .u64 x0.snd.snd.snd.snd.snd.snd.snd.snd.fst) (2 : Int)) fun y69 => (bif growOb (1 : Nat) (List.length (y42.snd.fst ++ [y47.fst] ++ y55.snd.fst ++ [y61.fst, (0 : Int)]) + List.length y69.snd.fst) then some (Sum.inl ((), y42.snd.fst ++ [y47.fst] ++ y55.snd.fst ++ [y61.fst, (0 : Int)] ++ y69.snd.fst, ())) else none)) else none)) else none)) else none))))))))
def rbits_con (m : Nat) : Con := ⟨_, _, _, (vcons (shp shPkt) vnil), bnil, 0, fun _ => rfl, (rtwo (rone 0 (ownp 0) (bcons (intsp 5 .u8) bnil)) (rfz 0 (datp (D.v (.slice none 0 0))) bnil)), fun x b => rbits_D m x.1⟩
theorem rbits_ok (m : Nat) : ConOk Tryd.prog 38 (rbits_con m) :=
  con_ok ty_mixed (rbits_tabok m) (fl := flR) (N := 300) (t := (.node .leaf (.node (.node (.cut _ _ rbits_J0i [] rbits_J0o (rbits_J0f m) .leaf) .leaf) .leaf))) (tree_of (Eq.mpr (show TreeOk Tryd.prog (.node .leaf (.node (.node (.cut _ _ rbits_J0i [] rbits_J0o (rbits_J0f m) .leaf) .leaf) .leaf)) (bodyAt Tryd.prog 38 []) = (True ∧ (((CutOk Tryd.prog _ _ rbits_J0i rbits_J0o (rbits_J0f m) (bodyAt Tryd.prog 38 [true, false, false]) ∧ True) ∧ True) ∧ True)) by kernel_rfl) ⟨trivial, ⟨⟨⟨rbits_J0k m, trivial⟩, trivial⟩, trivial⟩⟩)) (fun x b => by kernel_rfl)
--END rbits

--BEGIN rencode
def rencode_tab (m : Nat) : List (FuncId × Ent) := [(41, .con (number_con m)), (39, .con (sent_con m)), (37, .con (r16_con m)), (36, .con (rfirst_con m)), (38, .con (rbits_con m))]
theorem rencode_tabok (m : Nat) : CallOk Tryd.prog (tabK Tryd.prog flR 300 (rencode_tab m) 6) := tabK_ok ty_mixed ((tabok_con (number_ok m) (tabok_con (sent_ok m) (tabok_con (r16_ok m) (tabok_con (rfirst_ok m) (tabok_con (rbits_ok m) tabok_nil)))))) 6
def rencode_J0 {R : Type} (m : Nat) (x12 : Pkt) (x13 : List Int) (k0 : Bool → Option R) : Option R :=
  (bif decide (x12.fst = (3 : Int)) then k0 (true) else k0 (decide (x12.fst = (11 : Int))))
def rencode_J0i := (spat 57 (tcon0 1 (ptrp 17 0) (tcon0 3 (ownp 26) tnil)) (hcons 17 (boxs 29 (.i .u8) (.cons (.i .u8) (.cons (.i .u8) (.cons (.i .u16) (.cons (.i .u8) (.cons (.i .u8) (.cons .b (.cons .b (.cons (.i .u8) (.cons (.ints .u8) .nil)))))))))) (hcons 26 (intsp 5 .u8) hnil)))
def rencode_J0o := (one .normal [] (spat 57 (tcon0 1 (ptrp 17 0) (tcon0 3 (ownp 26) (tcons 13 (shp .b) tnil))) (hcons 17 (boxs 29 (.i .u8) (.cons (.i .u8) (.cons (.i .u8) (.cons (.i .u16) (.cons (.i .u8) (.cons (.i .u8) (.cons .b (.cons .b (.cons (.i .u8) (.cons (.ints .u8) .nil)))))))))) (hcons 26 (intsp 5 .u8) hnil))))
def rencode_J0f (m : Nat) : (R : Type) → (Unit × Pkt × List Int × Unit) → (((Bool × Unit) × Pkt × List Int × Unit) → Option R) → Option R := fun R x K => let x12 := x.2.1; let x13 := x.2.2.1; rencode_J0 m x12 x13 (fun d0 => K (((d0, ()), ((x12), ((x13), ())))))
theorem rencode_J0k (m : Nat) : CutOk Tryd.prog _ _ rencode_J0i rencode_J0o (rencode_J0f m) (bodyAt Tryd.prog 14 [true, true, false, false]) :=
  cut_ok ty_mixed (rencode_tabok m) (fl := flR) (N := 300) (t := .leaf) trivial (fun R x K => by kernel_rfl)
def rencode_J1 {R : Type} (m : Nat) (x39 : Pkt) (x40 : List Int) (k0 : List Int → Option R) (k1 : Option R) : Option R :=
  (bnd (rbits_D m x39) fun y43 => (sumK (y43) (fun a44 => k0 (a44.snd.fst)) (fun b45 => k1)))
def rencode_J1i := (spat 57 (tcon0 1 (ptrp 17 0) (tcon0 3 (ownp 26) tnil)) (hcons 17 (boxs 29 (.i .u8) (.cons (.i .u8) (.cons (.i .u8) (.cons (.i .u16) (.cons (.i .u8) (.cons (.i .u8) (.cons .b (.cons .b (.cons (.i .u8) (.cons (.ints .u8) .nil)))))))))) (hcons 26 (intsp 5 .u8) hnil)))
def rencode_J1o := (two (one .normal [] (spat 57 (tcon0 3 (ownp 26) (tcon0 5 (ownp 73) tnil)) (hcons 26 (intsp 5 .u8) (hcons 73 (intsp 5 .u8) hnil)))) (one .normal [] (spat 57 (tcon0 3 (ownp 26) (tcon0 5 (datp (.v (.slice none 0 0))) tnil)) (hcons 26 (intsp 5 .u8) hnil))))
def rencode_J1f (m : Nat) : (R : Type) → (Unit × Pkt × List Int × Unit) → ((Unit × List Int × List Int × Unit ⊕ Unit × List Int × Unit) → Option R) → Option R := fun R x K => let x39 := x.2.1; let x40 := x.2.2.1; rencode_J1 m x39 x40 (fun d0 => K ((Sum.inl ((), ((x40), (d0, ())))))) (K ((Sum.inr ((), ((x40), ())))))
theorem rencode_J1k (m : Nat) : CutOk Tryd.prog _ _ rencode_J1i rencode_J1o (rencode_J1f m) (bodyAt Tryd.prog 14 [true, true, true, false]) :=
  cut_ok ty_mixed (rencode_tabok m) (fl := flR) (N := 300) (t := .leaf) trivial (fun R x K => by kernel_rfl)
def rencode_L0 (m : Nat) : Nat → List Int → Int → List Int → Option (Unit × List Int × Unit)
  | 0, _, _, _ => none
  | n + 1, x182, x183, x184 => (bif decide (x183 < (↑(List.length x182) : Int)) then (bif decide ((0 : Int) ≤ x183) && (decide (x183 ≤ Go.IntKind.wrap .i64 (x183 + (8 : Int))) && decide (Int.toNat (Go.IntKind.wrap .i64 (x183 + (8 : Int))) ≤ List.length x182)) then (bnd (number_D m (List.drop (Int.toNat x183) (List.take (Int.toNat (Go.IntKind.wrap .i64 (x183 + (8 : Int)))) x182))) fun y190 => (bif growOb (1 : Nat) (List.length x184 + List.length [Go.IntKind.wrap .u8 y190.fst]) then rencode_L0 m n (x182) (Go.IntKind.wrap .i64 (x183 + (8 : Int))) (x184 ++ [Go.IntKind.wrap .u8 y190.fst]) else none)) else none) else some ((), (x184, ())))
def rencode_L0i := (spat 57 (tcon0 3 (ownp 26) (tcons 5 (shp (.ints .u8)) (tcons 6 (shp (.i .i64)) tnil))) (hcons 26 (intsp 5 .u8) hnil))
def rencode_L0o := (one (.exit 0) [] (spat 57 (tcon0 3 (ownp 26) tnil) (hcons 26 (intsp 5 .u8) hnil)))
def rencode_L0g : List Gh := [.fz 5]
def rencode_L0f (m n : Nat) := fun (x : (List Int × Int × Unit) × List Int × Unit) => rencode_L0 m n x.1.1 x.1.2.1 x.2.1
theorem rencode_L0k (m : Nat) : ∀ n, LoopOk Tryd.prog _ _ rencode_L0i rencode_L0o (rencode_L0f m n) (bodyAt Tryd.prog 14 [true, true, true, true, true, true, false, true, false, false]) :=
  loop_ok ty_mixed (rencode_tabok m) (fl := flR) (gh := rencode_L0g) (rencode_L0f m) (N := 300) (t := .leaf) trivial (fun _ => rfl) (fun n x => by kernel_rfl)
def rencode_D (m : Nat) (x0 : Pkt) : Option (List Int × Unit) :=
  (bnd (rfirst_D m x0.fst) fun y7 => (rencode_J0 m (x0) ([y7.fst]) (fun d17 => (bif d17 then (bnd (r16_D m x0.snd.snd.snd.snd.snd.snd.snd.snd.snd.fst) fun y24 => (bif growOb (1 : Nat) (List.length [y7.fst] + List.length x0.snd.snd.snd.snd.snd.snd.snd.snd.snd.fst) then (bif growOb (1 : Nat) (List.length ([y7.fst] ++ x0.snd.snd.snd.snd.snd.snd.snd.snd.snd.fst) + List.length [Go.IntKind.wrap .u8 (Int.tmod y24.fst (256 : Int)), Go.IntKind.wrap .u8 (Go.IntKind.wrap .u64 (Int.tdiv y24.fst (256 : Int)))]) then some (([y7.fst] ++ x0.snd.snd.snd.snd.snd.snd.snd.snd.snd.fst ++ [Go.IntKind.wrap .u8 (Int.tmod y24.fst (256 : Int)), Go.IntKind.wrap .u8 (Go.IntKind.wrap .u64 (Int.tdiv y24.fst (256 : Int)))], ())) else none) else none)) else (rencode_J1 m (x0) ([y7.fst]) (fun d46 => (bif decide ((↑(List.length d46) : Int) = (0 : Int)) then some (([y7.fst], ())) else (bnd (sent_D m d46 [(1 : Int), (0 : Int), (1 : Int), (0 : Int), (0 : Int)]) fun y53 => (bif growOb (1 : Nat) (List.length d46 + List.length y53.snd.fst) then (bnd (rencode_L0 m m (d46 ++ y53.snd.fst) ((0 : Int)) ([y7.fst])) fun y195 => some (y195.snd)) else none)))) (some (([y7.fst], ()))))))))
def rencode_con (m : Nat) : Con := ⟨_, _, _, (vcons (shp shPkt) vnil), bnil, 0, fun _ => rfl, (rfz 0 (shp (.ints .u8)) bnil), fun x b => rencode_D m x.1⟩
theorem rencode_ok (m : Nat) : ConOk Tryd.prog 14 (rencode_con m) :=
  con_ok ty_mixed (rencode_tabok m) (fl := flR) (N := 300) (t := (.node .leaf (.node .leaf (.node (.node (.cut _ _ rencode_J0i [] rencode_J0o (rencode_J0f m) .leaf) .leaf) (.node (.cut _ _ rencode_J1i [] rencode_J1o (rencode_J1f m) .leaf) (.node .leaf (.node .leaf (.node (.node .leaf (.node (.loop _ _ rencode_L0i rencode_L0g rencode_L0o (rencode_L0f m m)) .leaf)) .leaf)))))))) (tree_of (Eq.mpr (show TreeOk Tryd.prog (.node .leaf (.node .leaf (.node (.node (.cut _ _ rencode_J0i [] rencode_J0o (rencode_J0f m) .leaf) .leaf) (.node (.cut _ _ rencode_J1i [] rencode_J1o (rencode_J1f m) .leaf) (.node .leaf (.node .leaf (.node (.node .leaf (.node (.loop _ _ rencode_L0i rencode_L0g rencode_L0o (rencode_L0f m m)) .leaf)) .leaf))))))) (bodyAt Tryd.prog 14 []) = (True ∧ (True ∧ (((CutOk Tryd.prog _ _ rencode_J0i rencode_J0o (rencode_J0f m) (bodyAt Tryd.prog 14 [true, true, false, false]) ∧ True) ∧ True) ∧ ((CutOk Tryd.prog _ _ rencode_J1i rencode_J1o (rencode_J1f m) (bodyAt Tryd.prog 14 [true, true, true, false]) ∧ True) ∧ (True ∧ (True ∧ ((True ∧ (LoopOk Tryd.prog _ _ rencode_L0i rencode_L0o (rencode_L0f m m) (bodyAt Tryd.prog 14 [true, true, true, true, true, true, false, true, false, false]))) ∧ True))))))) by kernel_rfl) ⟨trivial, ⟨trivial, ⟨⟨⟨rencode_J0k m, trivial⟩, trivial⟩, ⟨⟨rencode_J1k m, trivial⟩, ⟨trivial, ⟨trivial, ⟨⟨trivial, (rencode_L0k m m)⟩, trivial⟩⟩⟩⟩⟩⟩⟩)) (fun x b => by kernel_rfl)
--END rencode

--BEGIN rmany
--END rmany

--BEGIN rerror
--END rerror

end Go.Proofs.YtpdbekbobkjfgaaDoor

