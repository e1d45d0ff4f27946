/-
  Plain functions that the code reckons out to, with the proofs.
  Conditions: none.
-/
import Derived.Test.YtmjocalgekfodaaFnPk
import Derived.Test.YtmjocalgekfodaaC9e
namespace Go.Proofs.Ytmjocalgekfodaa
set_option linter.unusedVariables false
set_option maxRecDepth 100000

--BEGIN lawKn
def lawKn_tab (m : Nat) : List (FuncId × Ent) := [(16, .con (sim_con m)), (15, .con (lives42_con m)), (5, .con (lawKeep_con m)), (4, .con (lawRun_con m)), (21, .con (lawFb_con m)), (22, .con (lawSd_con m))]
theorem lawKn_tabok (m : Nat) : CallOk Try.prog (tabK Try.prog flK 300 (lawKn_tab m) 6) := tabK_ok ty_mixed ((tabok_con (sim_ok m) (tabok_con (lives42_ok m) (tabok_con (lawKeep_ok m) (tabok_con (lawRun_ok m) (tabok_con (lawFb_ok m) (tabok_con (lawSd_ok m) tabok_nil))))))) 6
def lawKn_J0 {R : Type} (m : Nat) (x265 : Int) (x266 : Int) (x267 : Int) (x268 : Int) (x269 : Int) (x270 : List Int) (x271 : List Int) (k0 : Bool → Option R) : Option R :=
  (bnd (lawKeep_D m (x267, x268, x270, x269, x271, ()) (Go.IntKind.wrap .u16 x265) (Go.IntKind.wrap .u16 x266)) fun y276 => (bif !y276.fst then k0 (true) else (bnd (lawFb_D m (Go.IntKind.wrap .u32 (Go.IntKind.wrap .u32 x265 * (173 : Int))) [Go.IntKind.wrap .u8 x265, Go.IntKind.wrap .u8 (Go.IntKind.wrap .i64 (Int.tdiv x265 (256 : Int))), Go.IntKind.wrap .u8 x266]) fun y289 => (bif !y289.fst then k0 (true) else (bnd (lawSd_D m ((0 : Int), Go.IntKind.wrap .u32 (Int.tmod x265 (65536 : Int)), ()) [Go.IntKind.wrap .u32 x265, Go.IntKind.wrap .u32 (Go.IntKind.wrap .u32 x265 * (100 : Int)), (16777216 : Int)]) fun y302 => k0 (!y302.fst))))))
def lawKn_J0i := (spat 108 (tcons 1 (shp (.i .i64)) (tcons 2 (shp (.i .i64)) (tcon0 3 (ptrp 19 0) tnil))) (hcons 19 (boxp 52 (vcons (shp (.i .u32)) (vcons (shp (.i .u16)) (vcon0 (ownp 43) (vcons (shp (.i .u16)) (vcon0 (ownp 52) vnil)))))) (hcons 43 (intsp 21 .i32) (hcons 52 (intsp 5 .u8) hnil))))
def lawKn_J0o := (one .normal [] (spat 108 (tcons 1 (shp (.i .i64)) (tcons 2 (shp (.i .i64)) (tcons 73 (shp .b) tnil))) hnil))
def lawKn_J0f (m : Nat) : (R : Type) → ((Int × Int × Unit) × (Int × Int × Int × Unit) × List Int × List Int × Unit) → (((Int × Int × Bool × Unit) × Unit) → Option R) → Option R := fun R x K => let x265 := x.1.1; let x266 := x.1.2.1; let x267 := x.2.1.1; let x268 := x.2.1.2.1; let x269 := x.2.1.2.2.1; let x270 := x.2.2.1; let x271 := x.2.2.2.1; lawKn_J0 m x265 x266 x267 x268 x269 x270 x271 (fun d0 => K ((((x265), ((x266), (d0, ()))), ())))
theorem lawKn_J0k (m : Nat) : CutOk Try.prog _ _ lawKn_J0i lawKn_J0o (lawKn_J0f m) (bodyAt Try.prog 6 [true, true, false, true, false, false, true, false, false, true, false, false]) :=
  cut_ok ty_mixed (lawKn_tabok m) (fl := flK) (N := 300) (t := .leaf) trivial (fun R x K => by kernel_rfl)
def lawKn_L0 (m : Nat) : Nat → Int → Int → Option ((Bool × Unit) × Unit ⊕ Unit × Unit)
  | 0, _, _ => none
  | n + 1, x209, x210 => (bif decide (x210 < (20 : Int)) then (lawKn_J0 m (x209) (x210) (Go.IntKind.wrap .u32 (Go.IntKind.wrap .u32 x209 * (4099 : Int))) (Go.IntKind.wrap .u16 x209) (Go.IntKind.wrap .u16 (Go.IntKind.wrap .i64 ((400 : Int) + x210))) ([Go.IntKind.wrap .i32 (Int.tmod x209 (65536 : Int)), Go.IntKind.wrap .i32 ((0 : Int) - Go.IntKind.wrap .i32 (Int.tmod (Go.IntKind.wrap .i64 (Int.tdiv x209 (3 : Int))) (65536 : Int))), (65536 : Int), (-65536 : Int), Go.IntKind.wrap .i32 x210]) ([Go.IntKind.wrap .u8 x209, Go.IntKind.wrap .u8 (Go.IntKind.wrap .i64 (Int.tdiv x209 (7 : Int))), (0 : Int), (2 : Int)]) (fun d305 => (bif d305 then some (Sum.inl ((false, ()), ())) else lawKn_L0 m n (Int.tmod (Go.IntKind.wrap .i64 (Go.IntKind.wrap .i64 (x209 * (31 : Int)) + (11 : Int))) (100003 : Int)) (Go.IntKind.wrap .i64 (x210 + (1 : Int)))))) else some (Sum.inr ((), ())))
def lawKn_L0i := (spat 108 (tcons 1 (shp (.i .i64)) (tcons 2 (shp (.i .i64)) tnil)) hnil)
def lawKn_L0o := (two (one .ret [] (spat 108 (tcons 0 (shp .b) tnil) hnil)) (one (.exit 0) [] (spat 108 tnil hnil)))
def lawKn_L0g : List Gh := []
def lawKn_L0f (m n : Nat) := fun (x : (Int × Int × Unit) × Unit) => lawKn_L0 m n x.1.1 x.1.2.1
theorem lawKn_L0k (m : Nat) : ∀ n, LoopOk Try.prog _ _ lawKn_L0i lawKn_L0o (lawKn_L0f m n) (bodyAt Try.prog 6 [true, true, false, true, false, false]) :=
  loop_ok ty_mixed (lawKn_tabok m) (fl := flK) (gh := lawKn_L0g) (lawKn_L0f m) (N := 300) (t := (.node .leaf (.node (.node (.node .leaf (.node (.node (.cut _ _ lawKn_J0i [] lawKn_J0o (lawKn_J0f m) .leaf) .leaf) .leaf)) .leaf) .leaf))) (Eq.mpr (show TreeOk Try.prog (.node .leaf (.node (.node (.node .leaf (.node (.node (.cut _ _ lawKn_J0i [] lawKn_J0o (lawKn_J0f m) .leaf) .leaf) .leaf)) .leaf) .leaf)) (bodyAt Try.prog 6 [true, true, false, true, false, false]) = (True ∧ ((True ∧ (((CutOk Try.prog _ _ lawKn_J0i lawKn_J0o (lawKn_J0f m) (bodyAt Try.prog 6 [true, true, false, true, false, false, true, false, false, true, false, false]) ∧ True) ∧ True) ∧ True)) ∧ True)) by kernel_rfl) ⟨trivial, ⟨⟨trivial, ⟨⟨⟨lawKn_J0k m, trivial⟩, trivial⟩, trivial⟩⟩, trivial⟩⟩) (fun _ => rfl) (fun n x => by kernel_rfl)
def lawKn_J1 {R : Type} (m : Nat) (x355 : Int) (x356 : Int) (k0 : Bool → Option R) : Option R :=
  (bif decide (x355 = (1 : Int)) then (bif decide (x356 = (0 : Int)) then (bnd (lawRun_D m ((9 : Int), (9 : Int), (0 : Int), (0 : Int), ()) (16777216 : Int) [((16777216 : Int), false, false, ()), ((0 : Int), true, false, ()), ((65536 : Int), false, true, ()), ((0 : Int), false, false, ())]) fun y368 => (bif y368.fst then (bnd (lives42_D m) fun y371 => k0 (y371.fst)) else k0 (false))) else k0 (false)) else k0 (false))
def lawKn_J1i := (spat 108 (tcons 5 (shp (.i .i64)) (tcons 7 (shp (.i .i64)) tnil)) hnil)
def lawKn_J1o := (one .normal [] (spat 108 (tcons 0 (shp .b) tnil) hnil))
def lawKn_J1f (m : Nat) : (R : Type) → ((Int × Int × Unit) × Unit) → (((Bool × Unit) × Unit) → Option R) → Option R := fun R x K => let x355 := x.1.1; let x356 := x.1.2.1; lawKn_J1 m x355 x356 (fun d0 => K (((d0, ()), ())))
theorem lawKn_J1k (m : Nat) : CutOk Try.prog _ _ lawKn_J1i lawKn_J1o (lawKn_J1f m) (bodyAt Try.prog 6 [true, true, true, true, true, false]) :=
  cut_ok ty_mixed (lawKn_tabok m) (fl := flK) (N := 300) (t := .leaf) trivial (fun R x K => by kernel_rfl)
def lawKn_D (m : Nat)  : Option (Bool × Unit) :=
  (bnd (lawKn_L0 m m ((1 : Int)) ((0 : Int))) fun y314 => (sumK y314 (fun a315 => some (a315.fst)) (fun b316 => (bnd (sim_D m ((0 : Int), (1 : Int), (0 : Int), (0 : Int), ()) (0 : Int) (List.replicate (Int.toNat (65537 : Int)) ((0 : Int), false, false, ()))) fun y320 => (bnd (sim_D m ((0 : Int), (1 : Int), (0 : Int), (0 : Int), ()) (0 : Int) (List.replicate (Int.toNat (65536 : Int)) ((0 : Int), false, false, ()))) fun y328 => (lawKn_J1 m (y320.fst.snd.fst) (y328.fst.snd.fst) (fun d379 => some ((d379, ())))))))))
def lawKn_con (m : Nat) : Con := ⟨_, _, _, vnil, bnil, 0, fun _ => rfl, (rfz 0 (shp .b) bnil), fun x b => lawKn_D m⟩
theorem lawKn_ok (m : Nat) : ConOk Try.prog 6 (lawKn_con m) :=
  con_ok ty_mixed (lawKn_tabok m) (fl := flK) (N := 300) (t := (.node .leaf (.node .leaf (.node (.node .leaf (.node (.loop _ _ lawKn_L0i lawKn_L0g lawKn_L0o (lawKn_L0f m m)) .leaf)) (.node .leaf (.node .leaf (.node (.cut _ _ lawKn_J1i [] lawKn_J1o (lawKn_J1f m) .leaf) .leaf))))))) (tree_of (Eq.mpr (show TreeOk Try.prog (.node .leaf (.node .leaf (.node (.node .leaf (.node (.loop _ _ lawKn_L0i lawKn_L0g lawKn_L0o (lawKn_L0f m m)) .leaf)) (.node .leaf (.node .leaf (.node (.cut _ _ lawKn_J1i [] lawKn_J1o (lawKn_J1f m) .leaf) .leaf)))))) (bodyAt Try.prog 6 []) = (True ∧ (True ∧ ((True ∧ (LoopOk Try.prog _ _ lawKn_L0i lawKn_L0o (lawKn_L0f m m) (bodyAt Try.prog 6 [true, true, false, true, false, false]))) ∧ (True ∧ (True ∧ ((CutOk Try.prog _ _ lawKn_J1i lawKn_J1o (lawKn_J1f m) (bodyAt Try.prog 6 [true, true, true, true, true, false]) ∧ True) ∧ True)))))) by kernel_rfl) ⟨trivial, ⟨trivial, ⟨⟨trivial, (lawKn_L0k m m)⟩, ⟨trivial, ⟨trivial, ⟨⟨lawKn_J1k m, trivial⟩, trivial⟩⟩⟩⟩⟩⟩)) (fun x b => by kernel_rfl)
--END lawKn

end Go.Proofs.Ytmjocalgekfodaa

