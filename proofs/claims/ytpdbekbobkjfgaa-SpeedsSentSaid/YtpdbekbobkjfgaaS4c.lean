/-
  Plain functions that the code reckons out to, with the proofs.
  Conditions: none.
-/
import Derived.Test.YtpdbekbobkjfgaaS4b
namespace Go.Proofs.Ytpdbekbobkjfgaa
set_option linter.unusedVariables false
set_option maxRecDepth 100000

--BEGIN spSent
/-! plugboard/plugboardlaw04.SpeedsSent -/
def spSent_tab (m : Nat) : List (FuncId × Ent) := [(11, .con (lives4_con m)), (10, .con (spCost_con m)), (8, .con (pkt_con m)), (9, .con (pkSend_con m))]
theorem spSent_tabok (m : Nat) : CallOk Try.prog (tabK Try.prog flS 300 (spSent_tab m) 6) := tabK_ok ty_mixed ((tabok_con (lives4_ok m) (tabok_con (spCost_ok m) (tabok_con (pkt_ok m) (tabok_con (pkSend_ok m) tabok_nil))))) 6
def spSent_L0 (m : Nat) : Nat → Int → Int → Int → (Int × Int × Int × Int × Int × List Int × Unit) → (List Pkt) → Option ((Bool × Unit) × Unit ⊕ (Int × Int × Unit) × (Int × Int × Int × Int × Int × List Int × Unit) × Unit)
  | 0, _, _, _, _, _ => none
  | n + 1, x150, x151, x152, x153, x154 => (bif decide (x152 < (↑(List.length x154) : Int)) then (bif inB x152 (List.length x154) then (bif decide (Int.toNat x152 < List.length x154) then (bnd (pkSend_D m (List.getD x154 (Int.toNat x152) ((0 : Int), (0 : Int), (0 : Int), (0 : Int), (0 : Int), (0 : Int), false, false, (0 : Int), [], ()))) fun y160 => (bif !decide (y160.fst.snd.fst = (0 : Int)) then some (Sum.inl ((false, ()), ())) else spSent_L0 m n (x150) (Go.IntKind.wrap .i64 (x151 + Go.IntKind.wrap .i64 ((↑(List.length y160.fst.fst) : Int) + (8 : Int)))) (Go.IntKind.wrap .i64 (x152 + (1 : Int))) (x153) (x154))) else none) else none) else some (Sum.inr ((x150, (x151, ())), (x153, ()))))
def spSent_L0i := (spat 71 (tcon0 4 (ptrp 20 0) (tcon0 7 (ownp 41) (tcons 8 (shp (.i .u8)) (tcons 9 (shp (.i .i64)) (tcons 10 (shp (.i .i64)) tnil))))) (hcons 20 (boxs 25 (.i .u8) (.cons (.i .u8) (.cons (.i .u8) (.cons (.i .u16) (.cons (.i .u8) (.cons (.ints .u8) .nil)))))) (hcons 41 (rowp 31 shPkt) hnil)))
def spSent_L0o := (two (one .ret [] (spat 71 (tcons 6 (shp .b) tnil) hnil)) (one (.exit 0) [] (spat 71 (tcon0 4 (ptrp 20 0) (tcons 8 (shp (.i .u8)) (tcons 9 (shp (.i .i64)) tnil))) (hcons 20 (boxs 25 (.i .u8) (.cons (.i .u8) (.cons (.i .u8) (.cons (.i .u16) (.cons (.i .u8) (.cons (.ints .u8) .nil)))))) hnil))))
def spSent_L0g : List Gh := []
def spSent_L0f (m n : Nat) := fun (x : (Int × Int × Int × Unit) × (Int × Int × Int × Int × Int × List Int × Unit) × List Pkt × Unit) => spSent_L0 m n x.1.1 x.1.2.1 x.1.2.2.1 x.2.1 x.2.2.1
theorem spSent_L0k (m : Nat) : ∀ n, LoopOk Try.prog _ _ spSent_L0i spSent_L0o (spSent_L0f m n) (bodyAt Try.prog 3 [true, true, true, true, true, true, true, false, true, false, false]) :=
  loop_ok ty_mixed (spSent_tabok m) (fl := flS) (gh := spSent_L0g) (spSent_L0f m) (N := 300) (t := .leaf) trivial (fun _ => rfl) (fun n x => by kernel_rfl)
def spSent_J0 {R : Type} (m : Nat) (x189 : Int) (x190 : Int) (x191 : Int) (k0 : Bool → Option R) : Option R :=
  (bif decide (x191 = (0 : Int)) then (bif decide (x189 ≤ x190) then (bnd (lives4_D m) fun y197 => k0 (y197.fst)) else k0 (false)) else k0 (false))
def spSent_J0i := (spat 71 (tcons 9 (shp (.i .i64)) (tcons 13 (shp (.i .i64)) (tcons 14 (shp (.i .i64)) tnil))) hnil)
def spSent_J0o := (one .normal [] (spat 71 (tcons 6 (shp .b) tnil) hnil))
def spSent_J0f (m : Nat) : (R : Type) → ((Int × Int × Int × Unit) × Unit) → (((Bool × Unit) × Unit) → Option R) → Option R := fun R x K => let x189 := x.1.1; let x190 := x.1.2.1; let x191 := x.1.2.2.1; spSent_J0 m x189 x190 x191 (fun d0 => K (((d0, ()), ())))
theorem spSent_J0k (m : Nat) : CutOk Try.prog _ _ spSent_J0i spSent_J0o (spSent_J0f m) (bodyAt Try.prog 3 [true, true, true, true, true, true, true, true, true, false]) :=
  cut_ok ty_mixed (spSent_tabok m) (fl := flS) (N := 300) (t := .leaf) trivial (fun R x K => by kernel_rfl)
def spSent_D (m : Nat) (x0 : Int × Int × Int × Int × Int × List Int × Unit) (x1 : Int × Int × Int × Int × Int × List Int × Unit) (x2 : Bool) : Option (Bool × Unit) :=
  (bif decide ((200 : Int) < (↑(List.length x1.snd.snd.snd.snd.snd.fst) : Int)) then some ((true, ())) else (bnd (pkt_D m ((6 : Int), x0.snd)) fun y18 => (bnd (pkt_D m ((2 : Int), x1.snd)) fun y21 => (bif !x2 then (bnd (spSent_L0 m m ((2 : Int)) ((0 : Int)) ((0 : Int)) (((2 : Int), x1.snd)) ([y18.fst, y21.fst] ++ [((2 : Int), (0 : Int), (0 : Int), (0 : Int), (0 : Int), (0 : Int), false, false, (0 : Int), [], ())])) fun y169 => (sumK y169 (fun a170 => some (a170.fst)) (fun b171 => (bnd (spCost_D m (1 : Int) b171.fst.fst (↑(List.length b171.snd.fst.snd.snd.snd.snd.snd.fst) : Int)) fun y176 => (spSent_J0 m (b171.fst.snd.fst) (y176.fst.fst) (y176.fst.snd.fst) (fun d202 => some ((d202, ())))))))) else (bnd (spSent_L0 m m ((1 : Int)) ((0 : Int)) ((0 : Int)) (((2 : Int), x1.snd)) ([y18.fst, y21.fst])) fun y306 => (sumK y306 (fun a307 => some (a307.fst)) (fun b308 => (bnd (spCost_D m (1 : Int) b308.fst.fst (↑(List.length b308.snd.fst.snd.snd.snd.snd.snd.fst) : Int)) fun y313 => (spSent_J0 m (b308.fst.snd.fst) (y313.fst.fst) (y313.fst.snd.fst) (fun d326 => some ((d326, ()))))))))))))
def spSent_con (m : Nat) : Con := ⟨_, _, _, (vcons (shp (.cons (.i .u8) (.cons (.i .u8) (.cons (.i .u8) (.cons (.i .u16) (.cons (.i .u8) (.cons (.ints .u8) .nil))))))) (vcons (shp (.cons (.i .u8) (.cons (.i .u8) (.cons (.i .u8) (.cons (.i .u16) (.cons (.i .u8) (.cons (.ints .u8) .nil))))))) (vcons (shp .b) vnil))), bnil, 0, fun _ => rfl, (rfz 0 (shp .b) bnil), fun x b => spSent_D m x.1 x.2.1 x.2.2.1⟩
theorem spSent_ok (m : Nat) : ConOk Try.prog 3 (spSent_con m) :=
  con_ok ty_mixed (spSent_tabok m) (fl := flS) (N := 300) (t := (.node .leaf (.node .leaf (.node .leaf (.node .leaf (.node .leaf (.node .leaf (.node .leaf (.node (.node .leaf (.node (.loop _ _ spSent_L0i spSent_L0g spSent_L0o (spSent_L0f m m)) .leaf)) (.node .leaf (.node (.cut _ _ spSent_J0i [] spSent_J0o (spSent_J0f m) .leaf) .leaf))))))))))) (tree_of (Eq.mpr (show TreeOk Try.prog (.node .leaf (.node .leaf (.node .leaf (.node .leaf (.node .leaf (.node .leaf (.node .leaf (.node (.node .leaf (.node (.loop _ _ spSent_L0i spSent_L0g spSent_L0o (spSent_L0f m m)) .leaf)) (.node .leaf (.node (.cut _ _ spSent_J0i [] spSent_J0o (spSent_J0f m) .leaf) .leaf)))))))))) (bodyAt Try.prog 3 []) = (True ∧ (True ∧ (True ∧ (True ∧ (True ∧ (True ∧ (True ∧ ((True ∧ (LoopOk Try.prog _ _ spSent_L0i spSent_L0o (spSent_L0f m m) (bodyAt Try.prog 3 [true, true, true, true, true, true, true, false, true, false, false]))) ∧ (True ∧ ((CutOk Try.prog _ _ spSent_J0i spSent_J0o (spSent_J0f m) (bodyAt Try.prog 3 [true, true, true, true, true, true, true, true, true, false]) ∧ True) ∧ True)))))))))) by kernel_rfl) ⟨trivial, ⟨trivial, ⟨trivial, ⟨trivial, ⟨trivial, ⟨trivial, ⟨trivial, ⟨⟨trivial, (spSent_L0k m m)⟩, ⟨trivial, ⟨⟨spSent_J0k m, trivial⟩, trivial⟩⟩⟩⟩⟩⟩⟩⟩⟩⟩)) (fun x b => by kernel_rfl)
--END spSent

end Go.Proofs.Ytpdbekbobkjfgaa
