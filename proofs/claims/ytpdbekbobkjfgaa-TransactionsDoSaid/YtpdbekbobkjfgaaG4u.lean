/-
  Plain functions that the code reckons out to, with the proofs.
  Conditions: none.
-/
import Derived.Test.YtpdbekbobkjfgaaG4s
namespace Go.Proofs.Ytpdbekbobkjfgaa
set_option linter.unusedVariables false
set_option maxRecDepth 100000

--BEGIN wire
def wire_tab (m : Nat) : List (FuncId × Ent) := [(56, .con (cloneF_con m)), (74, .con (cloneB_con m)), (21, .con (lives6_con m)), (6, .con (tLine_con m)), (16, .con (faults_con m)), (48, .con (known_con m)), (49, .con (token3_con m)), (50, .con (hasData_con m)), (17, .con (df3_con m)), (57, .con (shapeOf_con m)), (87, .con (one3_con m)), (20, .con (rfCheck_con m)), (42, .con (pkCheck_con m)), (12, .con (small_con m)), (18, .con (dfS_con m)), (19, .con (dfP_con m))]
theorem wire_tabok (m : Nat) : CallOk Try.prog (tabK Try.prog flT 300 (wire_tab m) 6) := tabK_ok ty_mixed ((tabok_con (cloneF_ok m) (tabok_con (cloneB_ok m) (tabok_con (lives6_ok m) (tabok_con (tLine_ok m) (tabok_con (faults_ok m) (tabok_con (known_ok m) (tabok_con (token3_ok m) (tabok_con (hasData_ok m) (tabok_con (df3_ok m) (tabok_con (shapeOf_ok m) (tabok_con (one3_ok m) (tabok_con (rfCheck_ok m) (tabok_con (pkCheck_ok m) (tabok_con (small_ok m) (tabok_con (dfS_ok m) (tabok_con (dfP_ok m) tabok_nil))))))))))))))))) 6
def wire_D (m : Nat) (x0 : List Int) : Option (Unit × (List Int × Unit) × Unit) :=
  (bnd (faults_D m x0) fun y4 => (bnd (cloneF_D m y4.fst) fun y6 => some (((), y6.snd, ()))))
def wire_con (m : Nat) : Con := ⟨_, _, _, (vcons (shp (.ints .u8)) vnil), bnil, 0, fun _ => rfl, (rfk 0 1 (ptrp 0 0) (bcons (boxp 82 (vcons (shp (.ints .u8)) vnil)) bnil)), fun x b => wire_D m x.1⟩
theorem wire_ok (m : Nat) : ConOk Try.prog 14 (wire_con m) :=
  con_ok ty_mixed (wire_tabok m) (fl := flT) (N := 300) (t := .leaf) (tree_of trivial) (fun x b => by kernel_rfl)
--END wire

end Go.Proofs.Ytpdbekbobkjfgaa

