/-
  Plain functions that the code reckons out to, with the proofs.
  Conditions: none.
-/
import Derived.Test.YtpdbekbobkjfgaaG4t
namespace Go.Proofs.Ytpdbekbobkjfgaa
set_option linter.unusedVariables false
set_option maxRecDepth 100000

--BEGIN spLaw
/-! plugboard/plugboardlaw06.TransactionsSpeak -/
def spLaw_tab (m : Nat) : List (FuncId × Ent) := [(56, .con (cloneF_con m)), (74, .con (cloneB_con m)), (21, .con (lives6_con m)), (6, .con (tLine_con m)), (16, .con (faults_con m)), (48, .con (known_con m)), (49, .con (token3_con m)), (50, .con (hasData_con m)), (17, .con (df3_con m)), (57, .con (shapeOf_con m)), (87, .con (one3_con m)), (20, .con (rfCheck_con m)), (42, .con (pkCheck_con m)), (12, .con (small_con m)), (18, .con (dfS_con m)), (19, .con (dfP_con m)), (14, .con (wire_con m)), (13, .con (speak_con m)), (15, .con (rspeak_con m))]
theorem spLaw_tabok (m : Nat) : CallOk Try.prog (tabK Try.prog flT 300 (spLaw_tab m) 6) := tabK_ok ty_mixed ((tabok_con (cloneF_ok m) (tabok_con (cloneB_ok m) (tabok_con (lives6_ok m) (tabok_con (tLine_ok m) (tabok_con (faults_ok m) (tabok_con (known_ok m) (tabok_con (token3_ok m) (tabok_con (hasData_ok m) (tabok_con (df3_ok m) (tabok_con (shapeOf_ok m) (tabok_con (one3_ok m) (tabok_con (rfCheck_ok m) (tabok_con (pkCheck_ok m) (tabok_con (small_ok m) (tabok_con (dfS_ok m) (tabok_con (dfP_ok m) (tabok_con (wire_ok m) (tabok_con (speak_ok m) (tabok_con (rspeak_ok m) tabok_nil)))))))))))))))))))) 6
def spLaw_D (m : Nat) (x0 : Pkt) (x1 : (List Pkt) × List Int × Unit) : Option (Bool × Unit) :=
  (bif decide ((1100 : Int) < (↑(List.length x0.snd.snd.snd.snd.snd.snd.snd.snd.snd.fst) : Int)) then some ((true, ())) else (bnd (small_D m x1) fun y14 => (bif !y14.fst then some ((true, ())) else (bnd (wire_D m x1.snd.fst) fun y30 => (bnd (speak_D m x0 x1.fst y30.snd.fst.fst) fun y34 => (bnd (faults_D m x1.snd.fst) fun y47 => (bnd (rspeak_D m x1.fst y47.fst x0) fun y51 => (bif !decide (y34.fst.snd.fst = y51.fst.snd.snd.fst) then some ((false, ())) else (bnd (df3_D m y34.fst.fst y51.fst.snd.fst) fun y95 => (bif !decide (y95.fst = (0 : Int)) then some ((false, ())) else (bnd (dfS_D m y34.fst.snd.snd.fst y51.fst.fst.snd.snd.snd.fst) fun y125 => (bif !decide (y125.fst = (0 : Int)) then some ((false, ())) else (bnd (dfP_D m y34.snd.fst.snd.fst y51.fst.fst.snd.snd.fst) fun y151 => (bif !decide (y151.fst = (0 : Int)) then some ((false, ())) else (bif !decide (ByteArray.toList (Go.strOfNums x0.snd.snd.snd.snd.snd.snd.snd.snd.snd.fst) = ByteArray.toList (Go.strOfNums x0.snd.snd.snd.snd.snd.snd.snd.snd.snd.fst)) then some ((false, ())) else (bnd (pkCheck_D m x0) fun y169 => (bif !decide (y169.fst = (0 : Int)) then (bnd (rfCheck_D m x0) fun y179 => (bif !decide (y179.fst = (0 : Int)) then (bnd (lives6_D m) fun y191 => some (y191)) else some ((false, ())))) else (bnd (cloneB_D m x0.snd.snd.snd.snd.snd.snd.snd.snd.snd.fst) fun y170 => (bif decide ((0 : Int) ≤ (↑(List.length y170.snd.fst) : Int)) && (decide ((↑(List.length y170.snd.fst) : Int) ≤ (↑(List.length y170.snd.fst) : Int)) && decide (Int.toNat (↑(List.length y170.snd.fst) : Int) ≤ List.length y170.snd.fst)) then (bnd (rfCheck_D m x0) fun y210 => (bif !decide (y210.fst = (0 : Int)) then some ((false, ())) else (bnd (lives6_D m) fun y232 => some (y232)))) else none)))))))))))))))))))
def spLaw_con (m : Nat) : Con := ⟨_, _, _, (vcons (shp shPkt) (vcons (shp (.cons (.row shPkt) (.cons (.ints .u8) .nil))) vnil)), bnil, 0, fun _ => rfl, (rfz 0 (shp .b) bnil), fun x b => spLaw_D m x.1 x.2.1⟩
theorem spLaw_ok (m : Nat) : ConOk Try.prog 4 (spLaw_con m) :=
  con_ok ty_mixed (spLaw_tabok m) (fl := flT) (N := 300) (t := .leaf) (tree_of trivial) (fun x b => by kernel_rfl)
--END spLaw

end Go.Proofs.Ytpdbekbobkjfgaa
