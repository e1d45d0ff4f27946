/-
  Plain functions that the code reckons out to, with the proofs.
  Conditions: none.
-/
import Derived.Test.YtpdbekbobkjfgaaDoorL3T
namespace Go.Proofs.YtpdbekbobkjfgaaDoor
set_option linter.unusedVariables false
set_option maxRecDepth 100000

--BEGIN df3
/-! plugboard/plugboardlaw03.Differ -/
def df3_tab (m : Nat) : List (FuncId × Ent) := [(13, .con (lives3_con m)), (96, .con (cloneB_con m))]
theorem df3_tabok (m : Nat) : CallOk Tryd.prog (tabK Tryd.prog flT 300 (df3_tab m) 6) := tabK_ok ty_mixed ((tabok_con (lives3_ok m) (tabok_con (cloneB_ok m) tabok_nil))) 6
def df3_D (m : Nat) (x0 : Pkt) (x1 : Pkt) : Option (Int × Unit) :=
  (bif !decide (x0.fst = x1.fst) then some (((1 : Int), ())) else (bif !decide (x0.snd.fst = x1.snd.fst) then some (((1 : Int), ())) else (bif !decide (x0.snd.snd.fst = x1.snd.snd.fst) then some (((1 : Int), ())) else (bif !decide (x0.snd.snd.snd.fst = x1.snd.snd.snd.fst) then some (((1 : Int), ())) else (bif !(decide (x0.snd.snd.snd.snd.fst = x1.snd.snd.snd.snd.fst) && (decide (x0.snd.snd.snd.snd.snd.fst = x1.snd.snd.snd.snd.snd.fst) && (decide (x0.snd.snd.snd.snd.snd.snd.fst = x1.snd.snd.snd.snd.snd.snd.fst) && (decide (x0.snd.snd.snd.snd.snd.snd.snd.fst = x1.snd.snd.snd.snd.snd.snd.snd.fst) && (decide (x0.snd.snd.snd.snd.snd.snd.snd.snd.fst = x1.snd.snd.snd.snd.snd.snd.snd.snd.fst) && true))))) then some (((1 : Int), ())) else (bif !decide (ByteArray.toList (Go.strOfNums x0.snd.snd.snd.snd.snd.snd.snd.snd.snd.fst) = ByteArray.toList (Go.strOfNums x1.snd.snd.snd.snd.snd.snd.snd.snd.snd.fst)) then some (((1 : Int), ())) else some (((0 : Int), ()))))))))
def df3_con (m : Nat) : Con := ⟨_, _, _, (vcons (shp shPkt) (vcons (shp shPkt) vnil)), bnil, 0, fun _ => rfl, (rfz 0 (shp (.i .i64)) bnil), fun x b => df3_D m x.1 x.2.1⟩
theorem df3_ok (m : Nat) : ConOk Tryd.prog 17 (df3_con m) :=
  con_ok ty_mixed (df3_tabok m) (fl := flT) (N := 300) (t := .leaf) (tree_of trivial) (fun x b => by kernel_rfl)
--END df3

--BEGIN same
/-! plugboard/packets.Same -/
def same_tab (m : Nat) : List (FuncId × Ent) := [(13, .con (lives3_con m)), (96, .con (cloneB_con m)), (17, .con (df3_con m))]
theorem same_tabok (m : Nat) : CallOk Tryd.prog (tabK Tryd.prog flT 300 (same_tab m) 6) := tabK_ok ty_mixed ((tabok_con (lives3_ok m) (tabok_con (cloneB_ok m) (tabok_con (df3_ok m) tabok_nil)))) 6
def same_D (m : Nat) (x0 : Pkt) (x1 : Pkt) : Option (Bool × Unit) :=
  (bif decide (x0.fst = x1.fst) then (bif decide (x0.snd.fst = x1.snd.fst) then (bif decide (x0.snd.snd.fst = x1.snd.snd.fst) then (bif decide (x0.snd.snd.snd.fst = x1.snd.snd.snd.fst) then (bif decide (x0.snd.snd.snd.snd.fst = x1.snd.snd.snd.snd.fst) && (decide (x0.snd.snd.snd.snd.snd.fst = x1.snd.snd.snd.snd.snd.fst) && (decide (x0.snd.snd.snd.snd.snd.snd.fst = x1.snd.snd.snd.snd.snd.snd.fst) && (decide (x0.snd.snd.snd.snd.snd.snd.snd.fst = x1.snd.snd.snd.snd.snd.snd.snd.fst) && (decide (x0.snd.snd.snd.snd.snd.snd.snd.snd.fst = x1.snd.snd.snd.snd.snd.snd.snd.snd.fst) && true)))) then some ((decide (ByteArray.toList (Go.strOfNums x0.snd.snd.snd.snd.snd.snd.snd.snd.snd.fst) = ByteArray.toList (Go.strOfNums x1.snd.snd.snd.snd.snd.snd.snd.snd.snd.fst)), ())) else some ((false, ()))) else some ((false, ()))) else some ((false, ()))) else some ((false, ()))) else some ((false, ())))
def same_con (m : Nat) : Con := ⟨_, _, _, (vcons (shp shPkt) (vcons (shp shPkt) vnil)), bnil, 0, fun _ => rfl, (rfz 0 (shp .b) bnil), fun x b => same_D m x.1 x.2.1⟩
theorem same_ok (m : Nat) : ConOk Tryd.prog 19 (same_con m) :=
  con_ok ty_mixed (same_tabok m) (fl := flT) (N := 300) (t := .leaf) (tree_of trivial) (fun x b => by kernel_rfl)
--END same

--BEGIN smLaw
/-! plugboard/plugboardlaw03.PacketsSame -/
def smLaw_tab (m : Nat) : List (FuncId × Ent) := [(13, .con (lives3_con m)), (96, .con (cloneB_con m)), (17, .con (df3_con m)), (19, .con (same_con m))]
theorem smLaw_tabok (m : Nat) : CallOk Tryd.prog (tabK Tryd.prog flT 300 (smLaw_tab m) 6) := tabK_ok ty_mixed ((tabok_con (lives3_ok m) (tabok_con (cloneB_ok m) (tabok_con (df3_ok m) (tabok_con (same_ok m) tabok_nil))))) 6
def smLaw_D (m : Nat) (x0 : Pkt) (x1 : Pkt) : Option (Bool × Unit) :=
  (bif decide ((400 : Int) < (↑(List.length x0.snd.snd.snd.snd.snd.snd.snd.snd.snd.fst) : Int)) then some ((true, ())) else (bif decide ((400 : Int) < (↑(List.length x1.snd.snd.snd.snd.snd.snd.snd.snd.snd.fst) : Int)) then some ((true, ())) else (bnd (same_D m x0 x1) fun y21 => (bnd (df3_D m x0 x1) fun y25 => (bif decide (y21.fst = decide (y25.fst = (0 : Int))) then (bnd (same_D m x1 x0) fun y32 => (bnd (same_D m x0 x1) fun y36 => (bif decide (y32.fst = y36.fst) then (bnd (same_D m x0 x0) fun y43 => (bif y43.fst then (bnd (lives3_D m) fun y46 => some (y46)) else some ((false, ())))) else some ((false, ()))))) else some ((false, ())))))))
def smLaw_con (m : Nat) : Con := ⟨_, _, _, (vcons (shp shPkt) (vcons (shp shPkt) vnil)), bnil, 0, fun _ => rfl, (rfz 0 (shp .b) bnil), fun x b => smLaw_D m x.1 x.2.1⟩
theorem smLaw_ok (m : Nat) : ConOk Tryd.prog 6 (smLaw_con m) :=
  con_ok ty_mixed (smLaw_tabok m) (fl := flT) (N := 300) (t := .leaf) (tree_of trivial) (fun x b => by kernel_rfl)
--END smLaw

end Go.Proofs.YtpdbekbobkjfgaaDoor
