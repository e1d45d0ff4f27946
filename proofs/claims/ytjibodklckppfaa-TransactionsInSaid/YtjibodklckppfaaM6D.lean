/-
  Closed calls of the examples, reckoned out one by one.
  Conditions: none.
-/
import Derived.Test.YtjibodklckppfaaM6L
import Derived.Test.YtjibodklckppfaaKL
namespace Go.Proofs.Ytjibodklckppfaa
set_option linter.unusedVariables false
set_option maxRecDepth 100000

def do6x0_con (m : Nat) : Con := clCon [(.wrap (.ifc 182) (.d (.v (.func (.func 88) #[] #[])))), (.d (.v .nilIface)), (.agg [(.d (.v (.int .u8 0))), (.d (.v (.int .u8 0))), (.d (.v (.int .u8 9))), (.d (.v (.bool false))), (.d (.v (.bool false))), (.d (.v (.int .i64 8))), (.d (.v (.slice none 0 0)))])] [] (.tup [(.agg [(.d (.v (.int .u8 1))), (.ints .u8 [7] (some 1))]), (.row (.cons (.i .u8) (.cons (.i .u8) (.cons (.i .u8) (.cons (.i .u16) (.cons (.i .u8) (.cons (.i .u8) (.cons .b (.cons .b (.cons (.i .u8) (.cons (.ints .u8) (.cons .b (.cons (.i .u8) .nil)))))))))))) [(9, (0, (0, (0, (0, (0, (false, (false, (0, ([], (true, (0, ())))))))))))), (3, (0, (0, (0, (0, (0, (false, (false, (0, ([7], (false, (0, ())))))))))))), (2, (0, (0, (0, (0, (0, (false, (false, (0, ([], (true, (0, ()))))))))))))] (some 3))]) []
theorem do6x0_ok (m : Nat) : ConOk Try.prog 36 (do6x0_con m) :=
  con_ok ty_mixed (lives6_tabok m) (fl := flL6) (N := 300) (t := .leaf) (tree_of trivial) (fun x b => by kernel_rfl)
def do6x1_con (m : Nat) : Con := clCon [(.wrap (.ifc 182) (.d (.v (.func (.func 88) #[] #[])))), (.d (.v .nilIface)), (.agg [(.d (.v (.int .u8 0))), (.d (.v (.int .u8 0))), (.d (.v (.int .u8 9))), (.d (.v (.bool true))), (.d (.v (.bool false))), (.d (.v (.int .i64 8))), (.d (.v (.slice none 0 0)))])] [] (.tup [(.agg [(.d (.v (.int .u8 6))), (.d (.v (.slice none 0 0)))]), (.row (.cons (.i .u8) (.cons (.i .u8) (.cons (.i .u8) (.cons (.i .u16) (.cons (.i .u8) (.cons (.i .u8) (.cons .b (.cons .b (.cons (.i .u8) (.cons (.ints .u8) (.cons .b (.cons (.i .u8) .nil)))))))))))) [(9, (0, (0, (0, (0, (0, (false, (false, (0, ([], (true, (0, ())))))))))))), (3, (0, (0, (0, (0, (0, (false, (false, (0, ([7], (false, (0, ())))))))))))), (2, (0, (0, (0, (0, (0, (false, (false, (0, ([], (true, (0, ()))))))))))))] (some 3))]) []
theorem do6x1_ok (m : Nat) : ConOk Try.prog 36 (do6x1_con m) :=
  con_ok ty_mixed (lives6_tabok m) (fl := flL6) (N := 300) (t := .leaf) (tree_of trivial) (fun x b => by kernel_rfl)
def do6x2_con (m : Nat) : Con := clCon [(.wrap (.ifc 182) (.d (.v (.func (.func 88) #[] #[])))), (.d (.v .nilIface)), (.agg [(.d (.v (.int .u8 0))), (.d (.v (.int .u8 0))), (.d (.v (.int .u8 9))), (.d (.v (.bool false))), (.d (.v (.bool false))), (.d (.v (.int .i64 0))), (.d (.v (.slice none 0 0)))])] [] (.tup [(.agg [(.d (.v (.int .u8 5))), (.d (.v (.slice none 0 0)))]), (.row (.cons (.i .u8) (.cons (.i .u8) (.cons (.i .u8) (.cons (.i .u16) (.cons (.i .u8) (.cons (.i .u8) (.cons .b (.cons .b (.cons (.i .u8) (.cons (.ints .u8) (.cons .b (.cons (.i .u8) .nil)))))))))))) [(9, (0, (0, (0, (0, (0, (false, (false, (0, ([], (true, (0, ())))))))))))), (3, (0, (0, (0, (0, (0, (false, (false, (0, ([7], (false, (0, ()))))))))))))] (some 2))]) []
theorem do6x2_ok (m : Nat) : ConOk Try.prog 36 (do6x2_con m) :=
  con_ok ty_mixed (lives6_tabok m) (fl := flL6) (N := 300) (t := .leaf) (tree_of trivial) (fun x b => by kernel_rfl)
def do6x3_con (m : Nat) : Con := clCon [(.wrap (.ifc 182) (.d (.v (.func (.func 88) #[] #[])))), (.wrap (.ifc 88) (.ptr 0 0)), (.agg [(.d (.v (.int .u8 0))), (.d (.v (.int .u8 0))), (.d (.v (.int .u8 1))), (.d (.v (.bool false))), (.d (.v (.bool false))), (.d (.v (.int .i64 0))), (.ints .u8 [1] (some 1))])] [(.box 218 [(.ints .u8 [1] none)])] (.tup [(.agg [(.d (.v (.int .u8 4))), (.d (.v (.slice none 0 0)))]), (.row (.cons (.i .u8) (.cons (.i .u8) (.cons (.i .u8) (.cons (.i .u16) (.cons (.i .u8) (.cons (.i .u8) (.cons .b (.cons .b (.cons (.i .u8) (.cons (.ints .u8) (.cons .b (.cons (.i .u8) .nil)))))))))))) [(1, (0, (0, (0, (0, (0, (false, (false, (0, ([], (true, (1, ())))))))))))), (3, (0, (0, (0, (0, (0, (false, (false, (0, ([1], (true, (0, ()))))))))))))] (some 2))]) [(.box 218 [(.ints .u8 [] none)])]
theorem do6x3_ok (m : Nat) : ConOk Try.prog 36 (do6x3_con m) :=
  con_ok ty_mixed (lives6_tabok m) (fl := flL6) (N := 300) (t := .leaf) (tree_of trivial) (fun x b => by kernel_rfl)
def do6x4_con (m : Nat) : Con := clCon [(.wrap (.ifc 182) (.d (.v (.func (.func 88) #[] #[])))), (.wrap (.ifc 88) (.ptr 0 0)), (.agg [(.d (.v (.int .u8 0))), (.d (.v (.int .u8 0))), (.d (.v (.int .u8 1))), (.d (.v (.bool false))), (.d (.v (.bool false))), (.d (.v (.int .i64 0))), (.ints .u8 [1] (some 1))])] [(.box 218 [(.ints .u8 [0, 2] none)])] (.tup [(.agg [(.d (.v (.int .u8 4))), (.d (.v (.slice none 0 0)))]), (.row (.cons (.i .u8) (.cons (.i .u8) (.cons (.i .u8) (.cons (.i .u16) (.cons (.i .u8) (.cons (.i .u8) (.cons .b (.cons .b (.cons (.i .u8) (.cons (.ints .u8) (.cons .b (.cons (.i .u8) .nil)))))))))))) [(1, (0, (0, (0, (0, (0, (false, (false, (0, ([], (true, (0, ())))))))))))), (3, (0, (0, (0, (0, (0, (false, (false, (0, ([1], (true, (2, ()))))))))))))] (some 2))]) [(.box 218 [(.ints .u8 [] none)])]
theorem do6x4_ok (m : Nat) : ConOk Try.prog 36 (do6x4_con m) :=
  con_ok ty_mixed (lives6_tabok m) (fl := flL6) (N := 300) (t := .leaf) (tree_of trivial) (fun x b => by kernel_rfl)
def do6x5_con (m : Nat) : Con := clCon [(.wrap (.ifc 182) (.d (.v (.func (.func 88) #[] #[])))), (.d (.v .nilIface)), (.agg [(.d (.v (.int .u8 0))), (.d (.v (.int .u8 0))), (.d (.v (.int .u8 13))), (.d (.v (.bool false))), (.d (.v (.bool false))), (.d (.v (.int .i64 0))), (.ints .u8 [0, 0, 0, 0, 0, 0, 0] (some 7))])] [] (.tup [(.agg [(.d (.v (.int .u8 0))), (.d (.v (.slice none 0 0)))]), (.d (.v (.slice none 0 0)))]) []
theorem do6x5_ok (m : Nat) : ConOk Try.prog 36 (do6x5_con m) :=
  con_ok ty_mixed (lives6_tabok m) (fl := flL6) (N := 300) (t := .leaf) (tree_of trivial) (fun x b => by kernel_rfl)
end Go.Proofs.Ytjibodklckppfaa

