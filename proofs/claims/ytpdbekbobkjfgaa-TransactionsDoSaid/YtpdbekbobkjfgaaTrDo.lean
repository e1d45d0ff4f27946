/-
  Closed runs of one function, each reckoned out by itself (written by closed.py).
  Conditions: none.
-/
import Derived.Test.YtpdbekbobkjfgaaTrA
import Derived.Test.YtpdbekbobkjfgaaKC2
namespace Go.Proofs.Ytpdbekbobkjfgaa
open Go.RowKit
set_option linter.unusedVariables false

def trDo_base : RunF := tabRun [(56, cloneF_F), (74, cloneB_F)]
theorem trDo_base_ok : RunOk Try.prog trDo_base := clones_t

def trDo_v0 : List AV := [.wrap (.ifc 84) (.d (.v (.func (.func 51) #[] #[]))), .d (.v (.nilIface)), .d (.agg [.v (.int .u8 0), .v (.int .u8 0), .v (.int .u8 9), .v (.bool false), .v (.bool false), .v (.int .i64 8), .v (.slice none 0 0)])]
def trDo_h0 : List Blk := []
def trDo_R0 : AV := .tup [.d (.agg [.v (.int .u8 1), .ints .u8 [7] (some 1)]), .d (.sl 12 [.agg [.v (.int .u8 9), .v (.int .u8 0), .v (.int .u8 0), .v (.int .u16 0), .v (.int .u8 0), .v (.int .u8 0), .v (.bool false), .v (.bool false), .v (.int .u8 0), .ints .u8 [] (some 0), .v (.bool true), .v (.int .u8 0)], .agg [.v (.int .u8 3), .v (.int .u8 0), .v (.int .u8 0), .v (.int .u16 0), .v (.int .u8 0), .v (.int .u8 0), .v (.bool false), .v (.bool false), .v (.int .u8 0), .ints .u8 [7] (some 1), .v (.bool false), .v (.int .u8 0)], .agg [.v (.int .u8 2), .v (.int .u8 0), .v (.int .u8 0), .v (.int .u16 0), .v (.int .u8 0), .v (.int .u8 0), .v (.bool false), .v (.bool false), .v (.int .u8 0), .ints .u8 [] (some 0), .v (.bool true), .v (.int .u8 0)]] (some 3))]
def trDo_B0 : List Blk := []
theorem trDo_x0 : funcX Try.prog trDo_base 900 23 trDo_v0 trDo_h0 = some (trDo_R0, trDo_B0) := by kernel_rfl

def trDo_v1 : List AV := [.wrap (.ifc 84) (.d (.v (.func (.func 51) #[] #[]))), .d (.v (.nilIface)), .d (.agg [.v (.int .u8 0), .v (.int .u8 0), .v (.int .u8 9), .v (.bool true), .v (.bool false), .v (.int .i64 8), .v (.slice none 0 0)])]
def trDo_h1 : List Blk := []
def trDo_R1 : AV := .tup [.d (.agg [.v (.int .u8 6), .v (.slice none 0 0)]), .d (.sl 12 [.agg [.v (.int .u8 9), .v (.int .u8 0), .v (.int .u8 0), .v (.int .u16 0), .v (.int .u8 0), .v (.int .u8 0), .v (.bool false), .v (.bool false), .v (.int .u8 0), .ints .u8 [] (some 0), .v (.bool true), .v (.int .u8 0)], .agg [.v (.int .u8 3), .v (.int .u8 0), .v (.int .u8 0), .v (.int .u16 0), .v (.int .u8 0), .v (.int .u8 0), .v (.bool false), .v (.bool false), .v (.int .u8 0), .ints .u8 [7] (some 1), .v (.bool false), .v (.int .u8 0)], .agg [.v (.int .u8 2), .v (.int .u8 0), .v (.int .u8 0), .v (.int .u16 0), .v (.int .u8 0), .v (.int .u8 0), .v (.bool false), .v (.bool false), .v (.int .u8 0), .ints .u8 [] (some 0), .v (.bool true), .v (.int .u8 0)]] (some 3))]
def trDo_B1 : List Blk := []
theorem trDo_x1 : funcX Try.prog trDo_base 900 23 trDo_v1 trDo_h1 = some (trDo_R1, trDo_B1) := by kernel_rfl

def trDo_v2 : List AV := [.wrap (.ifc 84) (.d (.v (.func (.func 51) #[] #[]))), .d (.v (.nilIface)), .d (.agg [.v (.int .u8 0), .v (.int .u8 0), .v (.int .u8 9), .v (.bool false), .v (.bool false), .v (.int .i64 0), .v (.slice none 0 0)])]
def trDo_h2 : List Blk := []
def trDo_R2 : AV := .tup [.d (.agg [.v (.int .u8 5), .v (.slice none 0 0)]), .d (.sl 12 [.agg [.v (.int .u8 9), .v (.int .u8 0), .v (.int .u8 0), .v (.int .u16 0), .v (.int .u8 0), .v (.int .u8 0), .v (.bool false), .v (.bool false), .v (.int .u8 0), .ints .u8 [] (some 0), .v (.bool true), .v (.int .u8 0)], .agg [.v (.int .u8 3), .v (.int .u8 0), .v (.int .u8 0), .v (.int .u16 0), .v (.int .u8 0), .v (.int .u8 0), .v (.bool false), .v (.bool false), .v (.int .u8 0), .ints .u8 [7] (some 1), .v (.bool false), .v (.int .u8 0)]] (some 2))]
def trDo_B2 : List Blk := []
theorem trDo_x2 : funcX Try.prog trDo_base 900 23 trDo_v2 trDo_h2 = some (trDo_R2, trDo_B2) := by kernel_rfl

def trDo_v3 : List AV := [.wrap (.ifc 84) (.d (.v (.func (.func 51) #[] #[]))), .wrap (.ifc 53) (.ptr 0 0), .agg [.d (.v (.int .u8 0)), .d (.v (.int .u8 0)), .d (.v (.int .u8 1)), .d (.v (.bool false)), .d (.v (.bool false)), .d (.v (.int .i64 0)), .d (.ints .u8 [1] (some 1))]]
def trDo_h3 : List Blk := [.box 82 [.d (.ints .u8 [1] none)]]
def trDo_R3 : AV := .tup [.d (.agg [.v (.int .u8 4), .v (.slice none 0 0)]), .d (.sl 12 [.agg [.v (.int .u8 1), .v (.int .u8 0), .v (.int .u8 0), .v (.int .u16 0), .v (.int .u8 0), .v (.int .u8 0), .v (.bool false), .v (.bool false), .v (.int .u8 0), .ints .u8 [] (some 0), .v (.bool true), .v (.int .u8 1)], .agg [.v (.int .u8 3), .v (.int .u8 0), .v (.int .u8 0), .v (.int .u16 0), .v (.int .u8 0), .v (.int .u8 0), .v (.bool false), .v (.bool false), .v (.int .u8 0), .ints .u8 [1] (some 1), .v (.bool true), .v (.int .u8 0)]] (some 2))]
def trDo_B3 : List Blk := [.box 82 [.d (.ints .u8 [] none)]]
theorem trDo_x3 : funcX Try.prog trDo_base 900 23 trDo_v3 trDo_h3 = some (trDo_R3, trDo_B3) := by kernel_rfl

def trDo_v4 : List AV := [.wrap (.ifc 84) (.d (.v (.func (.func 51) #[] #[]))), .wrap (.ifc 53) (.ptr 0 0), .agg [.d (.v (.int .u8 0)), .d (.v (.int .u8 0)), .d (.v (.int .u8 1)), .d (.v (.bool false)), .d (.v (.bool false)), .d (.v (.int .i64 0)), .d (.ints .u8 [1] (some 1))]]
def trDo_h4 : List Blk := [.box 82 [.d (.ints .u8 [0, 2] none)]]
def trDo_R4 : AV := .tup [.d (.agg [.v (.int .u8 4), .v (.slice none 0 0)]), .d (.sl 12 [.agg [.v (.int .u8 1), .v (.int .u8 0), .v (.int .u8 0), .v (.int .u16 0), .v (.int .u8 0), .v (.int .u8 0), .v (.bool false), .v (.bool false), .v (.int .u8 0), .ints .u8 [] (some 0), .v (.bool true), .v (.int .u8 0)], .agg [.v (.int .u8 3), .v (.int .u8 0), .v (.int .u8 0), .v (.int .u16 0), .v (.int .u8 0), .v (.int .u8 0), .v (.bool false), .v (.bool false), .v (.int .u8 0), .ints .u8 [1] (some 1), .v (.bool true), .v (.int .u8 2)]] (some 2))]
def trDo_B4 : List Blk := [.box 82 [.d (.ints .u8 [] none)]]
theorem trDo_x4 : funcX Try.prog trDo_base 900 23 trDo_v4 trDo_h4 = some (trDo_R4, trDo_B4) := by kernel_rfl

def trDo_v5 : List AV := [.wrap (.ifc 84) (.d (.v (.func (.func 51) #[] #[]))), .d (.v (.nilIface)), .agg [.d (.v (.int .u8 0)), .d (.v (.int .u8 0)), .d (.v (.int .u8 13)), .d (.v (.bool false)), .d (.v (.bool false)), .d (.v (.int .i64 0)), .own 0]]
def trDo_h5 : List Blk := [.ints 5 .u8 [0, 0, 0, 0, 0, 0, 0] (some 7)]
def trDo_R5 : AV := .tup [.d (.agg [.v (.int .u8 0), .v (.slice none 0 0)]), .d (.v (.slice none 0 0))]
def trDo_B5 : List Blk := [.ints 5 .u8 [0, 0, 0, 0, 0, 0, 0] (some 7)]
theorem trDo_x5 : funcX Try.prog trDo_base 900 23 trDo_v5 trDo_h5 = some (trDo_R5, trDo_B5) := by kernel_rfl

noncomputable def trDo_ov : RunF := (runC 23 trDo_v5 trDo_h5 trDo_R5 trDo_B5 (runC 23 trDo_v4 trDo_h4 trDo_R4 trDo_B4 (runC 23 trDo_v3 trDo_h3 trDo_R3 trDo_B3 (runC 23 trDo_v2 trDo_h2 trDo_R2 trDo_B2 (runC 23 trDo_v1 trDo_h1 trDo_R1 trDo_B1 (runC 23 trDo_v0 trDo_h0 trDo_R0 trDo_B0 trDo_base))))))
theorem trDo_ok : RunOk Try.prog trDo_ov := (runC_ok ((run_sound ty_mixed trDo_base_ok 900).2.2) (runC_ok ((run_sound ty_mixed trDo_base_ok 900).2.2) (runC_ok ((run_sound ty_mixed trDo_base_ok 900).2.2) (runC_ok ((run_sound ty_mixed trDo_base_ok 900).2.2) (runC_ok ((run_sound ty_mixed trDo_base_ok 900).2.2) (runC_ok ((run_sound ty_mixed trDo_base_ok 900).2.2) trDo_base_ok trDo_x0) trDo_x1) trDo_x2) trDo_x3) trDo_x4) trDo_x5)
end Go.Proofs.Ytpdbekbobkjfgaa

