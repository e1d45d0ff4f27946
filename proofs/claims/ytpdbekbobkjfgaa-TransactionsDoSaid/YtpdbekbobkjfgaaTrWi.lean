/-
  Closed runs of one function, each reckoned out by itself (written by closed.py).
  Conditions: none.
-/
import Derived.Test.YtpdbekbobkjfgaaTrDo
namespace Go.Proofs.Ytpdbekbobkjfgaa
open Go.RowKit
set_option linter.unusedVariables false

noncomputable def trWi_base : RunF := trDo_ov
theorem trWi_base_ok : RunOk Try.prog trWi_base := trDo_ok

def trWi_v0 : List AV := [.d (.ints .u8 [0, 2] none)]
def trWi_h0 : List Blk := []
def trWi_R0 : AV := .ptr 0 0
def trWi_B0 : List Blk := [.box 82 [.own 1], .ints 77 .u8 [0, 2] none]
theorem trWi_x0 : funcX Try.prog trWi_base 900 14 trWi_v0 trWi_h0 = some (trWi_R0, trWi_B0) := by kernel_rfl

def trWi_v1 : List AV := [.d (.ints .u8 [1] none)]
def trWi_h1 : List Blk := []
def trWi_R1 : AV := .ptr 0 0
def trWi_B1 : List Blk := [.box 82 [.own 1], .ints 77 .u8 [1] none]
theorem trWi_x1 : funcX Try.prog trWi_base 900 14 trWi_v1 trWi_h1 = some (trWi_R1, trWi_B1) := by kernel_rfl

noncomputable def trWi_ov : RunF := (runC 14 trWi_v1 trWi_h1 trWi_R1 trWi_B1 (runC 14 trWi_v0 trWi_h0 trWi_R0 trWi_B0 trWi_base))
theorem trWi_ok : RunOk Try.prog trWi_ov := (runC_ok ((run_sound ty_mixed trWi_base_ok 900).2.2) (runC_ok ((run_sound ty_mixed trWi_base_ok 900).2.2) trWi_base_ok trWi_x0) trWi_x1)
end Go.Proofs.Ytpdbekbobkjfgaa

