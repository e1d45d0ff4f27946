/-
  The types of this seat, as the abstract view asks for them.
  Conditions: none.
-/
import Derived.Test.YtjibodklckppfaaProg
import Derived.Test.YtjibodklckppfaaKC2
import Derived.KernelRfl
namespace Go.Proofs.Ytjibodklckppfaa
set_option linter.unusedVariables false

theorem ty_ag1 : aggT Try.prog 1 = some false := by kernel_rfl
theorem ty_sz1 : szT Try.prog 1 = some 1 := by kernel_rfl
theorem ty_int1 : intT Try.prog 1 = none := by kernel_rfl
theorem ty_ifc1 : ifaceT Try.prog 1 = false := by kernel_rfl
theorem ty_bool1 : boolT Try.prog 1 = false := by kernel_rfl
theorem ty_z1 : zeroT Try.prog 1 = some [.nilFunc] := by kernel_rfl
theorem ty_ag2 : aggT Try.prog 2 = some false := by kernel_rfl
theorem ty_sz2 : szT Try.prog 2 = some 1 := by kernel_rfl
theorem ty_int2 : intT Try.prog 2 = some .i64 := by kernel_rfl
theorem ty_ifc2 : ifaceT Try.prog 2 = false := by kernel_rfl
theorem ty_bool2 : boolT Try.prog 2 = false := by kernel_rfl
theorem ty_z2 : zeroT Try.prog 2 = some [.int .i64 (0)] := by kernel_rfl
theorem ty_ag3 : aggT Try.prog 3 = some false := by kernel_rfl
theorem ty_sz3 : szT Try.prog 3 = some 1 := by kernel_rfl
theorem ty_int3 : intT Try.prog 3 = some .i64 := by kernel_rfl
theorem ty_ifc3 : ifaceT Try.prog 3 = false := by kernel_rfl
theorem ty_bool3 : boolT Try.prog 3 = false := by kernel_rfl
theorem ty_z3 : zeroT Try.prog 3 = some [.int .i64 (0)] := by kernel_rfl
theorem ty_ag4 : aggT Try.prog 4 = some false := by kernel_rfl
theorem ty_sz4 : szT Try.prog 4 = some 1 := by kernel_rfl
theorem ty_int4 : intT Try.prog 4 = none := by kernel_rfl
theorem ty_ifc4 : ifaceT Try.prog 4 = false := by kernel_rfl
theorem ty_bool4 : boolT Try.prog 4 = true := by kernel_rfl
theorem ty_z4 : zeroT Try.prog 4 = some [.bool false] := by kernel_rfl
theorem ty_ag5 : aggT Try.prog 5 = some false := by kernel_rfl
theorem ty_sz5 : szT Try.prog 5 = some 1 := by kernel_rfl
theorem ty_int5 : intT Try.prog 5 = some .u8 := by kernel_rfl
theorem ty_ifc5 : ifaceT Try.prog 5 = false := by kernel_rfl
theorem ty_bool5 : boolT Try.prog 5 = false := by kernel_rfl
theorem ty_z5 : zeroT Try.prog 5 = some [.int .u8 (0)] := by kernel_rfl
theorem ty_ag6 : aggT Try.prog 6 = some false := by kernel_rfl
theorem ty_sz6 : szT Try.prog 6 = some 1 := by kernel_rfl
theorem ty_int6 : intT Try.prog 6 = some .u8 := by kernel_rfl
theorem ty_ifc6 : ifaceT Try.prog 6 = false := by kernel_rfl
theorem ty_bool6 : boolT Try.prog 6 = false := by kernel_rfl
theorem ty_z6 : zeroT Try.prog 6 = some [.int .u8 (0)] := by kernel_rfl
theorem ty_ag7 : aggT Try.prog 7 = some true := by kernel_rfl
theorem ty_sz7 : szT Try.prog 7 = some 4 := by kernel_rfl
theorem ty_int7 : intT Try.prog 7 = none := by kernel_rfl
theorem ty_eq7 : eqT Try.prog 7 = some [true, true, false, true] := by kernel_rfl
theorem ty_ifc7 : ifaceT Try.prog 7 = false := by kernel_rfl
theorem ty_bool7 : boolT Try.prog 7 = false := by kernel_rfl
theorem ty_f7_0 : fieldT Try.prog 7 0 = some (0, 1, false) := by kernel_rfl
theorem ty_f7_1 : fieldT Try.prog 7 1 = some (1, 1, false) := by kernel_rfl
theorem ty_f7_2 : fieldT Try.prog 7 2 = some (2, 1, false) := by kernel_rfl
theorem ty_f7_3 : fieldT Try.prog 7 3 = some (3, 1, false) := by kernel_rfl
theorem ty_pl7 : placeT Try.prog 7 = some (fun i => #[(0, 1), (1, 1), (2, 1), (3, 1)][i]?) := by kernel_rfl
theorem ty_z7 : zeroT Try.prog 7 = some [.int .i64 (0), .int .i64 (0), .bool false, .int .u8 (0)] := by kernel_rfl
theorem ty_ag8 : aggT Try.prog 8 = some true := by kernel_rfl
theorem ty_sz8 : szT Try.prog 8 = some 4 := by kernel_rfl
theorem ty_int8 : intT Try.prog 8 = none := by kernel_rfl
theorem ty_eq8 : eqT Try.prog 8 = some [true, true, false, true] := by kernel_rfl
theorem ty_ifc8 : ifaceT Try.prog 8 = false := by kernel_rfl
theorem ty_m8_0 : methA Try.prog 8 "Error" = some 143 := by kernel_rfl
theorem ty_k8_0 : nilOk Try.prog 8 "Error" = true := by kernel_rfl
theorem ty_m8_1 : methA Try.prog 8 "RuntimeError" = some 144 := by kernel_rfl
theorem ty_k8_1 : nilOk Try.prog 8 "RuntimeError" = true := by kernel_rfl
theorem ty_bool8 : boolT Try.prog 8 = false := by kernel_rfl
theorem ty_f8_0 : fieldT Try.prog 8 0 = some (0, 1, false) := by kernel_rfl
theorem ty_f8_1 : fieldT Try.prog 8 1 = some (1, 1, false) := by kernel_rfl
theorem ty_f8_2 : fieldT Try.prog 8 2 = some (2, 1, false) := by kernel_rfl
theorem ty_f8_3 : fieldT Try.prog 8 3 = some (3, 1, false) := by kernel_rfl
theorem ty_pl8 : placeT Try.prog 8 = some (fun i => #[(0, 1), (1, 1), (2, 1), (3, 1)][i]?) := by kernel_rfl
theorem ty_z8 : zeroT Try.prog 8 = some [.int .i64 (0), .int .i64 (0), .bool false, .int .u8 (0)] := by kernel_rfl
theorem ty_ag9 : aggT Try.prog 9 = some false := by kernel_rfl
theorem ty_sz9 : szT Try.prog 9 = some 1 := by kernel_rfl
theorem ty_int9 : intT Try.prog 9 = none := by kernel_rfl
theorem ty_ifc9 : ifaceT Try.prog 9 = false := by kernel_rfl
theorem ty_bool9 : boolT Try.prog 9 = false := by kernel_rfl
theorem ty_z9 : zeroT Try.prog 9 = some [.string ⟨#[]⟩] := by kernel_rfl
theorem ty_ag10 : aggT Try.prog 10 = some false := by kernel_rfl
theorem ty_sz10 : szT Try.prog 10 = some 1 := by kernel_rfl
theorem ty_int10 : intT Try.prog 10 = none := by kernel_rfl
theorem ty_ifc10 : ifaceT Try.prog 10 = false := by kernel_rfl
theorem ty_m10_0 : methA Try.prog 10 "Error" = some 145 := by kernel_rfl
theorem ty_k10_0 : nilOk Try.prog 10 "Error" = true := by kernel_rfl
theorem ty_m10_1 : methA Try.prog 10 "RuntimeError" = some 146 := by kernel_rfl
theorem ty_k10_1 : nilOk Try.prog 10 "RuntimeError" = true := by kernel_rfl
theorem ty_bool10 : boolT Try.prog 10 = false := by kernel_rfl
theorem ty_z10 : zeroT Try.prog 10 = some [.string ⟨#[]⟩] := by kernel_rfl
theorem ty_ag11 : aggT Try.prog 11 = some false := by kernel_rfl
theorem ty_sz11 : szT Try.prog 11 = some 1 := by kernel_rfl
theorem ty_int11 : intT Try.prog 11 = none := by kernel_rfl
theorem ty_ifc11 : ifaceT Try.prog 11 = false := by kernel_rfl
theorem ty_m11_0 : methA Try.prog 11 "Error" = some 147 := by kernel_rfl
theorem ty_k11_0 : nilOk Try.prog 11 "Error" = true := by kernel_rfl
theorem ty_m11_1 : methA Try.prog 11 "RuntimeError" = some 148 := by kernel_rfl
theorem ty_k11_1 : nilOk Try.prog 11 "RuntimeError" = true := by kernel_rfl
theorem ty_bool11 : boolT Try.prog 11 = false := by kernel_rfl
theorem ty_z11 : zeroT Try.prog 11 = some [.string ⟨#[]⟩] := by kernel_rfl
theorem ty_ag12 : aggT Try.prog 12 = some false := by kernel_rfl
theorem ty_sz12 : szT Try.prog 12 = some 1 := by kernel_rfl
theorem ty_int12 : intT Try.prog 12 = some .u64 := by kernel_rfl
theorem ty_ifc12 : ifaceT Try.prog 12 = false := by kernel_rfl
theorem ty_bool12 : boolT Try.prog 12 = false := by kernel_rfl
theorem ty_z12 : zeroT Try.prog 12 = some [.int .u64 (0)] := by kernel_rfl
theorem ty_ag13 : aggT Try.prog 13 = some true := by kernel_rfl
theorem ty_sz13 : szT Try.prog 13 = some 2 := by kernel_rfl
theorem ty_int13 : intT Try.prog 13 = none := by kernel_rfl
theorem ty_ifc13 : ifaceT Try.prog 13 = false := by kernel_rfl
theorem ty_bool13 : boolT Try.prog 13 = false := by kernel_rfl
theorem ty_f13_0 : fieldT Try.prog 13 0 = some (0, 1, false) := by kernel_rfl
theorem ty_f13_1 : fieldT Try.prog 13 1 = some (1, 1, false) := by kernel_rfl
theorem ty_pl13 : placeT Try.prog 13 = some (fun i => #[(0, 1), (1, 1)][i]?) := by kernel_rfl
theorem ty_z13 : zeroT Try.prog 13 = some [.string ⟨#[]⟩, .int .u64 (0)] := by kernel_rfl
theorem ty_ag14 : aggT Try.prog 14 = some true := by kernel_rfl
theorem ty_sz14 : szT Try.prog 14 = some 2 := by kernel_rfl
theorem ty_int14 : intT Try.prog 14 = none := by kernel_rfl
theorem ty_ifc14 : ifaceT Try.prog 14 = false := by kernel_rfl
theorem ty_m14_0 : methA Try.prog 14 "Error" = some 149 := by kernel_rfl
theorem ty_k14_0 : nilOk Try.prog 14 "Error" = true := by kernel_rfl
theorem ty_m14_1 : methA Try.prog 14 "RuntimeError" = some 150 := by kernel_rfl
theorem ty_k14_1 : nilOk Try.prog 14 "RuntimeError" = true := by kernel_rfl
theorem ty_bool14 : boolT Try.prog 14 = false := by kernel_rfl
theorem ty_f14_0 : fieldT Try.prog 14 0 = some (0, 1, false) := by kernel_rfl
theorem ty_f14_1 : fieldT Try.prog 14 1 = some (1, 1, false) := by kernel_rfl
theorem ty_pl14 : placeT Try.prog 14 = some (fun i => #[(0, 1), (1, 1)][i]?) := by kernel_rfl
theorem ty_z14 : zeroT Try.prog 14 = some [.string ⟨#[]⟩, .int .u64 (0)] := by kernel_rfl
theorem ty_ag15 : aggT Try.prog 15 = some false := by kernel_rfl
theorem ty_sz15 : szT Try.prog 15 = some 1 := by kernel_rfl
theorem ty_int15 : intT Try.prog 15 = none := by kernel_rfl
theorem ty_ifc15 : ifaceT Try.prog 15 = false := by kernel_rfl
theorem ty_m15_0 : methA Try.prog 15 "Error" = some 151 := by kernel_rfl
theorem ty_k15_0 : nilOk Try.prog 15 "Error" = true := by kernel_rfl
theorem ty_m15_1 : methA Try.prog 15 "RuntimeError" = some 152 := by kernel_rfl
theorem ty_k15_1 : nilOk Try.prog 15 "RuntimeError" = true := by kernel_rfl
theorem ty_bool15 : boolT Try.prog 15 = false := by kernel_rfl
theorem ty_z15 : zeroT Try.prog 15 = some [.pointer none] := by kernel_rfl
theorem ty_ag16 : aggT Try.prog 16 = some false := by kernel_rfl
theorem ty_sz16 : szT Try.prog 16 = some 1 := by kernel_rfl
theorem ty_int16 : intT Try.prog 16 = none := by kernel_rfl
theorem ty_ifc16 : ifaceT Try.prog 16 = false := by kernel_rfl
theorem ty_m16_0 : methA Try.prog 16 "Error" = some 153 := by kernel_rfl
theorem ty_k16_0 : nilOk Try.prog 16 "Error" = true := by kernel_rfl
theorem ty_m16_1 : methA Try.prog 16 "RuntimeError" = some 154 := by kernel_rfl
theorem ty_k16_1 : nilOk Try.prog 16 "RuntimeError" = true := by kernel_rfl
theorem ty_bool16 : boolT Try.prog 16 = false := by kernel_rfl
theorem ty_z16 : zeroT Try.prog 16 = some [.pointer none] := by kernel_rfl
theorem ty_ag17 : aggT Try.prog 17 = some false := by kernel_rfl
theorem ty_sz17 : szT Try.prog 17 = some 1 := by kernel_rfl
theorem ty_int17 : intT Try.prog 17 = none := by kernel_rfl
theorem ty_ifc17 : ifaceT Try.prog 17 = false := by kernel_rfl
theorem ty_m17_0 : methA Try.prog 17 "Align" = some 155 := by kernel_rfl
theorem ty_k17_0 : nilOk Try.prog 17 "Align" = true := by kernel_rfl
theorem ty_bool17 : boolT Try.prog 17 = false := by kernel_rfl
theorem ty_z17 : zeroT Try.prog 17 = some [.pointer none] := by kernel_rfl
theorem ty_ag18 : aggT Try.prog 18 = some true := by kernel_rfl
theorem ty_sz18 : szT Try.prog 18 = some 1 := by kernel_rfl
theorem ty_int18 : intT Try.prog 18 = none := by kernel_rfl
theorem ty_ifc18 : ifaceT Try.prog 18 = false := by kernel_rfl
theorem ty_bool18 : boolT Try.prog 18 = false := by kernel_rfl
theorem ty_f18_0 : fieldT Try.prog 18 0 = some (0, 1, false) := by kernel_rfl
theorem ty_pl18 : placeT Try.prog 18 = some (fun i => #[(0, 1)][i]?) := by kernel_rfl
theorem ty_z18 : zeroT Try.prog 18 = some [.pointer none] := by kernel_rfl
theorem ty_ag19 : aggT Try.prog 19 = some true := by kernel_rfl
theorem ty_sz19 : szT Try.prog 19 = some 1 := by kernel_rfl
theorem ty_int19 : intT Try.prog 19 = none := by kernel_rfl
theorem ty_ifc19 : ifaceT Try.prog 19 = false := by kernel_rfl
theorem ty_m19_0 : methA Try.prog 19 "Error" = some 156 := by kernel_rfl
theorem ty_k19_0 : nilOk Try.prog 19 "Error" = true := by kernel_rfl
theorem ty_m19_1 : methA Try.prog 19 "RuntimeError" = some 157 := by kernel_rfl
theorem ty_k19_1 : nilOk Try.prog 19 "RuntimeError" = true := by kernel_rfl
theorem ty_bool19 : boolT Try.prog 19 = false := by kernel_rfl
theorem ty_f19_0 : fieldT Try.prog 19 0 = some (0, 1, false) := by kernel_rfl
theorem ty_pl19 : placeT Try.prog 19 = some (fun i => #[(0, 1)][i]?) := by kernel_rfl
theorem ty_z19 : zeroT Try.prog 19 = some [.pointer none] := by kernel_rfl
theorem ty_ag20 : aggT Try.prog 20 = some false := by kernel_rfl
theorem ty_sz20 : szT Try.prog 20 = some 1 := by kernel_rfl
theorem ty_int20 : intT Try.prog 20 = none := by kernel_rfl
theorem ty_ifc20 : ifaceT Try.prog 20 = true := by kernel_rfl
theorem ty_bool20 : boolT Try.prog 20 = false := by kernel_rfl
theorem ty_z20 : zeroT Try.prog 20 = some [.nilIface] := by kernel_rfl
theorem ty_ag21 : aggT Try.prog 21 = some false := by kernel_rfl
theorem ty_sz21 : szT Try.prog 21 = some 1 := by kernel_rfl
theorem ty_int21 : intT Try.prog 21 = some .i32 := by kernel_rfl
theorem ty_ifc21 : ifaceT Try.prog 21 = false := by kernel_rfl
theorem ty_bool21 : boolT Try.prog 21 = false := by kernel_rfl
theorem ty_z21 : zeroT Try.prog 21 = some [.int .i32 (0)] := by kernel_rfl
theorem ty_ag22 : aggT Try.prog 22 = some false := by kernel_rfl
theorem ty_sz22 : szT Try.prog 22 = some 1 := by kernel_rfl
theorem ty_int22 : intT Try.prog 22 = some .u16 := by kernel_rfl
theorem ty_ifc22 : ifaceT Try.prog 22 = false := by kernel_rfl
theorem ty_bool22 : boolT Try.prog 22 = false := by kernel_rfl
theorem ty_z22 : zeroT Try.prog 22 = some [.int .u16 (0)] := by kernel_rfl
theorem ty_ag23 : aggT Try.prog 23 = some true := by kernel_rfl
theorem ty_sz23 : szT Try.prog 23 = some 5 := by kernel_rfl
theorem ty_int23 : intT Try.prog 23 = none := by kernel_rfl
theorem ty_eq23 : eqT Try.prog 23 = some [true, true, true, true, true] := by kernel_rfl
theorem ty_ifc23 : ifaceT Try.prog 23 = false := by kernel_rfl
theorem ty_bool23 : boolT Try.prog 23 = false := by kernel_rfl
theorem ty_f23_0 : fieldT Try.prog 23 0 = some (0, 1, false) := by kernel_rfl
theorem ty_f23_1 : fieldT Try.prog 23 1 = some (1, 1, false) := by kernel_rfl
theorem ty_f23_2 : fieldT Try.prog 23 2 = some (2, 1, false) := by kernel_rfl
theorem ty_f23_3 : fieldT Try.prog 23 3 = some (3, 1, false) := by kernel_rfl
theorem ty_f23_4 : fieldT Try.prog 23 4 = some (4, 1, false) := by kernel_rfl
theorem ty_pl23 : placeT Try.prog 23 = some (fun i => #[(0, 1), (1, 1), (2, 1), (3, 1), (4, 1)][i]?) := by kernel_rfl
theorem ty_z23 : zeroT Try.prog 23 = some [.int .u8 (0), .int .u8 (0), .int .u16 (0), .int .u16 (0), .int .u16 (0)] := by kernel_rfl
theorem ty_ag24 : aggT Try.prog 24 = some true := by kernel_rfl
theorem ty_sz24 : szT Try.prog 24 = some 5 := by kernel_rfl
theorem ty_int24 : intT Try.prog 24 = none := by kernel_rfl
theorem ty_eq24 : eqT Try.prog 24 = some [true, true, true, true, true] := by kernel_rfl
theorem ty_ifc24 : ifaceT Try.prog 24 = false := by kernel_rfl
theorem ty_bool24 : boolT Try.prog 24 = false := by kernel_rfl
theorem ty_f24_0 : fieldT Try.prog 24 0 = some (0, 1, false) := by kernel_rfl
theorem ty_f24_1 : fieldT Try.prog 24 1 = some (1, 1, false) := by kernel_rfl
theorem ty_f24_2 : fieldT Try.prog 24 2 = some (2, 1, false) := by kernel_rfl
theorem ty_f24_3 : fieldT Try.prog 24 3 = some (3, 1, false) := by kernel_rfl
theorem ty_f24_4 : fieldT Try.prog 24 4 = some (4, 1, false) := by kernel_rfl
theorem ty_pl24 : placeT Try.prog 24 = some (fun i => #[(0, 1), (1, 1), (2, 1), (3, 1), (4, 1)][i]?) := by kernel_rfl
theorem ty_z24 : zeroT Try.prog 24 = some [.int .u8 (0), .int .u8 (0), .int .u16 (0), .int .u16 (0), .int .u16 (0)] := by kernel_rfl
theorem ty_ag25 : aggT Try.prog 25 = some false := by kernel_rfl
theorem ty_sz25 : szT Try.prog 25 = some 1 := by kernel_rfl
theorem ty_int25 : intT Try.prog 25 = none := by kernel_rfl
theorem ty_ifc25 : ifaceT Try.prog 25 = false := by kernel_rfl
theorem ty_bool25 : boolT Try.prog 25 = false := by kernel_rfl
theorem ty_elem25 : elemT Try.prog 25 = some (5, 1, false) := by kernel_rfl
theorem ty_app25 : appT Try.prog 25 = some (5, 1, 1) := by kernel_rfl
theorem ty_z25 : zeroT Try.prog 25 = some [.slice none 0 0] := by kernel_rfl
theorem ty_ag26 : aggT Try.prog 26 = some true := by kernel_rfl
theorem ty_sz26 : szT Try.prog 26 = some 7 := by kernel_rfl
theorem ty_int26 : intT Try.prog 26 = none := by kernel_rfl
theorem ty_ifc26 : ifaceT Try.prog 26 = false := by kernel_rfl
theorem ty_bool26 : boolT Try.prog 26 = false := by kernel_rfl
theorem ty_f26_0 : fieldT Try.prog 26 0 = some (0, 5, true) := by kernel_rfl
theorem ty_f26_1 : fieldT Try.prog 26 1 = some (5, 1, false) := by kernel_rfl
theorem ty_f26_2 : fieldT Try.prog 26 2 = some (6, 1, false) := by kernel_rfl
theorem ty_pl26 : placeT Try.prog 26 = some (fun i => #[(0, 5), (5, 1), (6, 1)][i]?) := by kernel_rfl
theorem ty_z26 : zeroT Try.prog 26 = some [.int .u8 (0), .int .u8 (0), .int .u16 (0), .int .u16 (0), .int .u16 (0), .slice none 0 0, .int .u8 (0)] := by kernel_rfl
theorem ty_ag27 : aggT Try.prog 27 = some true := by kernel_rfl
theorem ty_sz27 : szT Try.prog 27 = some 7 := by kernel_rfl
theorem ty_int27 : intT Try.prog 27 = none := by kernel_rfl
theorem ty_ifc27 : ifaceT Try.prog 27 = false := by kernel_rfl
theorem ty_bool27 : boolT Try.prog 27 = false := by kernel_rfl
theorem ty_f27_0 : fieldT Try.prog 27 0 = some (0, 5, true) := by kernel_rfl
theorem ty_f27_1 : fieldT Try.prog 27 1 = some (5, 1, false) := by kernel_rfl
theorem ty_f27_2 : fieldT Try.prog 27 2 = some (6, 1, false) := by kernel_rfl
theorem ty_pl27 : placeT Try.prog 27 = some (fun i => #[(0, 5), (5, 1), (6, 1)][i]?) := by kernel_rfl
theorem ty_z27 : zeroT Try.prog 27 = some [.int .u8 (0), .int .u8 (0), .int .u16 (0), .int .u16 (0), .int .u16 (0), .slice none 0 0, .int .u8 (0)] := by kernel_rfl
theorem ty_ag28 : aggT Try.prog 28 = some false := by kernel_rfl
theorem ty_sz28 : szT Try.prog 28 = some 1 := by kernel_rfl
theorem ty_int28 : intT Try.prog 28 = none := by kernel_rfl
theorem ty_ifc28 : ifaceT Try.prog 28 = false := by kernel_rfl
theorem ty_bool28 : boolT Try.prog 28 = false := by kernel_rfl
theorem ty_elem28 : elemT Try.prog 28 = some (49, 2, true) := by kernel_rfl
theorem ty_app28 : appT Try.prog 28 = some (49, 2, 32) := by kernel_rfl
theorem ty_z28 : zeroT Try.prog 28 = some [.slice none 0 0] := by kernel_rfl
theorem ty_ag29 : aggT Try.prog 29 = some false := by kernel_rfl
theorem ty_sz29 : szT Try.prog 29 = some 1 := by kernel_rfl
theorem ty_int29 : intT Try.prog 29 = none := by kernel_rfl
theorem ty_ifc29 : ifaceT Try.prog 29 = false := by kernel_rfl
theorem ty_bool29 : boolT Try.prog 29 = false := by kernel_rfl
theorem ty_z29 : zeroT Try.prog 29 = some [.nilFunc] := by kernel_rfl
theorem ty_ag30 : aggT Try.prog 30 = some false := by kernel_rfl
theorem ty_sz30 : szT Try.prog 30 = some 1 := by kernel_rfl
theorem ty_int30 : intT Try.prog 30 = some .u8 := by kernel_rfl
theorem ty_ifc30 : ifaceT Try.prog 30 = false := by kernel_rfl
theorem ty_bool30 : boolT Try.prog 30 = false := by kernel_rfl
theorem ty_z30 : zeroT Try.prog 30 = some [.int .u8 (0)] := by kernel_rfl
theorem ty_ag31 : aggT Try.prog 31 = some false := by kernel_rfl
theorem ty_sz31 : szT Try.prog 31 = some 1 := by kernel_rfl
theorem ty_int31 : intT Try.prog 31 = some .i64 := by kernel_rfl
theorem ty_ifc31 : ifaceT Try.prog 31 = false := by kernel_rfl
theorem ty_bool31 : boolT Try.prog 31 = false := by kernel_rfl
theorem ty_z31 : zeroT Try.prog 31 = some [.int .i64 (0)] := by kernel_rfl
theorem ty_ag32 : aggT Try.prog 32 = some true := by kernel_rfl
theorem ty_sz32 : szT Try.prog 32 = some 13 := by kernel_rfl
theorem ty_int32 : intT Try.prog 32 = none := by kernel_rfl
theorem ty_ifc32 : ifaceT Try.prog 32 = false := by kernel_rfl
theorem ty_bool32 : boolT Try.prog 32 = false := by kernel_rfl
theorem ty_f32_0 : fieldT Try.prog 32 0 = some (0, 1, false) := by kernel_rfl
theorem ty_f32_1 : fieldT Try.prog 32 1 = some (1, 5, true) := by kernel_rfl
theorem ty_f32_2 : fieldT Try.prog 32 2 = some (6, 1, false) := by kernel_rfl
theorem ty_f32_3 : fieldT Try.prog 32 3 = some (7, 1, false) := by kernel_rfl
theorem ty_f32_4 : fieldT Try.prog 32 4 = some (8, 1, false) := by kernel_rfl
theorem ty_f32_5 : fieldT Try.prog 32 5 = some (9, 1, false) := by kernel_rfl
theorem ty_f32_6 : fieldT Try.prog 32 6 = some (10, 1, false) := by kernel_rfl
theorem ty_f32_7 : fieldT Try.prog 32 7 = some (11, 1, false) := by kernel_rfl
theorem ty_f32_8 : fieldT Try.prog 32 8 = some (12, 1, false) := by kernel_rfl
theorem ty_pl32 : placeT Try.prog 32 = some (fun i => #[(0, 1), (1, 5), (6, 1), (7, 1), (8, 1), (9, 1), (10, 1), (11, 1), (12, 1)][i]?) := by kernel_rfl
theorem ty_z32 : zeroT Try.prog 32 = some [.int .u8 (0), .int .u8 (0), .int .u8 (0), .int .u16 (0), .int .u16 (0), .int .u16 (0), .slice none 0 0, .int .i64 (0), .bool false, .int .i64 (0), .slice none 0 0, .int .i64 (0), .int .i64 (0)] := by kernel_rfl
theorem ty_ag33 : aggT Try.prog 33 = some true := by kernel_rfl
theorem ty_sz33 : szT Try.prog 33 = some 13 := by kernel_rfl
theorem ty_int33 : intT Try.prog 33 = none := by kernel_rfl
theorem ty_ifc33 : ifaceT Try.prog 33 = false := by kernel_rfl
theorem ty_bool33 : boolT Try.prog 33 = false := by kernel_rfl
theorem ty_f33_0 : fieldT Try.prog 33 0 = some (0, 1, false) := by kernel_rfl
theorem ty_f33_1 : fieldT Try.prog 33 1 = some (1, 5, true) := by kernel_rfl
theorem ty_f33_2 : fieldT Try.prog 33 2 = some (6, 1, false) := by kernel_rfl
theorem ty_f33_3 : fieldT Try.prog 33 3 = some (7, 1, false) := by kernel_rfl
theorem ty_f33_4 : fieldT Try.prog 33 4 = some (8, 1, false) := by kernel_rfl
theorem ty_f33_5 : fieldT Try.prog 33 5 = some (9, 1, false) := by kernel_rfl
theorem ty_f33_6 : fieldT Try.prog 33 6 = some (10, 1, false) := by kernel_rfl
theorem ty_f33_7 : fieldT Try.prog 33 7 = some (11, 1, false) := by kernel_rfl
theorem ty_f33_8 : fieldT Try.prog 33 8 = some (12, 1, false) := by kernel_rfl
theorem ty_pl33 : placeT Try.prog 33 = some (fun i => #[(0, 1), (1, 5), (6, 1), (7, 1), (8, 1), (9, 1), (10, 1), (11, 1), (12, 1)][i]?) := by kernel_rfl
theorem ty_z33 : zeroT Try.prog 33 = some [.int .u8 (0), .int .u8 (0), .int .u8 (0), .int .u16 (0), .int .u16 (0), .int .u16 (0), .slice none 0 0, .int .i64 (0), .bool false, .int .i64 (0), .slice none 0 0, .int .i64 (0), .int .i64 (0)] := by kernel_rfl
theorem ty_ag35 : aggT Try.prog 35 = some false := by kernel_rfl
theorem ty_sz35 : szT Try.prog 35 = some 1 := by kernel_rfl
theorem ty_int35 : intT Try.prog 35 = none := by kernel_rfl
theorem ty_ifc35 : ifaceT Try.prog 35 = false := by kernel_rfl
theorem ty_bool35 : boolT Try.prog 35 = false := by kernel_rfl
theorem ty_z35 : zeroT Try.prog 35 = some [.nilFunc] := by kernel_rfl
theorem ty_ag36 : aggT Try.prog 36 = some false := by kernel_rfl
theorem ty_sz36 : szT Try.prog 36 = some 1 := by kernel_rfl
theorem ty_int36 : intT Try.prog 36 = none := by kernel_rfl
theorem ty_ifc36 : ifaceT Try.prog 36 = false := by kernel_rfl
theorem ty_bool36 : boolT Try.prog 36 = false := by kernel_rfl
theorem ty_z36 : zeroT Try.prog 36 = some [.nilFunc] := by kernel_rfl
theorem ty_ag37 : aggT Try.prog 37 = some true := by kernel_rfl
theorem ty_sz37 : szT Try.prog 37 = some 12 := by kernel_rfl
theorem ty_int37 : intT Try.prog 37 = none := by kernel_rfl
theorem ty_ifc37 : ifaceT Try.prog 37 = false := by kernel_rfl
theorem ty_bool37 : boolT Try.prog 37 = false := by kernel_rfl
theorem ty_f37_0 : fieldT Try.prog 37 0 = some (0, 1, false) := by kernel_rfl
theorem ty_f37_1 : fieldT Try.prog 37 1 = some (1, 5, true) := by kernel_rfl
theorem ty_f37_2 : fieldT Try.prog 37 2 = some (6, 1, false) := by kernel_rfl
theorem ty_f37_3 : fieldT Try.prog 37 3 = some (7, 1, false) := by kernel_rfl
theorem ty_f37_4 : fieldT Try.prog 37 4 = some (8, 1, false) := by kernel_rfl
theorem ty_f37_5 : fieldT Try.prog 37 5 = some (9, 1, false) := by kernel_rfl
theorem ty_f37_6 : fieldT Try.prog 37 6 = some (10, 1, false) := by kernel_rfl
theorem ty_f37_7 : fieldT Try.prog 37 7 = some (11, 1, false) := by kernel_rfl
theorem ty_pl37 : placeT Try.prog 37 = some (fun i => #[(0, 1), (1, 5), (6, 1), (7, 1), (8, 1), (9, 1), (10, 1), (11, 1)][i]?) := by kernel_rfl
theorem ty_z37 : zeroT Try.prog 37 = some [.int .i64 (0), .int .u8 (0), .int .u8 (0), .int .u16 (0), .int .u16 (0), .int .u16 (0), .slice none 0 0, .int .i64 (0), .bool false, .slice none 0 0, .int .i64 (0), .int .i64 (0)] := by kernel_rfl
theorem ty_ag38 : aggT Try.prog 38 = some true := by kernel_rfl
theorem ty_sz38 : szT Try.prog 38 = some 12 := by kernel_rfl
theorem ty_int38 : intT Try.prog 38 = none := by kernel_rfl
theorem ty_ifc38 : ifaceT Try.prog 38 = false := by kernel_rfl
theorem ty_bool38 : boolT Try.prog 38 = false := by kernel_rfl
theorem ty_f38_0 : fieldT Try.prog 38 0 = some (0, 1, false) := by kernel_rfl
theorem ty_f38_1 : fieldT Try.prog 38 1 = some (1, 5, true) := by kernel_rfl
theorem ty_f38_2 : fieldT Try.prog 38 2 = some (6, 1, false) := by kernel_rfl
theorem ty_f38_3 : fieldT Try.prog 38 3 = some (7, 1, false) := by kernel_rfl
theorem ty_f38_4 : fieldT Try.prog 38 4 = some (8, 1, false) := by kernel_rfl
theorem ty_f38_5 : fieldT Try.prog 38 5 = some (9, 1, false) := by kernel_rfl
theorem ty_f38_6 : fieldT Try.prog 38 6 = some (10, 1, false) := by kernel_rfl
theorem ty_f38_7 : fieldT Try.prog 38 7 = some (11, 1, false) := by kernel_rfl
theorem ty_pl38 : placeT Try.prog 38 = some (fun i => #[(0, 1), (1, 5), (6, 1), (7, 1), (8, 1), (9, 1), (10, 1), (11, 1)][i]?) := by kernel_rfl
theorem ty_z38 : zeroT Try.prog 38 = some [.int .i64 (0), .int .u8 (0), .int .u8 (0), .int .u16 (0), .int .u16 (0), .int .u16 (0), .slice none 0 0, .int .i64 (0), .bool false, .slice none 0 0, .int .i64 (0), .int .i64 (0)] := by kernel_rfl
theorem ty_ag39 : aggT Try.prog 39 = some false := by kernel_rfl
theorem ty_sz39 : szT Try.prog 39 = some 1 := by kernel_rfl
theorem ty_int39 : intT Try.prog 39 = some .u8 := by kernel_rfl
theorem ty_ifc39 : ifaceT Try.prog 39 = false := by kernel_rfl
theorem ty_bool39 : boolT Try.prog 39 = false := by kernel_rfl
theorem ty_z39 : zeroT Try.prog 39 = some [.int .u8 (0)] := by kernel_rfl
theorem ty_ag40 : aggT Try.prog 40 = some true := by kernel_rfl
theorem ty_sz40 : szT Try.prog 40 = some 7 := by kernel_rfl
theorem ty_int40 : intT Try.prog 40 = none := by kernel_rfl
theorem ty_ifc40 : ifaceT Try.prog 40 = false := by kernel_rfl
theorem ty_bool40 : boolT Try.prog 40 = false := by kernel_rfl
theorem ty_f40_0 : fieldT Try.prog 40 0 = some (0, 1, false) := by kernel_rfl
theorem ty_f40_1 : fieldT Try.prog 40 1 = some (1, 1, false) := by kernel_rfl
theorem ty_f40_2 : fieldT Try.prog 40 2 = some (2, 1, false) := by kernel_rfl
theorem ty_f40_3 : fieldT Try.prog 40 3 = some (3, 1, false) := by kernel_rfl
theorem ty_f40_4 : fieldT Try.prog 40 4 = some (4, 1, false) := by kernel_rfl
theorem ty_f40_5 : fieldT Try.prog 40 5 = some (5, 1, false) := by kernel_rfl
theorem ty_f40_6 : fieldT Try.prog 40 6 = some (6, 1, false) := by kernel_rfl
theorem ty_pl40 : placeT Try.prog 40 = some (fun i => #[(0, 1), (1, 1), (2, 1), (3, 1), (4, 1), (5, 1), (6, 1)][i]?) := by kernel_rfl
theorem ty_z40 : zeroT Try.prog 40 = some [.int .u8 (0), .int .u8 (0), .int .u8 (0), .bool false, .bool false, .int .i64 (0), .slice none 0 0] := by kernel_rfl
theorem ty_ag41 : aggT Try.prog 41 = some true := by kernel_rfl
theorem ty_sz41 : szT Try.prog 41 = some 7 := by kernel_rfl
theorem ty_int41 : intT Try.prog 41 = none := by kernel_rfl
theorem ty_ifc41 : ifaceT Try.prog 41 = false := by kernel_rfl
theorem ty_bool41 : boolT Try.prog 41 = false := by kernel_rfl
theorem ty_f41_0 : fieldT Try.prog 41 0 = some (0, 1, false) := by kernel_rfl
theorem ty_f41_1 : fieldT Try.prog 41 1 = some (1, 1, false) := by kernel_rfl
theorem ty_f41_2 : fieldT Try.prog 41 2 = some (2, 1, false) := by kernel_rfl
theorem ty_f41_3 : fieldT Try.prog 41 3 = some (3, 1, false) := by kernel_rfl
theorem ty_f41_4 : fieldT Try.prog 41 4 = some (4, 1, false) := by kernel_rfl
theorem ty_f41_5 : fieldT Try.prog 41 5 = some (5, 1, false) := by kernel_rfl
theorem ty_f41_6 : fieldT Try.prog 41 6 = some (6, 1, false) := by kernel_rfl
theorem ty_pl41 : placeT Try.prog 41 = some (fun i => #[(0, 1), (1, 1), (2, 1), (3, 1), (4, 1), (5, 1), (6, 1)][i]?) := by kernel_rfl
theorem ty_z41 : zeroT Try.prog 41 = some [.int .u8 (0), .int .u8 (0), .int .u8 (0), .bool false, .bool false, .int .i64 (0), .slice none 0 0] := by kernel_rfl
theorem ty_ag43 : aggT Try.prog 43 = some false := by kernel_rfl
theorem ty_sz43 : szT Try.prog 43 = some 1 := by kernel_rfl
theorem ty_int43 : intT Try.prog 43 = none := by kernel_rfl
theorem ty_ifc43 : ifaceT Try.prog 43 = false := by kernel_rfl
theorem ty_bool43 : boolT Try.prog 43 = false := by kernel_rfl
theorem ty_z43 : zeroT Try.prog 43 = some [.nilFunc] := by kernel_rfl
theorem ty_ag45 : aggT Try.prog 45 = some false := by kernel_rfl
theorem ty_sz45 : szT Try.prog 45 = some 1 := by kernel_rfl
theorem ty_int45 : intT Try.prog 45 = none := by kernel_rfl
theorem ty_ifc45 : ifaceT Try.prog 45 = false := by kernel_rfl
theorem ty_bool45 : boolT Try.prog 45 = false := by kernel_rfl
theorem ty_z45 : zeroT Try.prog 45 = some [.nilFunc] := by kernel_rfl
theorem ty_ag46 : aggT Try.prog 46 = some false := by kernel_rfl
theorem ty_sz46 : szT Try.prog 46 = some 1 := by kernel_rfl
theorem ty_int46 : intT Try.prog 46 = none := by kernel_rfl
theorem ty_ifc46 : ifaceT Try.prog 46 = false := by kernel_rfl
theorem ty_bool46 : boolT Try.prog 46 = false := by kernel_rfl
theorem ty_z46 : zeroT Try.prog 46 = some [.nilFunc] := by kernel_rfl
theorem ty_ag47 : aggT Try.prog 47 = some false := by kernel_rfl
theorem ty_sz47 : szT Try.prog 47 = some 1 := by kernel_rfl
theorem ty_int47 : intT Try.prog 47 = some .u8 := by kernel_rfl
theorem ty_ifc47 : ifaceT Try.prog 47 = false := by kernel_rfl
theorem ty_bool47 : boolT Try.prog 47 = false := by kernel_rfl
theorem ty_z47 : zeroT Try.prog 47 = some [.int .u8 (0)] := by kernel_rfl
theorem ty_ag48 : aggT Try.prog 48 = some true := by kernel_rfl
theorem ty_sz48 : szT Try.prog 48 = some 2 := by kernel_rfl
theorem ty_int48 : intT Try.prog 48 = none := by kernel_rfl
theorem ty_ifc48 : ifaceT Try.prog 48 = false := by kernel_rfl
theorem ty_bool48 : boolT Try.prog 48 = false := by kernel_rfl
theorem ty_f48_0 : fieldT Try.prog 48 0 = some (0, 1, false) := by kernel_rfl
theorem ty_f48_1 : fieldT Try.prog 48 1 = some (1, 1, false) := by kernel_rfl
theorem ty_pl48 : placeT Try.prog 48 = some (fun i => #[(0, 1), (1, 1)][i]?) := by kernel_rfl
theorem ty_z48 : zeroT Try.prog 48 = some [.int .u8 (0), .slice none 0 0] := by kernel_rfl
theorem ty_ag49 : aggT Try.prog 49 = some true := by kernel_rfl
theorem ty_sz49 : szT Try.prog 49 = some 2 := by kernel_rfl
theorem ty_int49 : intT Try.prog 49 = none := by kernel_rfl
theorem ty_ifc49 : ifaceT Try.prog 49 = false := by kernel_rfl
theorem ty_bool49 : boolT Try.prog 49 = false := by kernel_rfl
theorem ty_f49_0 : fieldT Try.prog 49 0 = some (0, 1, false) := by kernel_rfl
theorem ty_f49_1 : fieldT Try.prog 49 1 = some (1, 1, false) := by kernel_rfl
theorem ty_pl49 : placeT Try.prog 49 = some (fun i => #[(0, 1), (1, 1)][i]?) := by kernel_rfl
theorem ty_z49 : zeroT Try.prog 49 = some [.int .u8 (0), .slice none 0 0] := by kernel_rfl
theorem ty_ag50 : aggT Try.prog 50 = some false := by kernel_rfl
theorem ty_sz50 : szT Try.prog 50 = some 1 := by kernel_rfl
theorem ty_int50 : intT Try.prog 50 = none := by kernel_rfl
theorem ty_ifc50 : ifaceT Try.prog 50 = false := by kernel_rfl
theorem ty_bool50 : boolT Try.prog 50 = false := by kernel_rfl
theorem ty_z50 : zeroT Try.prog 50 = some [.nilFunc] := by kernel_rfl
theorem ty_ag51 : aggT Try.prog 51 = some false := by kernel_rfl
theorem ty_sz51 : szT Try.prog 51 = some 1 := by kernel_rfl
theorem ty_int51 : intT Try.prog 51 = none := by kernel_rfl
theorem ty_ifc51 : ifaceT Try.prog 51 = false := by kernel_rfl
theorem ty_bool51 : boolT Try.prog 51 = false := by kernel_rfl
theorem ty_z51 : zeroT Try.prog 51 = some [.nilFunc] := by kernel_rfl
theorem ty_ag52 : aggT Try.prog 52 = some false := by kernel_rfl
theorem ty_sz52 : szT Try.prog 52 = some 1 := by kernel_rfl
theorem ty_int52 : intT Try.prog 52 = none := by kernel_rfl
theorem ty_ifc52 : ifaceT Try.prog 52 = false := by kernel_rfl
theorem ty_bool52 : boolT Try.prog 52 = false := by kernel_rfl
theorem ty_z52 : zeroT Try.prog 52 = some [.nilFunc] := by kernel_rfl
theorem ty_ag53 : aggT Try.prog 53 = some false := by kernel_rfl
theorem ty_sz53 : szT Try.prog 53 = some 1 := by kernel_rfl
theorem ty_int53 : intT Try.prog 53 = none := by kernel_rfl
theorem ty_ifc53 : ifaceT Try.prog 53 = false := by kernel_rfl
theorem ty_bool53 : boolT Try.prog 53 = false := by kernel_rfl
theorem ty_z53 : zeroT Try.prog 53 = some [.nilFunc] := by kernel_rfl
theorem ty_ag54 : aggT Try.prog 54 = some false := by kernel_rfl
theorem ty_sz54 : szT Try.prog 54 = some 1 := by kernel_rfl
theorem ty_int54 : intT Try.prog 54 = none := by kernel_rfl
theorem ty_ifc54 : ifaceT Try.prog 54 = false := by kernel_rfl
theorem ty_m54_0 : methA Try.prog 54 "Finished" = some 23 := by kernel_rfl
theorem ty_k54_0 : nilOk Try.prog 54 "Finished" = true := by kernel_rfl
theorem ty_m54_1 : methA Try.prog 54 "Hear" = some 27 := by kernel_rfl
theorem ty_k54_1 : nilOk Try.prog 54 "Hear" = true := by kernel_rfl
theorem ty_m54_2 : methA Try.prog 54 "Reset" = some 24 := by kernel_rfl
theorem ty_k54_2 : nilOk Try.prog 54 "Reset" = true := by kernel_rfl
theorem ty_m54_3 : methA Try.prog 54 "plugboard/controls.acknowledged" = some 71 := by kernel_rfl
theorem ty_k54_3 : nilOk Try.prog 54 "plugboard/controls.acknowledged" = true := by kernel_rfl
theorem ty_m54_4 : methA Try.prog 54 "plugboard/controls.complete" = some 106 := by kernel_rfl
theorem ty_k54_4 : nilOk Try.prog 54 "plugboard/controls.complete" = true := by kernel_rfl
theorem ty_m54_5 : methA Try.prog 54 "plugboard/controls.handle" = some 104 := by kernel_rfl
theorem ty_k54_5 : nilOk Try.prog 54 "plugboard/controls.handle" = true := by kernel_rfl
theorem ty_m54_6 : methA Try.prog 54 "plugboard/controls.none" = some 66 := by kernel_rfl
theorem ty_k54_6 : nilOk Try.prog 54 "plugboard/controls.none" = true := by kernel_rfl
theorem ty_m54_7 : methA Try.prog 54 "plugboard/controls.out" = some 72 := by kernel_rfl
theorem ty_k54_7 : nilOk Try.prog 54 "plugboard/controls.out" = true := by kernel_rfl
theorem ty_m54_8 : methA Try.prog 54 "plugboard/controls.packet" = some 105 := by kernel_rfl
theorem ty_k54_8 : nilOk Try.prog 54 "plugboard/controls.packet" = true := by kernel_rfl
theorem ty_m54_9 : methA Try.prog 54 "plugboard/controls.read" = some 69 := by kernel_rfl
theorem ty_k54_9 : nilOk Try.prog 54 "plugboard/controls.read" = true := by kernel_rfl
theorem ty_m54_10 : methA Try.prog 54 "plugboard/controls.setup" = some 67 := by kernel_rfl
theorem ty_k54_10 : nilOk Try.prog 54 "plugboard/controls.setup" = true := by kernel_rfl
theorem ty_m54_11 : methA Try.prog 54 "plugboard/controls.status" = some 70 := by kernel_rfl
theorem ty_k54_11 : nilOk Try.prog 54 "plugboard/controls.status" = true := by kernel_rfl
theorem ty_bool54 : boolT Try.prog 54 = false := by kernel_rfl
theorem ty_z54 : zeroT Try.prog 54 = some [.pointer none] := by kernel_rfl
theorem ty_ag56 : aggT Try.prog 56 = some false := by kernel_rfl
theorem ty_sz56 : szT Try.prog 56 = some 1 := by kernel_rfl
theorem ty_int56 : intT Try.prog 56 = none := by kernel_rfl
theorem ty_ifc56 : ifaceT Try.prog 56 = false := by kernel_rfl
theorem ty_bool56 : boolT Try.prog 56 = false := by kernel_rfl
theorem ty_z56 : zeroT Try.prog 56 = some [.nilFunc] := by kernel_rfl
theorem ty_ag57 : aggT Try.prog 57 = some false := by kernel_rfl
theorem ty_sz57 : szT Try.prog 57 = some 1 := by kernel_rfl
theorem ty_int57 : intT Try.prog 57 = none := by kernel_rfl
theorem ty_ifc57 : ifaceT Try.prog 57 = false := by kernel_rfl
theorem ty_bool57 : boolT Try.prog 57 = false := by kernel_rfl
theorem ty_z57 : zeroT Try.prog 57 = some [.nilFunc] := by kernel_rfl
theorem ty_ag58 : aggT Try.prog 58 = some false := by kernel_rfl
theorem ty_sz58 : szT Try.prog 58 = some 1 := by kernel_rfl
theorem ty_int58 : intT Try.prog 58 = none := by kernel_rfl
theorem ty_ifc58 : ifaceT Try.prog 58 = false := by kernel_rfl
theorem ty_m58_0 : methA Try.prog 58 "Request" = some 26 := by kernel_rfl
theorem ty_k58_0 : nilOk Try.prog 58 "Request" = true := by kernel_rfl
theorem ty_bool58 : boolT Try.prog 58 = false := by kernel_rfl
theorem ty_z58 : zeroT Try.prog 58 = some [.nilFunc] := by kernel_rfl
theorem ty_ag59 : aggT Try.prog 59 = some false := by kernel_rfl
theorem ty_sz59 : szT Try.prog 59 = some 1 := by kernel_rfl
theorem ty_int59 : intT Try.prog 59 = none := by kernel_rfl
theorem ty_ifc59 : ifaceT Try.prog 59 = false := by kernel_rfl
theorem ty_bool59 : boolT Try.prog 59 = false := by kernel_rfl
theorem ty_z59 : zeroT Try.prog 59 = some [.nilFunc] := by kernel_rfl
theorem ty_ag60 : aggT Try.prog 60 = some false := by kernel_rfl
theorem ty_sz60 : szT Try.prog 60 = some 1 := by kernel_rfl
theorem ty_int60 : intT Try.prog 60 = none := by kernel_rfl
theorem ty_ifc60 : ifaceT Try.prog 60 = false := by kernel_rfl
theorem ty_bool60 : boolT Try.prog 60 = false := by kernel_rfl
theorem ty_z60 : zeroT Try.prog 60 = some [.nilFunc] := by kernel_rfl
theorem ty_ag61 : aggT Try.prog 61 = some false := by kernel_rfl
theorem ty_sz61 : szT Try.prog 61 = some 1 := by kernel_rfl
theorem ty_int61 : intT Try.prog 61 = none := by kernel_rfl
theorem ty_ifc61 : ifaceT Try.prog 61 = false := by kernel_rfl
theorem ty_bool61 : boolT Try.prog 61 = false := by kernel_rfl
theorem ty_z61 : zeroT Try.prog 61 = some [.nilFunc] := by kernel_rfl
theorem ty_ag62 : aggT Try.prog 62 = some false := by kernel_rfl
theorem ty_sz62 : szT Try.prog 62 = some 1 := by kernel_rfl
theorem ty_int62 : intT Try.prog 62 = none := by kernel_rfl
theorem ty_ifc62 : ifaceT Try.prog 62 = false := by kernel_rfl
theorem ty_bool62 : boolT Try.prog 62 = false := by kernel_rfl
theorem ty_z62 : zeroT Try.prog 62 = some [.nilFunc] := by kernel_rfl
theorem ty_ag64 : aggT Try.prog 64 = some false := by kernel_rfl
theorem ty_sz64 : szT Try.prog 64 = some 1 := by kernel_rfl
theorem ty_int64 : intT Try.prog 64 = some .u8 := by kernel_rfl
theorem ty_ifc64 : ifaceT Try.prog 64 = false := by kernel_rfl
theorem ty_bool64 : boolT Try.prog 64 = false := by kernel_rfl
theorem ty_z64 : zeroT Try.prog 64 = some [.int .u8 (0)] := by kernel_rfl
theorem ty_ag65 : aggT Try.prog 65 = some true := by kernel_rfl
theorem ty_sz65 : szT Try.prog 65 = some 5 := by kernel_rfl
theorem ty_int65 : intT Try.prog 65 = none := by kernel_rfl
theorem ty_eq65 : eqT Try.prog 65 = some [true, true, false, false, true] := by kernel_rfl
theorem ty_ifc65 : ifaceT Try.prog 65 = false := by kernel_rfl
theorem ty_bool65 : boolT Try.prog 65 = false := by kernel_rfl
theorem ty_f65_0 : fieldT Try.prog 65 0 = some (0, 1, false) := by kernel_rfl
theorem ty_f65_1 : fieldT Try.prog 65 1 = some (1, 1, false) := by kernel_rfl
theorem ty_f65_2 : fieldT Try.prog 65 2 = some (2, 1, false) := by kernel_rfl
theorem ty_f65_3 : fieldT Try.prog 65 3 = some (3, 1, false) := by kernel_rfl
theorem ty_f65_4 : fieldT Try.prog 65 4 = some (4, 1, false) := by kernel_rfl
theorem ty_pl65 : placeT Try.prog 65 = some (fun i => #[(0, 1), (1, 1), (2, 1), (3, 1), (4, 1)][i]?) := by kernel_rfl
theorem ty_z65 : zeroT Try.prog 65 = some [.int .u8 (0), .int .u8 (0), .bool false, .bool false, .int .u8 (0)] := by kernel_rfl
theorem ty_ag66 : aggT Try.prog 66 = some true := by kernel_rfl
theorem ty_sz66 : szT Try.prog 66 = some 5 := by kernel_rfl
theorem ty_int66 : intT Try.prog 66 = none := by kernel_rfl
theorem ty_eq66 : eqT Try.prog 66 = some [true, true, false, false, true] := by kernel_rfl
theorem ty_ifc66 : ifaceT Try.prog 66 = false := by kernel_rfl
theorem ty_bool66 : boolT Try.prog 66 = false := by kernel_rfl
theorem ty_f66_0 : fieldT Try.prog 66 0 = some (0, 1, false) := by kernel_rfl
theorem ty_f66_1 : fieldT Try.prog 66 1 = some (1, 1, false) := by kernel_rfl
theorem ty_f66_2 : fieldT Try.prog 66 2 = some (2, 1, false) := by kernel_rfl
theorem ty_f66_3 : fieldT Try.prog 66 3 = some (3, 1, false) := by kernel_rfl
theorem ty_f66_4 : fieldT Try.prog 66 4 = some (4, 1, false) := by kernel_rfl
theorem ty_pl66 : placeT Try.prog 66 = some (fun i => #[(0, 1), (1, 1), (2, 1), (3, 1), (4, 1)][i]?) := by kernel_rfl
theorem ty_z66 : zeroT Try.prog 66 = some [.int .u8 (0), .int .u8 (0), .bool false, .bool false, .int .u8 (0)] := by kernel_rfl
theorem ty_ag67 : aggT Try.prog 67 = some true := by kernel_rfl
theorem ty_sz67 : szT Try.prog 67 = some 10 := by kernel_rfl
theorem ty_int67 : intT Try.prog 67 = none := by kernel_rfl
theorem ty_ifc67 : ifaceT Try.prog 67 = false := by kernel_rfl
theorem ty_bool67 : boolT Try.prog 67 = false := by kernel_rfl
theorem ty_f67_0 : fieldT Try.prog 67 0 = some (0, 1, false) := by kernel_rfl
theorem ty_f67_1 : fieldT Try.prog 67 1 = some (1, 1, false) := by kernel_rfl
theorem ty_f67_2 : fieldT Try.prog 67 2 = some (2, 1, false) := by kernel_rfl
theorem ty_f67_3 : fieldT Try.prog 67 3 = some (3, 1, false) := by kernel_rfl
theorem ty_f67_4 : fieldT Try.prog 67 4 = some (4, 5, true) := by kernel_rfl
theorem ty_f67_5 : fieldT Try.prog 67 5 = some (9, 1, false) := by kernel_rfl
theorem ty_pl67 : placeT Try.prog 67 = some (fun i => #[(0, 1), (1, 1), (2, 1), (3, 1), (4, 5), (9, 1)][i]?) := by kernel_rfl
theorem ty_z67 : zeroT Try.prog 67 = some [.int .u8 (0), .int .u8 (0), .int .u8 (0), .int .u16 (0), .int .u8 (0), .int .u8 (0), .bool false, .bool false, .int .u8 (0), .slice none 0 0] := by kernel_rfl
theorem ty_ag68 : aggT Try.prog 68 = some true := by kernel_rfl
theorem ty_sz68 : szT Try.prog 68 = some 10 := by kernel_rfl
theorem ty_int68 : intT Try.prog 68 = none := by kernel_rfl
theorem ty_ifc68 : ifaceT Try.prog 68 = false := by kernel_rfl
theorem ty_bool68 : boolT Try.prog 68 = false := by kernel_rfl
theorem ty_f68_0 : fieldT Try.prog 68 0 = some (0, 1, false) := by kernel_rfl
theorem ty_f68_1 : fieldT Try.prog 68 1 = some (1, 1, false) := by kernel_rfl
theorem ty_f68_2 : fieldT Try.prog 68 2 = some (2, 1, false) := by kernel_rfl
theorem ty_f68_3 : fieldT Try.prog 68 3 = some (3, 1, false) := by kernel_rfl
theorem ty_f68_4 : fieldT Try.prog 68 4 = some (4, 5, true) := by kernel_rfl
theorem ty_f68_5 : fieldT Try.prog 68 5 = some (9, 1, false) := by kernel_rfl
theorem ty_pl68 : placeT Try.prog 68 = some (fun i => #[(0, 1), (1, 1), (2, 1), (3, 1), (4, 5), (9, 1)][i]?) := by kernel_rfl
theorem ty_z68 : zeroT Try.prog 68 = some [.int .u8 (0), .int .u8 (0), .int .u8 (0), .int .u16 (0), .int .u8 (0), .int .u8 (0), .bool false, .bool false, .int .u8 (0), .slice none 0 0] := by kernel_rfl
theorem ty_ag70 : aggT Try.prog 70 = some false := by kernel_rfl
theorem ty_sz70 : szT Try.prog 70 = some 1 := by kernel_rfl
theorem ty_int70 : intT Try.prog 70 = none := by kernel_rfl
theorem ty_ifc70 : ifaceT Try.prog 70 = false := by kernel_rfl
theorem ty_bool70 : boolT Try.prog 70 = false := by kernel_rfl
theorem ty_z70 : zeroT Try.prog 70 = some [.nilFunc] := by kernel_rfl
theorem ty_ag71 : aggT Try.prog 71 = some false := by kernel_rfl
theorem ty_sz71 : szT Try.prog 71 = some 1 := by kernel_rfl
theorem ty_int71 : intT Try.prog 71 = none := by kernel_rfl
theorem ty_ifc71 : ifaceT Try.prog 71 = true := by kernel_rfl
theorem ty_bool71 : boolT Try.prog 71 = false := by kernel_rfl
theorem ty_z71 : zeroT Try.prog 71 = some [.nilIface] := by kernel_rfl
theorem ty_ag72 : aggT Try.prog 72 = some false := by kernel_rfl
theorem ty_sz72 : szT Try.prog 72 = some 1 := by kernel_rfl
theorem ty_int72 : intT Try.prog 72 = none := by kernel_rfl
theorem ty_ifc72 : ifaceT Try.prog 72 = true := by kernel_rfl
theorem ty_bool72 : boolT Try.prog 72 = false := by kernel_rfl
theorem ty_z72 : zeroT Try.prog 72 = some [.nilIface] := by kernel_rfl
theorem ty_ag73 : aggT Try.prog 73 = some true := by kernel_rfl
theorem ty_sz73 : szT Try.prog 73 = some 13 := by kernel_rfl
theorem ty_int73 : intT Try.prog 73 = none := by kernel_rfl
theorem ty_ifc73 : ifaceT Try.prog 73 = false := by kernel_rfl
theorem ty_bool73 : boolT Try.prog 73 = false := by kernel_rfl
theorem ty_f73_0 : fieldT Try.prog 73 0 = some (0, 5, true) := by kernel_rfl
theorem ty_f73_1 : fieldT Try.prog 73 1 = some (5, 1, false) := by kernel_rfl
theorem ty_f73_2 : fieldT Try.prog 73 2 = some (6, 1, false) := by kernel_rfl
theorem ty_f73_3 : fieldT Try.prog 73 3 = some (7, 1, false) := by kernel_rfl
theorem ty_f73_4 : fieldT Try.prog 73 4 = some (8, 1, false) := by kernel_rfl
theorem ty_f73_5 : fieldT Try.prog 73 5 = some (9, 1, false) := by kernel_rfl
theorem ty_f73_6 : fieldT Try.prog 73 6 = some (10, 1, false) := by kernel_rfl
theorem ty_f73_7 : fieldT Try.prog 73 7 = some (11, 1, false) := by kernel_rfl
theorem ty_f73_8 : fieldT Try.prog 73 8 = some (12, 1, false) := by kernel_rfl
theorem ty_pl73 : placeT Try.prog 73 = some (fun i => #[(0, 5), (5, 1), (6, 1), (7, 1), (8, 1), (9, 1), (10, 1), (11, 1), (12, 1)][i]?) := by kernel_rfl
theorem ty_z73 : zeroT Try.prog 73 = some [.int .u8 (0), .int .u8 (0), .int .u16 (0), .int .u16 (0), .int .u16 (0), .bool false, .bool false, .bool false, .bool false, .bool false, .slice none 0 0, .int .i64 (0), .bool false] := by kernel_rfl
theorem ty_ag74 : aggT Try.prog 74 = some true := by kernel_rfl
theorem ty_sz74 : szT Try.prog 74 = some 13 := by kernel_rfl
theorem ty_int74 : intT Try.prog 74 = none := by kernel_rfl
theorem ty_ifc74 : ifaceT Try.prog 74 = false := by kernel_rfl
theorem ty_bool74 : boolT Try.prog 74 = false := by kernel_rfl
theorem ty_f74_0 : fieldT Try.prog 74 0 = some (0, 5, true) := by kernel_rfl
theorem ty_f74_1 : fieldT Try.prog 74 1 = some (5, 1, false) := by kernel_rfl
theorem ty_f74_2 : fieldT Try.prog 74 2 = some (6, 1, false) := by kernel_rfl
theorem ty_f74_3 : fieldT Try.prog 74 3 = some (7, 1, false) := by kernel_rfl
theorem ty_f74_4 : fieldT Try.prog 74 4 = some (8, 1, false) := by kernel_rfl
theorem ty_f74_5 : fieldT Try.prog 74 5 = some (9, 1, false) := by kernel_rfl
theorem ty_f74_6 : fieldT Try.prog 74 6 = some (10, 1, false) := by kernel_rfl
theorem ty_f74_7 : fieldT Try.prog 74 7 = some (11, 1, false) := by kernel_rfl
theorem ty_f74_8 : fieldT Try.prog 74 8 = some (12, 1, false) := by kernel_rfl
theorem ty_pl74 : placeT Try.prog 74 = some (fun i => #[(0, 5), (5, 1), (6, 1), (7, 1), (8, 1), (9, 1), (10, 1), (11, 1), (12, 1)][i]?) := by kernel_rfl
theorem ty_z74 : zeroT Try.prog 74 = some [.int .u8 (0), .int .u8 (0), .int .u16 (0), .int .u16 (0), .int .u16 (0), .bool false, .bool false, .bool false, .bool false, .bool false, .slice none 0 0, .int .i64 (0), .bool false] := by kernel_rfl
theorem ty_ag75 : aggT Try.prog 75 = some true := by kernel_rfl
theorem ty_sz75 : szT Try.prog 75 = some 16 := by kernel_rfl
theorem ty_int75 : intT Try.prog 75 = none := by kernel_rfl
theorem ty_ifc75 : ifaceT Try.prog 75 = false := by kernel_rfl
theorem ty_bool75 : boolT Try.prog 75 = false := by kernel_rfl
theorem ty_f75_0 : fieldT Try.prog 75 0 = some (0, 1, false) := by kernel_rfl
theorem ty_f75_1 : fieldT Try.prog 75 1 = some (1, 1, false) := by kernel_rfl
theorem ty_f75_2 : fieldT Try.prog 75 2 = some (2, 13, true) := by kernel_rfl
theorem ty_f75_3 : fieldT Try.prog 75 3 = some (15, 1, false) := by kernel_rfl
theorem ty_pl75 : placeT Try.prog 75 = some (fun i => #[(0, 1), (1, 1), (2, 13), (15, 1)][i]?) := by kernel_rfl
theorem ty_z75 : zeroT Try.prog 75 = some [.int .i64 (0), .nilIface, .int .u8 (0), .int .u8 (0), .int .u16 (0), .int .u16 (0), .int .u16 (0), .bool false, .bool false, .bool false, .bool false, .bool false, .slice none 0 0, .int .i64 (0), .bool false, .int .i64 (0)] := by kernel_rfl
theorem ty_ag76 : aggT Try.prog 76 = some true := by kernel_rfl
theorem ty_sz76 : szT Try.prog 76 = some 16 := by kernel_rfl
theorem ty_int76 : intT Try.prog 76 = none := by kernel_rfl
theorem ty_ifc76 : ifaceT Try.prog 76 = false := by kernel_rfl
theorem ty_bool76 : boolT Try.prog 76 = false := by kernel_rfl
theorem ty_f76_0 : fieldT Try.prog 76 0 = some (0, 1, false) := by kernel_rfl
theorem ty_f76_1 : fieldT Try.prog 76 1 = some (1, 1, false) := by kernel_rfl
theorem ty_f76_2 : fieldT Try.prog 76 2 = some (2, 13, true) := by kernel_rfl
theorem ty_f76_3 : fieldT Try.prog 76 3 = some (15, 1, false) := by kernel_rfl
theorem ty_pl76 : placeT Try.prog 76 = some (fun i => #[(0, 1), (1, 1), (2, 13), (15, 1)][i]?) := by kernel_rfl
theorem ty_z76 : zeroT Try.prog 76 = some [.int .i64 (0), .nilIface, .int .u8 (0), .int .u8 (0), .int .u16 (0), .int .u16 (0), .int .u16 (0), .bool false, .bool false, .bool false, .bool false, .bool false, .slice none 0 0, .int .i64 (0), .bool false, .int .i64 (0)] := by kernel_rfl
theorem ty_ag77 : aggT Try.prog 77 = some false := by kernel_rfl
theorem ty_sz77 : szT Try.prog 77 = some 1 := by kernel_rfl
theorem ty_int77 : intT Try.prog 77 = none := by kernel_rfl
theorem ty_ifc77 : ifaceT Try.prog 77 = false := by kernel_rfl
theorem ty_bool77 : boolT Try.prog 77 = false := by kernel_rfl
theorem ty_z77 : zeroT Try.prog 77 = some [.nilFunc] := by kernel_rfl
theorem ty_ag78 : aggT Try.prog 78 = some true := by kernel_rfl
theorem ty_sz78 : szT Try.prog 78 = some 2 := by kernel_rfl
theorem ty_int78 : intT Try.prog 78 = none := by kernel_rfl
theorem ty_ifc78 : ifaceT Try.prog 78 = false := by kernel_rfl
theorem ty_bool78 : boolT Try.prog 78 = false := by kernel_rfl
theorem ty_f78_0 : fieldT Try.prog 78 0 = some (0, 1, false) := by kernel_rfl
theorem ty_f78_1 : fieldT Try.prog 78 1 = some (1, 1, false) := by kernel_rfl
theorem ty_pl78 : placeT Try.prog 78 = some (fun i => #[(0, 1), (1, 1)][i]?) := by kernel_rfl
theorem ty_z78 : zeroT Try.prog 78 = some [.int .u8 (0), .slice none 0 0] := by kernel_rfl
theorem ty_ag79 : aggT Try.prog 79 = some true := by kernel_rfl
theorem ty_sz79 : szT Try.prog 79 = some 2 := by kernel_rfl
theorem ty_int79 : intT Try.prog 79 = none := by kernel_rfl
theorem ty_ifc79 : ifaceT Try.prog 79 = false := by kernel_rfl
theorem ty_bool79 : boolT Try.prog 79 = false := by kernel_rfl
theorem ty_f79_0 : fieldT Try.prog 79 0 = some (0, 1, false) := by kernel_rfl
theorem ty_f79_1 : fieldT Try.prog 79 1 = some (1, 1, false) := by kernel_rfl
theorem ty_pl79 : placeT Try.prog 79 = some (fun i => #[(0, 1), (1, 1)][i]?) := by kernel_rfl
theorem ty_z79 : zeroT Try.prog 79 = some [.int .u8 (0), .slice none 0 0] := by kernel_rfl
theorem ty_ag80 : aggT Try.prog 80 = some false := by kernel_rfl
theorem ty_sz80 : szT Try.prog 80 = some 1 := by kernel_rfl
theorem ty_int80 : intT Try.prog 80 = none := by kernel_rfl
theorem ty_ifc80 : ifaceT Try.prog 80 = false := by kernel_rfl
theorem ty_bool80 : boolT Try.prog 80 = false := by kernel_rfl
theorem ty_elem80 : elemT Try.prog 80 = some (5, 1, false) := by kernel_rfl
theorem ty_app80 : appT Try.prog 80 = some (5, 1, 1) := by kernel_rfl
theorem ty_z80 : zeroT Try.prog 80 = some [.slice none 0 0] := by kernel_rfl
theorem ty_ag81 : aggT Try.prog 81 = some false := by kernel_rfl
theorem ty_sz81 : szT Try.prog 81 = some 1 := by kernel_rfl
theorem ty_int81 : intT Try.prog 81 = none := by kernel_rfl
theorem ty_ifc81 : ifaceT Try.prog 81 = false := by kernel_rfl
theorem ty_m81_0 : methA Try.prog 81 "Request" = some 158 := by kernel_rfl
theorem ty_k81_0 : nilOk Try.prog 81 "Request" = true := by kernel_rfl
theorem ty_bool81 : boolT Try.prog 81 = false := by kernel_rfl
theorem ty_z81 : zeroT Try.prog 81 = some [.pointer none] := by kernel_rfl
theorem ty_ag82 : aggT Try.prog 82 = some false := by kernel_rfl
theorem ty_sz82 : szT Try.prog 82 = some 1 := by kernel_rfl
theorem ty_int82 : intT Try.prog 82 = none := by kernel_rfl
theorem ty_ifc82 : ifaceT Try.prog 82 = false := by kernel_rfl
theorem ty_bool82 : boolT Try.prog 82 = false := by kernel_rfl
theorem ty_z82 : zeroT Try.prog 82 = some [.nilFunc] := by kernel_rfl
theorem ty_ag83 : aggT Try.prog 83 = some false := by kernel_rfl
theorem ty_sz83 : szT Try.prog 83 = some 1 := by kernel_rfl
theorem ty_int83 : intT Try.prog 83 = none := by kernel_rfl
theorem ty_ifc83 : ifaceT Try.prog 83 = false := by kernel_rfl
theorem ty_m83_0 : methA Try.prog 83 "Address" = some 74 := by kernel_rfl
theorem ty_k83_0 : nilOk Try.prog 83 "Address" = true := by kernel_rfl
theorem ty_m83_1 : methA Try.prog 83 "Hear" = some 159 := by kernel_rfl
theorem ty_k83_1 : nilOk Try.prog 83 "Hear" = true := by kernel_rfl
theorem ty_m83_2 : methA Try.prog 83 "Use" = some 90 := by kernel_rfl
theorem ty_k83_2 : nilOk Try.prog 83 "Use" = true := by kernel_rfl
theorem ty_m83_3 : methA Try.prog 83 "Zero" = some 75 := by kernel_rfl
theorem ty_k83_3 : nilOk Try.prog 83 "Zero" = true := by kernel_rfl
theorem ty_m83_4 : methA Try.prog 83 "plugboard/endpoints.none" = some 107 := by kernel_rfl
theorem ty_k83_4 : nilOk Try.prog 83 "plugboard/endpoints.none" = true := by kernel_rfl
theorem ty_m83_5 : methA Try.prog 83 "plugboard/endpoints.token" = some 160 := by kernel_rfl
theorem ty_k83_5 : nilOk Try.prog 83 "plugboard/endpoints.token" = true := by kernel_rfl
theorem ty_bool83 : boolT Try.prog 83 = false := by kernel_rfl
theorem ty_z83 : zeroT Try.prog 83 = some [.pointer none] := by kernel_rfl
theorem ty_ag85 : aggT Try.prog 85 = some false := by kernel_rfl
theorem ty_sz85 : szT Try.prog 85 = some 1 := by kernel_rfl
theorem ty_int85 : intT Try.prog 85 = none := by kernel_rfl
theorem ty_ifc85 : ifaceT Try.prog 85 = false := by kernel_rfl
theorem ty_bool85 : boolT Try.prog 85 = false := by kernel_rfl
theorem ty_z85 : zeroT Try.prog 85 = some [.nilFunc] := by kernel_rfl
theorem ty_ag87 : aggT Try.prog 87 = some false := by kernel_rfl
theorem ty_sz87 : szT Try.prog 87 = some 1 := by kernel_rfl
theorem ty_int87 : intT Try.prog 87 = none := by kernel_rfl
theorem ty_ifc87 : ifaceT Try.prog 87 = false := by kernel_rfl
theorem ty_bool87 : boolT Try.prog 87 = false := by kernel_rfl
theorem ty_z87 : zeroT Try.prog 87 = some [.nilFunc] := by kernel_rfl
theorem ty_ag88 : aggT Try.prog 88 = some false := by kernel_rfl
theorem ty_sz88 : szT Try.prog 88 = some 1 := by kernel_rfl
theorem ty_int88 : intT Try.prog 88 = none := by kernel_rfl
theorem ty_ifc88 : ifaceT Try.prog 88 = false := by kernel_rfl
theorem ty_m88_0 : methA Try.prog 88 "Left" = some 166 := by kernel_rfl
theorem ty_k88_0 : nilOk Try.prog 88 "Left" = true := by kernel_rfl
theorem ty_m88_1 : methA Try.prog 88 "Next" = some 167 := by kernel_rfl
theorem ty_k88_1 : nilOk Try.prog 88 "Next" = true := by kernel_rfl
theorem ty_bool88 : boolT Try.prog 88 = false := by kernel_rfl
theorem ty_z88 : zeroT Try.prog 88 = some [.pointer none] := by kernel_rfl
theorem ty_ag89 : aggT Try.prog 89 = some false := by kernel_rfl
theorem ty_sz89 : szT Try.prog 89 = some 1 := by kernel_rfl
theorem ty_int89 : intT Try.prog 89 = none := by kernel_rfl
theorem ty_ifc89 : ifaceT Try.prog 89 = false := by kernel_rfl
theorem ty_bool89 : boolT Try.prog 89 = false := by kernel_rfl
theorem ty_z89 : zeroT Try.prog 89 = some [.nilFunc] := by kernel_rfl
theorem ty_ag90 : aggT Try.prog 90 = some false := by kernel_rfl
theorem ty_sz90 : szT Try.prog 90 = some 1 := by kernel_rfl
theorem ty_int90 : intT Try.prog 90 = none := by kernel_rfl
theorem ty_ifc90 : ifaceT Try.prog 90 = false := by kernel_rfl
theorem ty_bool90 : boolT Try.prog 90 = false := by kernel_rfl
theorem ty_elem90 : elemT Try.prog 90 = some (94, 6, true) := by kernel_rfl
theorem ty_app90 : appT Try.prog 90 = some (94, 6, 32) := by kernel_rfl
theorem ty_z90 : zeroT Try.prog 90 = some [.slice none 0 0] := by kernel_rfl
theorem ty_ag91 : aggT Try.prog 91 = some true := by kernel_rfl
theorem ty_sz91 : szT Try.prog 91 = some 3 := by kernel_rfl
theorem ty_int91 : intT Try.prog 91 = none := by kernel_rfl
theorem ty_ifc91 : ifaceT Try.prog 91 = false := by kernel_rfl
theorem ty_bool91 : boolT Try.prog 91 = false := by kernel_rfl
theorem ty_f91_0 : fieldT Try.prog 91 0 = some (0, 2, true) := by kernel_rfl
theorem ty_f91_1 : fieldT Try.prog 91 1 = some (2, 1, false) := by kernel_rfl
theorem ty_pl91 : placeT Try.prog 91 = some (fun i => #[(0, 2), (2, 1)][i]?) := by kernel_rfl
theorem ty_z91 : zeroT Try.prog 91 = some [.int .u8 (0), .slice none 0 0, .slice none 0 0] := by kernel_rfl
theorem ty_ag92 : aggT Try.prog 92 = some true := by kernel_rfl
theorem ty_sz92 : szT Try.prog 92 = some 3 := by kernel_rfl
theorem ty_int92 : intT Try.prog 92 = none := by kernel_rfl
theorem ty_ifc92 : ifaceT Try.prog 92 = false := by kernel_rfl
theorem ty_bool92 : boolT Try.prog 92 = false := by kernel_rfl
theorem ty_f92_0 : fieldT Try.prog 92 0 = some (0, 2, true) := by kernel_rfl
theorem ty_f92_1 : fieldT Try.prog 92 1 = some (2, 1, false) := by kernel_rfl
theorem ty_pl92 : placeT Try.prog 92 = some (fun i => #[(0, 2), (2, 1)][i]?) := by kernel_rfl
theorem ty_z92 : zeroT Try.prog 92 = some [.int .u8 (0), .slice none 0 0, .slice none 0 0] := by kernel_rfl
theorem ty_ag93 : aggT Try.prog 93 = some true := by kernel_rfl
theorem ty_sz93 : szT Try.prog 93 = some 6 := by kernel_rfl
theorem ty_int93 : intT Try.prog 93 = none := by kernel_rfl
theorem ty_ifc93 : ifaceT Try.prog 93 = false := by kernel_rfl
theorem ty_bool93 : boolT Try.prog 93 = false := by kernel_rfl
theorem ty_f93_0 : fieldT Try.prog 93 0 = some (0, 5, true) := by kernel_rfl
theorem ty_f93_1 : fieldT Try.prog 93 1 = some (5, 1, false) := by kernel_rfl
theorem ty_pl93 : placeT Try.prog 93 = some (fun i => #[(0, 5), (5, 1)][i]?) := by kernel_rfl
theorem ty_z93 : zeroT Try.prog 93 = some [.int .u8 (0), .int .u8 (0), .int .u16 (0), .int .u16 (0), .int .u16 (0), .slice none 0 0] := by kernel_rfl
theorem ty_ag94 : aggT Try.prog 94 = some true := by kernel_rfl
theorem ty_sz94 : szT Try.prog 94 = some 6 := by kernel_rfl
theorem ty_int94 : intT Try.prog 94 = none := by kernel_rfl
theorem ty_ifc94 : ifaceT Try.prog 94 = false := by kernel_rfl
theorem ty_bool94 : boolT Try.prog 94 = false := by kernel_rfl
theorem ty_f94_0 : fieldT Try.prog 94 0 = some (0, 5, true) := by kernel_rfl
theorem ty_f94_1 : fieldT Try.prog 94 1 = some (5, 1, false) := by kernel_rfl
theorem ty_pl94 : placeT Try.prog 94 = some (fun i => #[(0, 5), (5, 1)][i]?) := by kernel_rfl
theorem ty_z94 : zeroT Try.prog 94 = some [.int .u8 (0), .int .u8 (0), .int .u16 (0), .int .u16 (0), .int .u16 (0), .slice none 0 0] := by kernel_rfl
theorem ty_ag95 : aggT Try.prog 95 = some false := by kernel_rfl
theorem ty_sz95 : szT Try.prog 95 = some 1 := by kernel_rfl
theorem ty_int95 : intT Try.prog 95 = none := by kernel_rfl
theorem ty_ifc95 : ifaceT Try.prog 95 = false := by kernel_rfl
theorem ty_bool95 : boolT Try.prog 95 = false := by kernel_rfl
theorem ty_z95 : zeroT Try.prog 95 = some [.nilFunc] := by kernel_rfl
theorem ty_ag96 : aggT Try.prog 96 = some true := by kernel_rfl
theorem ty_sz96 : szT Try.prog 96 = some 14 := by kernel_rfl
theorem ty_int96 : intT Try.prog 96 = none := by kernel_rfl
theorem ty_ifc96 : ifaceT Try.prog 96 = false := by kernel_rfl
theorem ty_bool96 : boolT Try.prog 96 = false := by kernel_rfl
theorem ty_arr96 : arrT Try.prog 96 = some (2, 27, 7, true) := by kernel_rfl
theorem ty_pl96 : placeT Try.prog 96 = some (fun i => some (i * 7, 7)) := by kernel_rfl
theorem ty_z96 : zeroT Try.prog 96 = some [.int .u8 (0), .int .u8 (0), .int .u16 (0), .int .u16 (0), .int .u16 (0), .slice none 0 0, .int .u8 (0), .int .u8 (0), .int .u8 (0), .int .u16 (0), .int .u16 (0), .int .u16 (0), .slice none 0 0, .int .u8 (0)] := by kernel_rfl
theorem ty_ag97 : aggT Try.prog 97 = some true := by kernel_rfl
theorem ty_sz97 : szT Try.prog 97 = some 2 := by kernel_rfl
theorem ty_int97 : intT Try.prog 97 = none := by kernel_rfl
theorem ty_ifc97 : ifaceT Try.prog 97 = false := by kernel_rfl
theorem ty_bool97 : boolT Try.prog 97 = false := by kernel_rfl
theorem ty_arr97 : arrT Try.prog 97 = some (2, 5, 1, false) := by kernel_rfl
theorem ty_pl97 : placeT Try.prog 97 = some (fun i => some (i * 1, 1)) := by kernel_rfl
theorem ty_z97 : zeroT Try.prog 97 = some [.int .u8 (0), .int .u8 (0)] := by kernel_rfl
theorem ty_ag98 : aggT Try.prog 98 = some false := by kernel_rfl
theorem ty_sz98 : szT Try.prog 98 = some 1 := by kernel_rfl
theorem ty_int98 : intT Try.prog 98 = none := by kernel_rfl
theorem ty_ifc98 : ifaceT Try.prog 98 = false := by kernel_rfl
theorem ty_bool98 : boolT Try.prog 98 = false := by kernel_rfl
theorem ty_z98 : zeroT Try.prog 98 = some [.nilFunc] := by kernel_rfl
theorem ty_ag99 : aggT Try.prog 99 = some false := by kernel_rfl
theorem ty_sz99 : szT Try.prog 99 = some 1 := by kernel_rfl
theorem ty_int99 : intT Try.prog 99 = none := by kernel_rfl
theorem ty_ifc99 : ifaceT Try.prog 99 = false := by kernel_rfl
theorem ty_bool99 : boolT Try.prog 99 = false := by kernel_rfl
theorem ty_elem99 : elemT Try.prog 99 = some (25, 1, false) := by kernel_rfl
theorem ty_app99 : appT Try.prog 99 = some (25, 1, 24) := by kernel_rfl
theorem ty_z99 : zeroT Try.prog 99 = some [.slice none 0 0] := by kernel_rfl
theorem ty_ag100 : aggT Try.prog 100 = some false := by kernel_rfl
theorem ty_sz100 : szT Try.prog 100 = some 1 := by kernel_rfl
theorem ty_int100 : intT Try.prog 100 = none := by kernel_rfl
theorem ty_ifc100 : ifaceT Try.prog 100 = false := by kernel_rfl
theorem ty_bool100 : boolT Try.prog 100 = false := by kernel_rfl
theorem ty_z100 : zeroT Try.prog 100 = some [.nilFunc] := by kernel_rfl
theorem ty_ag101 : aggT Try.prog 101 = some true := by kernel_rfl
theorem ty_sz101 : szT Try.prog 101 = some 2 := by kernel_rfl
theorem ty_int101 : intT Try.prog 101 = none := by kernel_rfl
theorem ty_ifc101 : ifaceT Try.prog 101 = false := by kernel_rfl
theorem ty_bool101 : boolT Try.prog 101 = false := by kernel_rfl
theorem ty_f101_0 : fieldT Try.prog 101 0 = some (0, 1, false) := by kernel_rfl
theorem ty_f101_1 : fieldT Try.prog 101 1 = some (1, 1, false) := by kernel_rfl
theorem ty_pl101 : placeT Try.prog 101 = some (fun i => #[(0, 1), (1, 1)][i]?) := by kernel_rfl
theorem ty_z101 : zeroT Try.prog 101 = some [.bool false, .slice none 0 0] := by kernel_rfl
theorem ty_ag102 : aggT Try.prog 102 = some true := by kernel_rfl
theorem ty_sz102 : szT Try.prog 102 = some 2 := by kernel_rfl
theorem ty_int102 : intT Try.prog 102 = none := by kernel_rfl
theorem ty_ifc102 : ifaceT Try.prog 102 = false := by kernel_rfl
theorem ty_bool102 : boolT Try.prog 102 = false := by kernel_rfl
theorem ty_f102_0 : fieldT Try.prog 102 0 = some (0, 1, false) := by kernel_rfl
theorem ty_f102_1 : fieldT Try.prog 102 1 = some (1, 1, false) := by kernel_rfl
theorem ty_pl102 : placeT Try.prog 102 = some (fun i => #[(0, 1), (1, 1)][i]?) := by kernel_rfl
theorem ty_z102 : zeroT Try.prog 102 = some [.bool false, .slice none 0 0] := by kernel_rfl
theorem ty_ag104 : aggT Try.prog 104 = some false := by kernel_rfl
theorem ty_sz104 : szT Try.prog 104 = some 1 := by kernel_rfl
theorem ty_int104 : intT Try.prog 104 = none := by kernel_rfl
theorem ty_ifc104 : ifaceT Try.prog 104 = false := by kernel_rfl
theorem ty_bool104 : boolT Try.prog 104 = false := by kernel_rfl
theorem ty_z104 : zeroT Try.prog 104 = some [.nilFunc] := by kernel_rfl
theorem ty_ag105 : aggT Try.prog 105 = some false := by kernel_rfl
theorem ty_sz105 : szT Try.prog 105 = some 1 := by kernel_rfl
theorem ty_int105 : intT Try.prog 105 = none := by kernel_rfl
theorem ty_ifc105 : ifaceT Try.prog 105 = false := by kernel_rfl
theorem ty_m105_0 : methA Try.prog 105 "Hear" = some 168 := by kernel_rfl
theorem ty_k105_0 : nilOk Try.prog 105 "Hear" = true := by kernel_rfl
theorem ty_bool105 : boolT Try.prog 105 = false := by kernel_rfl
theorem ty_z105 : zeroT Try.prog 105 = some [.pointer none] := by kernel_rfl
theorem ty_ag106 : aggT Try.prog 106 = some true := by kernel_rfl
theorem ty_sz106 : szT Try.prog 106 = some 2 := by kernel_rfl
theorem ty_int106 : intT Try.prog 106 = none := by kernel_rfl
theorem ty_ifc106 : ifaceT Try.prog 106 = false := by kernel_rfl
theorem ty_bool106 : boolT Try.prog 106 = false := by kernel_rfl
theorem ty_f106_0 : fieldT Try.prog 106 0 = some (0, 1, false) := by kernel_rfl
theorem ty_f106_1 : fieldT Try.prog 106 1 = some (1, 1, false) := by kernel_rfl
theorem ty_pl106 : placeT Try.prog 106 = some (fun i => #[(0, 1), (1, 1)][i]?) := by kernel_rfl
theorem ty_z106 : zeroT Try.prog 106 = some [.bool false, .slice none 0 0] := by kernel_rfl
theorem ty_ag107 : aggT Try.prog 107 = some true := by kernel_rfl
theorem ty_sz107 : szT Try.prog 107 = some 2 := by kernel_rfl
theorem ty_int107 : intT Try.prog 107 = none := by kernel_rfl
theorem ty_ifc107 : ifaceT Try.prog 107 = false := by kernel_rfl
theorem ty_bool107 : boolT Try.prog 107 = false := by kernel_rfl
theorem ty_f107_0 : fieldT Try.prog 107 0 = some (0, 1, false) := by kernel_rfl
theorem ty_f107_1 : fieldT Try.prog 107 1 = some (1, 1, false) := by kernel_rfl
theorem ty_pl107 : placeT Try.prog 107 = some (fun i => #[(0, 1), (1, 1)][i]?) := by kernel_rfl
theorem ty_z107 : zeroT Try.prog 107 = some [.bool false, .slice none 0 0] := by kernel_rfl
theorem ty_ag108 : aggT Try.prog 108 = some true := by kernel_rfl
theorem ty_sz108 : szT Try.prog 108 = some 3 := by kernel_rfl
theorem ty_int108 : intT Try.prog 108 = none := by kernel_rfl
theorem ty_ifc108 : ifaceT Try.prog 108 = false := by kernel_rfl
theorem ty_bool108 : boolT Try.prog 108 = false := by kernel_rfl
theorem ty_f108_0 : fieldT Try.prog 108 0 = some (0, 2, true) := by kernel_rfl
theorem ty_f108_1 : fieldT Try.prog 108 1 = some (2, 1, false) := by kernel_rfl
theorem ty_pl108 : placeT Try.prog 108 = some (fun i => #[(0, 2), (2, 1)][i]?) := by kernel_rfl
theorem ty_z108 : zeroT Try.prog 108 = some [.bool false, .slice none 0 0, .bool false] := by kernel_rfl
theorem ty_ag109 : aggT Try.prog 109 = some true := by kernel_rfl
theorem ty_sz109 : szT Try.prog 109 = some 3 := by kernel_rfl
theorem ty_int109 : intT Try.prog 109 = none := by kernel_rfl
theorem ty_ifc109 : ifaceT Try.prog 109 = false := by kernel_rfl
theorem ty_bool109 : boolT Try.prog 109 = false := by kernel_rfl
theorem ty_f109_0 : fieldT Try.prog 109 0 = some (0, 2, true) := by kernel_rfl
theorem ty_f109_1 : fieldT Try.prog 109 1 = some (2, 1, false) := by kernel_rfl
theorem ty_pl109 : placeT Try.prog 109 = some (fun i => #[(0, 2), (2, 1)][i]?) := by kernel_rfl
theorem ty_z109 : zeroT Try.prog 109 = some [.bool false, .slice none 0 0, .bool false] := by kernel_rfl
theorem ty_ag111 : aggT Try.prog 111 = some false := by kernel_rfl
theorem ty_sz111 : szT Try.prog 111 = some 1 := by kernel_rfl
theorem ty_int111 : intT Try.prog 111 = none := by kernel_rfl
theorem ty_ifc111 : ifaceT Try.prog 111 = false := by kernel_rfl
theorem ty_bool111 : boolT Try.prog 111 = false := by kernel_rfl
theorem ty_z111 : zeroT Try.prog 111 = some [.nilFunc] := by kernel_rfl
theorem ty_ag112 : aggT Try.prog 112 = some false := by kernel_rfl
theorem ty_sz112 : szT Try.prog 112 = some 1 := by kernel_rfl
theorem ty_int112 : intT Try.prog 112 = none := by kernel_rfl
theorem ty_ifc112 : ifaceT Try.prog 112 = false := by kernel_rfl
theorem ty_bool112 : boolT Try.prog 112 = false := by kernel_rfl
theorem ty_elem112 : elemT Try.prog 112 = some (175, 12, true) := by kernel_rfl
theorem ty_app112 : appT Try.prog 112 = some (175, 12, 48) := by kernel_rfl
theorem ty_z112 : zeroT Try.prog 112 = some [.slice none 0 0] := by kernel_rfl
theorem ty_ag114 : aggT Try.prog 114 = some false := by kernel_rfl
theorem ty_sz114 : szT Try.prog 114 = some 1 := by kernel_rfl
theorem ty_int114 : intT Try.prog 114 = none := by kernel_rfl
theorem ty_ifc114 : ifaceT Try.prog 114 = false := by kernel_rfl
theorem ty_bool114 : boolT Try.prog 114 = false := by kernel_rfl
theorem ty_z114 : zeroT Try.prog 114 = some [.nilFunc] := by kernel_rfl
theorem ty_ag115 : aggT Try.prog 115 = some false := by kernel_rfl
theorem ty_sz115 : szT Try.prog 115 = some 1 := by kernel_rfl
theorem ty_int115 : intT Try.prog 115 = none := by kernel_rfl
theorem ty_ifc115 : ifaceT Try.prog 115 = false := by kernel_rfl
theorem ty_bool115 : boolT Try.prog 115 = false := by kernel_rfl
theorem ty_z115 : zeroT Try.prog 115 = some [.nilFunc] := by kernel_rfl
theorem ty_ag116 : aggT Try.prog 116 = some false := by kernel_rfl
theorem ty_sz116 : szT Try.prog 116 = some 1 := by kernel_rfl
theorem ty_int116 : intT Try.prog 116 = none := by kernel_rfl
theorem ty_ifc116 : ifaceT Try.prog 116 = false := by kernel_rfl
theorem ty_bool116 : boolT Try.prog 116 = false := by kernel_rfl
theorem ty_z116 : zeroT Try.prog 116 = some [.nilFunc] := by kernel_rfl
theorem ty_ag117 : aggT Try.prog 117 = some false := by kernel_rfl
theorem ty_sz117 : szT Try.prog 117 = some 1 := by kernel_rfl
theorem ty_int117 : intT Try.prog 117 = none := by kernel_rfl
theorem ty_ifc117 : ifaceT Try.prog 117 = false := by kernel_rfl
theorem ty_bool117 : boolT Try.prog 117 = false := by kernel_rfl
theorem ty_z117 : zeroT Try.prog 117 = some [.nilFunc] := by kernel_rfl
theorem ty_ag118 : aggT Try.prog 118 = some false := by kernel_rfl
theorem ty_sz118 : szT Try.prog 118 = some 1 := by kernel_rfl
theorem ty_int118 : intT Try.prog 118 = none := by kernel_rfl
theorem ty_ifc118 : ifaceT Try.prog 118 = false := by kernel_rfl
theorem ty_m118_0 : methA Try.prog 118 "Hear" = some 171 := by kernel_rfl
theorem ty_k118_0 : nilOk Try.prog 118 "Hear" = true := by kernel_rfl
theorem ty_bool118 : boolT Try.prog 118 = false := by kernel_rfl
theorem ty_z118 : zeroT Try.prog 118 = some [.pointer none] := by kernel_rfl
theorem ty_ag119 : aggT Try.prog 119 = some true := by kernel_rfl
theorem ty_sz119 : szT Try.prog 119 = some 3 := by kernel_rfl
theorem ty_int119 : intT Try.prog 119 = none := by kernel_rfl
theorem ty_ifc119 : ifaceT Try.prog 119 = false := by kernel_rfl
theorem ty_bool119 : boolT Try.prog 119 = false := by kernel_rfl
theorem ty_f119_0 : fieldT Try.prog 119 0 = some (0, 2, true) := by kernel_rfl
theorem ty_f119_1 : fieldT Try.prog 119 1 = some (2, 1, false) := by kernel_rfl
theorem ty_pl119 : placeT Try.prog 119 = some (fun i => #[(0, 2), (2, 1)][i]?) := by kernel_rfl
theorem ty_z119 : zeroT Try.prog 119 = some [.bool false, .slice none 0 0, .bool false] := by kernel_rfl
theorem ty_ag120 : aggT Try.prog 120 = some true := by kernel_rfl
theorem ty_sz120 : szT Try.prog 120 = some 3 := by kernel_rfl
theorem ty_int120 : intT Try.prog 120 = none := by kernel_rfl
theorem ty_ifc120 : ifaceT Try.prog 120 = false := by kernel_rfl
theorem ty_bool120 : boolT Try.prog 120 = false := by kernel_rfl
theorem ty_f120_0 : fieldT Try.prog 120 0 = some (0, 2, true) := by kernel_rfl
theorem ty_f120_1 : fieldT Try.prog 120 1 = some (2, 1, false) := by kernel_rfl
theorem ty_pl120 : placeT Try.prog 120 = some (fun i => #[(0, 2), (2, 1)][i]?) := by kernel_rfl
theorem ty_z120 : zeroT Try.prog 120 = some [.bool false, .slice none 0 0, .bool false] := by kernel_rfl
theorem ty_ag121 : aggT Try.prog 121 = some false := by kernel_rfl
theorem ty_sz121 : szT Try.prog 121 = some 1 := by kernel_rfl
theorem ty_int121 : intT Try.prog 121 = none := by kernel_rfl
theorem ty_ifc121 : ifaceT Try.prog 121 = false := by kernel_rfl
theorem ty_m121_0 : methA Try.prog 121 "Offer" = some 45 := by kernel_rfl
theorem ty_k121_0 : nilOk Try.prog 121 "Offer" = true := by kernel_rfl
theorem ty_m121_1 : methA Try.prog 121 "Room" = some 51 := by kernel_rfl
theorem ty_k121_1 : nilOk Try.prog 121 "Room" = true := by kernel_rfl
theorem ty_m121_2 : methA Try.prog 121 "Taken" = some 52 := by kernel_rfl
theorem ty_k121_2 : nilOk Try.prog 121 "Taken" = true := by kernel_rfl
theorem ty_m121_3 : methA Try.prog 121 "plugboard/endpoints.acknowledged" = some 162 := by kernel_rfl
theorem ty_k121_3 : nilOk Try.prog 121 "plugboard/endpoints.acknowledged" = true := by kernel_rfl
theorem ty_m121_4 : methA Try.prog 121 "plugboard/endpoints.none" = some 94 := by kernel_rfl
theorem ty_k121_4 : nilOk Try.prog 121 "plugboard/endpoints.none" = true := by kernel_rfl
theorem ty_m121_5 : methA Try.prog 121 "plugboard/endpoints.read" = some 163 := by kernel_rfl
theorem ty_k121_5 : nilOk Try.prog 121 "plugboard/endpoints.read" = true := by kernel_rfl
theorem ty_m121_6 : methA Try.prog 121 "plugboard/endpoints.take" = some 164 := by kernel_rfl
theorem ty_k121_6 : nilOk Try.prog 121 "plugboard/endpoints.take" = true := by kernel_rfl
theorem ty_m121_7 : methA Try.prog 121 "plugboard/endpoints.written" = some 161 := by kernel_rfl
theorem ty_k121_7 : nilOk Try.prog 121 "plugboard/endpoints.written" = true := by kernel_rfl
theorem ty_bool121 : boolT Try.prog 121 = false := by kernel_rfl
theorem ty_z121 : zeroT Try.prog 121 = some [.pointer none] := by kernel_rfl
theorem ty_ag123 : aggT Try.prog 123 = some false := by kernel_rfl
theorem ty_sz123 : szT Try.prog 123 = some 1 := by kernel_rfl
theorem ty_int123 : intT Try.prog 123 = none := by kernel_rfl
theorem ty_ifc123 : ifaceT Try.prog 123 = false := by kernel_rfl
theorem ty_bool123 : boolT Try.prog 123 = false := by kernel_rfl
theorem ty_z123 : zeroT Try.prog 123 = some [.nilFunc] := by kernel_rfl
theorem ty_ag124 : aggT Try.prog 124 = some false := by kernel_rfl
theorem ty_sz124 : szT Try.prog 124 = some 1 := by kernel_rfl
theorem ty_int124 : intT Try.prog 124 = none := by kernel_rfl
theorem ty_ifc124 : ifaceT Try.prog 124 = false := by kernel_rfl
theorem ty_bool124 : boolT Try.prog 124 = false := by kernel_rfl
theorem ty_z124 : zeroT Try.prog 124 = some [.nilFunc] := by kernel_rfl
theorem ty_ag125 : aggT Try.prog 125 = some true := by kernel_rfl
theorem ty_sz125 : szT Try.prog 125 = some 7 := by kernel_rfl
theorem ty_int125 : intT Try.prog 125 = none := by kernel_rfl
theorem ty_ifc125 : ifaceT Try.prog 125 = false := by kernel_rfl
theorem ty_bool125 : boolT Try.prog 125 = false := by kernel_rfl
theorem ty_f125_0 : fieldT Try.prog 125 0 = some (0, 1, false) := by kernel_rfl
theorem ty_f125_1 : fieldT Try.prog 125 1 = some (1, 1, false) := by kernel_rfl
theorem ty_f125_2 : fieldT Try.prog 125 2 = some (2, 1, false) := by kernel_rfl
theorem ty_f125_3 : fieldT Try.prog 125 3 = some (3, 1, false) := by kernel_rfl
theorem ty_f125_4 : fieldT Try.prog 125 4 = some (4, 1, false) := by kernel_rfl
theorem ty_f125_5 : fieldT Try.prog 125 5 = some (5, 1, false) := by kernel_rfl
theorem ty_f125_6 : fieldT Try.prog 125 6 = some (6, 1, false) := by kernel_rfl
theorem ty_pl125 : placeT Try.prog 125 = some (fun i => #[(0, 1), (1, 1), (2, 1), (3, 1), (4, 1), (5, 1), (6, 1)][i]?) := by kernel_rfl
theorem ty_z125 : zeroT Try.prog 125 = some [.bool false, .int .u8 (0), .int .i64 (0), .bool false, .slice none 0 0, .bool false, .int .i64 (0)] := by kernel_rfl
theorem ty_ag126 : aggT Try.prog 126 = some true := by kernel_rfl
theorem ty_sz126 : szT Try.prog 126 = some 7 := by kernel_rfl
theorem ty_int126 : intT Try.prog 126 = none := by kernel_rfl
theorem ty_ifc126 : ifaceT Try.prog 126 = false := by kernel_rfl
theorem ty_bool126 : boolT Try.prog 126 = false := by kernel_rfl
theorem ty_f126_0 : fieldT Try.prog 126 0 = some (0, 1, false) := by kernel_rfl
theorem ty_f126_1 : fieldT Try.prog 126 1 = some (1, 1, false) := by kernel_rfl
theorem ty_f126_2 : fieldT Try.prog 126 2 = some (2, 1, false) := by kernel_rfl
theorem ty_f126_3 : fieldT Try.prog 126 3 = some (3, 1, false) := by kernel_rfl
theorem ty_f126_4 : fieldT Try.prog 126 4 = some (4, 1, false) := by kernel_rfl
theorem ty_f126_5 : fieldT Try.prog 126 5 = some (5, 1, false) := by kernel_rfl
theorem ty_f126_6 : fieldT Try.prog 126 6 = some (6, 1, false) := by kernel_rfl
theorem ty_pl126 : placeT Try.prog 126 = some (fun i => #[(0, 1), (1, 1), (2, 1), (3, 1), (4, 1), (5, 1), (6, 1)][i]?) := by kernel_rfl
theorem ty_z126 : zeroT Try.prog 126 = some [.bool false, .int .u8 (0), .int .i64 (0), .bool false, .slice none 0 0, .bool false, .int .i64 (0)] := by kernel_rfl
theorem ty_ag127 : aggT Try.prog 127 = some true := by kernel_rfl
theorem ty_sz127 : szT Try.prog 127 = some 13 := by kernel_rfl
theorem ty_int127 : intT Try.prog 127 = none := by kernel_rfl
theorem ty_ifc127 : ifaceT Try.prog 127 = false := by kernel_rfl
theorem ty_bool127 : boolT Try.prog 127 = false := by kernel_rfl
theorem ty_f127_0 : fieldT Try.prog 127 0 = some (0, 7, true) := by kernel_rfl
theorem ty_f127_1 : fieldT Try.prog 127 1 = some (7, 1, false) := by kernel_rfl
theorem ty_f127_2 : fieldT Try.prog 127 2 = some (8, 1, false) := by kernel_rfl
theorem ty_f127_3 : fieldT Try.prog 127 3 = some (9, 1, false) := by kernel_rfl
theorem ty_f127_4 : fieldT Try.prog 127 4 = some (10, 1, false) := by kernel_rfl
theorem ty_f127_5 : fieldT Try.prog 127 5 = some (11, 1, false) := by kernel_rfl
theorem ty_f127_6 : fieldT Try.prog 127 6 = some (12, 1, false) := by kernel_rfl
theorem ty_pl127 : placeT Try.prog 127 = some (fun i => #[(0, 7), (7, 1), (8, 1), (9, 1), (10, 1), (11, 1), (12, 1)][i]?) := by kernel_rfl
theorem ty_z127 : zeroT Try.prog 127 = some [.bool false, .int .u8 (0), .int .i64 (0), .bool false, .slice none 0 0, .bool false, .int .i64 (0), .slice none 0 0, .slice none 0 0, .int .i64 (0), .int .i64 (0), .bool false, .int .i64 (0)] := by kernel_rfl
theorem ty_ag128 : aggT Try.prog 128 = some true := by kernel_rfl
theorem ty_sz128 : szT Try.prog 128 = some 13 := by kernel_rfl
theorem ty_int128 : intT Try.prog 128 = none := by kernel_rfl
theorem ty_ifc128 : ifaceT Try.prog 128 = false := by kernel_rfl
theorem ty_bool128 : boolT Try.prog 128 = false := by kernel_rfl
theorem ty_f128_0 : fieldT Try.prog 128 0 = some (0, 7, true) := by kernel_rfl
theorem ty_f128_1 : fieldT Try.prog 128 1 = some (7, 1, false) := by kernel_rfl
theorem ty_f128_2 : fieldT Try.prog 128 2 = some (8, 1, false) := by kernel_rfl
theorem ty_f128_3 : fieldT Try.prog 128 3 = some (9, 1, false) := by kernel_rfl
theorem ty_f128_4 : fieldT Try.prog 128 4 = some (10, 1, false) := by kernel_rfl
theorem ty_f128_5 : fieldT Try.prog 128 5 = some (11, 1, false) := by kernel_rfl
theorem ty_f128_6 : fieldT Try.prog 128 6 = some (12, 1, false) := by kernel_rfl
theorem ty_pl128 : placeT Try.prog 128 = some (fun i => #[(0, 7), (7, 1), (8, 1), (9, 1), (10, 1), (11, 1), (12, 1)][i]?) := by kernel_rfl
theorem ty_z128 : zeroT Try.prog 128 = some [.bool false, .int .u8 (0), .int .i64 (0), .bool false, .slice none 0 0, .bool false, .int .i64 (0), .slice none 0 0, .slice none 0 0, .int .i64 (0), .int .i64 (0), .bool false, .int .i64 (0)] := by kernel_rfl
theorem ty_ag130 : aggT Try.prog 130 = some false := by kernel_rfl
theorem ty_sz130 : szT Try.prog 130 = some 1 := by kernel_rfl
theorem ty_int130 : intT Try.prog 130 = none := by kernel_rfl
theorem ty_ifc130 : ifaceT Try.prog 130 = false := by kernel_rfl
theorem ty_bool130 : boolT Try.prog 130 = false := by kernel_rfl
theorem ty_z130 : zeroT Try.prog 130 = some [.nilFunc] := by kernel_rfl
theorem ty_ag131 : aggT Try.prog 131 = some false := by kernel_rfl
theorem ty_sz131 : szT Try.prog 131 = some 1 := by kernel_rfl
theorem ty_int131 : intT Try.prog 131 = none := by kernel_rfl
theorem ty_ifc131 : ifaceT Try.prog 131 = false := by kernel_rfl
theorem ty_bool131 : boolT Try.prog 131 = false := by kernel_rfl
theorem ty_z131 : zeroT Try.prog 131 = some [.nilFunc] := by kernel_rfl
theorem ty_ag132 : aggT Try.prog 132 = some false := by kernel_rfl
theorem ty_sz132 : szT Try.prog 132 = some 1 := by kernel_rfl
theorem ty_int132 : intT Try.prog 132 = none := by kernel_rfl
theorem ty_ifc132 : ifaceT Try.prog 132 = false := by kernel_rfl
theorem ty_bool132 : boolT Try.prog 132 = false := by kernel_rfl
theorem ty_z132 : zeroT Try.prog 132 = some [.nilFunc] := by kernel_rfl
theorem ty_ag133 : aggT Try.prog 133 = some false := by kernel_rfl
theorem ty_sz133 : szT Try.prog 133 = some 1 := by kernel_rfl
theorem ty_int133 : intT Try.prog 133 = none := by kernel_rfl
theorem ty_ifc133 : ifaceT Try.prog 133 = false := by kernel_rfl
theorem ty_bool133 : boolT Try.prog 133 = false := by kernel_rfl
theorem ty_z133 : zeroT Try.prog 133 = some [.nilFunc] := by kernel_rfl
theorem ty_ag134 : aggT Try.prog 134 = some true := by kernel_rfl
theorem ty_sz134 : szT Try.prog 134 = some 3 := by kernel_rfl
theorem ty_int134 : intT Try.prog 134 = none := by kernel_rfl
theorem ty_ifc134 : ifaceT Try.prog 134 = false := by kernel_rfl
theorem ty_bool134 : boolT Try.prog 134 = false := by kernel_rfl
theorem ty_f134_0 : fieldT Try.prog 134 0 = some (0, 1, false) := by kernel_rfl
theorem ty_f134_1 : fieldT Try.prog 134 1 = some (1, 1, false) := by kernel_rfl
theorem ty_f134_2 : fieldT Try.prog 134 2 = some (2, 1, false) := by kernel_rfl
theorem ty_pl134 : placeT Try.prog 134 = some (fun i => #[(0, 1), (1, 1), (2, 1)][i]?) := by kernel_rfl
theorem ty_z134 : zeroT Try.prog 134 = some [.int .i64 (0), .slice none 0 0, .int .i64 (0)] := by kernel_rfl
theorem ty_ag135 : aggT Try.prog 135 = some true := by kernel_rfl
theorem ty_sz135 : szT Try.prog 135 = some 3 := by kernel_rfl
theorem ty_int135 : intT Try.prog 135 = none := by kernel_rfl
theorem ty_ifc135 : ifaceT Try.prog 135 = false := by kernel_rfl
theorem ty_bool135 : boolT Try.prog 135 = false := by kernel_rfl
theorem ty_f135_0 : fieldT Try.prog 135 0 = some (0, 1, false) := by kernel_rfl
theorem ty_f135_1 : fieldT Try.prog 135 1 = some (1, 1, false) := by kernel_rfl
theorem ty_f135_2 : fieldT Try.prog 135 2 = some (2, 1, false) := by kernel_rfl
theorem ty_pl135 : placeT Try.prog 135 = some (fun i => #[(0, 1), (1, 1), (2, 1)][i]?) := by kernel_rfl
theorem ty_z135 : zeroT Try.prog 135 = some [.int .i64 (0), .slice none 0 0, .int .i64 (0)] := by kernel_rfl
theorem ty_ag137 : aggT Try.prog 137 = some false := by kernel_rfl
theorem ty_sz137 : szT Try.prog 137 = some 1 := by kernel_rfl
theorem ty_int137 : intT Try.prog 137 = none := by kernel_rfl
theorem ty_ifc137 : ifaceT Try.prog 137 = false := by kernel_rfl
theorem ty_bool137 : boolT Try.prog 137 = false := by kernel_rfl
theorem ty_z137 : zeroT Try.prog 137 = some [.nilFunc] := by kernel_rfl
theorem ty_ag138 : aggT Try.prog 138 = some false := by kernel_rfl
theorem ty_sz138 : szT Try.prog 138 = some 1 := by kernel_rfl
theorem ty_int138 : intT Try.prog 138 = none := by kernel_rfl
theorem ty_ifc138 : ifaceT Try.prog 138 = false := by kernel_rfl
theorem ty_bool138 : boolT Try.prog 138 = false := by kernel_rfl
theorem ty_z138 : zeroT Try.prog 138 = some [.nilFunc] := by kernel_rfl
theorem ty_ag139 : aggT Try.prog 139 = some false := by kernel_rfl
theorem ty_sz139 : szT Try.prog 139 = some 1 := by kernel_rfl
theorem ty_int139 : intT Try.prog 139 = none := by kernel_rfl
theorem ty_ifc139 : ifaceT Try.prog 139 = false := by kernel_rfl
theorem ty_bool139 : boolT Try.prog 139 = false := by kernel_rfl
theorem ty_z139 : zeroT Try.prog 139 = some [.nilFunc] := by kernel_rfl
theorem ty_ag140 : aggT Try.prog 140 = some false := by kernel_rfl
theorem ty_sz140 : szT Try.prog 140 = some 1 := by kernel_rfl
theorem ty_int140 : intT Try.prog 140 = none := by kernel_rfl
theorem ty_ifc140 : ifaceT Try.prog 140 = false := by kernel_rfl
theorem ty_bool140 : boolT Try.prog 140 = false := by kernel_rfl
theorem ty_z140 : zeroT Try.prog 140 = some [.nilFunc] := by kernel_rfl
theorem ty_ag141 : aggT Try.prog 141 = some false := by kernel_rfl
theorem ty_sz141 : szT Try.prog 141 = some 1 := by kernel_rfl
theorem ty_int141 : intT Try.prog 141 = none := by kernel_rfl
theorem ty_ifc141 : ifaceT Try.prog 141 = false := by kernel_rfl
theorem ty_bool141 : boolT Try.prog 141 = false := by kernel_rfl
theorem ty_z141 : zeroT Try.prog 141 = some [.nilFunc] := by kernel_rfl
theorem ty_ag142 : aggT Try.prog 142 = some false := by kernel_rfl
theorem ty_sz142 : szT Try.prog 142 = some 1 := by kernel_rfl
theorem ty_int142 : intT Try.prog 142 = none := by kernel_rfl
theorem ty_ifc142 : ifaceT Try.prog 142 = false := by kernel_rfl
theorem ty_bool142 : boolT Try.prog 142 = false := by kernel_rfl
theorem ty_z142 : zeroT Try.prog 142 = some [.nilFunc] := by kernel_rfl
theorem ty_ag144 : aggT Try.prog 144 = some false := by kernel_rfl
theorem ty_sz144 : szT Try.prog 144 = some 1 := by kernel_rfl
theorem ty_int144 : intT Try.prog 144 = none := by kernel_rfl
theorem ty_ifc144 : ifaceT Try.prog 144 = false := by kernel_rfl
theorem ty_bool144 : boolT Try.prog 144 = false := by kernel_rfl
theorem ty_z144 : zeroT Try.prog 144 = some [.nilFunc] := by kernel_rfl
theorem ty_ag145 : aggT Try.prog 145 = some false := by kernel_rfl
theorem ty_sz145 : szT Try.prog 145 = some 1 := by kernel_rfl
theorem ty_int145 : intT Try.prog 145 = none := by kernel_rfl
theorem ty_ifc145 : ifaceT Try.prog 145 = false := by kernel_rfl
theorem ty_bool145 : boolT Try.prog 145 = false := by kernel_rfl
theorem ty_z145 : zeroT Try.prog 145 = some [.nilFunc] := by kernel_rfl
theorem ty_ag146 : aggT Try.prog 146 = some false := by kernel_rfl
theorem ty_sz146 : szT Try.prog 146 = some 1 := by kernel_rfl
theorem ty_int146 : intT Try.prog 146 = none := by kernel_rfl
theorem ty_ifc146 : ifaceT Try.prog 146 = false := by kernel_rfl
theorem ty_bool146 : boolT Try.prog 146 = false := by kernel_rfl
theorem ty_z146 : zeroT Try.prog 146 = some [.nilFunc] := by kernel_rfl
theorem ty_ag147 : aggT Try.prog 147 = some false := by kernel_rfl
theorem ty_sz147 : szT Try.prog 147 = some 1 := by kernel_rfl
theorem ty_int147 : intT Try.prog 147 = none := by kernel_rfl
theorem ty_ifc147 : ifaceT Try.prog 147 = false := by kernel_rfl
theorem ty_bool147 : boolT Try.prog 147 = false := by kernel_rfl
theorem ty_z147 : zeroT Try.prog 147 = some [.nilFunc] := by kernel_rfl
theorem ty_ag148 : aggT Try.prog 148 = some false := by kernel_rfl
theorem ty_sz148 : szT Try.prog 148 = some 1 := by kernel_rfl
theorem ty_int148 : intT Try.prog 148 = none := by kernel_rfl
theorem ty_ifc148 : ifaceT Try.prog 148 = false := by kernel_rfl
theorem ty_bool148 : boolT Try.prog 148 = false := by kernel_rfl
theorem ty_z148 : zeroT Try.prog 148 = some [.nilFunc] := by kernel_rfl
theorem ty_ag149 : aggT Try.prog 149 = some false := by kernel_rfl
theorem ty_sz149 : szT Try.prog 149 = some 1 := by kernel_rfl
theorem ty_int149 : intT Try.prog 149 = none := by kernel_rfl
theorem ty_ifc149 : ifaceT Try.prog 149 = false := by kernel_rfl
theorem ty_bool149 : boolT Try.prog 149 = false := by kernel_rfl
theorem ty_z149 : zeroT Try.prog 149 = some [.nilFunc] := by kernel_rfl
theorem ty_ag150 : aggT Try.prog 150 = some false := by kernel_rfl
theorem ty_sz150 : szT Try.prog 150 = some 1 := by kernel_rfl
theorem ty_int150 : intT Try.prog 150 = none := by kernel_rfl
theorem ty_ifc150 : ifaceT Try.prog 150 = false := by kernel_rfl
theorem ty_bool150 : boolT Try.prog 150 = false := by kernel_rfl
theorem ty_z150 : zeroT Try.prog 150 = some [.nilFunc] := by kernel_rfl
theorem ty_ag151 : aggT Try.prog 151 = some false := by kernel_rfl
theorem ty_sz151 : szT Try.prog 151 = some 1 := by kernel_rfl
theorem ty_int151 : intT Try.prog 151 = none := by kernel_rfl
theorem ty_ifc151 : ifaceT Try.prog 151 = false := by kernel_rfl
theorem ty_m151_0 : methA Try.prog 151 "plugboard/controls.begun" = some 62 := by kernel_rfl
theorem ty_k151_0 : nilOk Try.prog 151 "plugboard/controls.begun" = true := by kernel_rfl
theorem ty_m151_1 : methA Try.prog 151 "plugboard/controls.end" = some 61 := by kernel_rfl
theorem ty_k151_1 : nilOk Try.prog 151 "plugboard/controls.end" = true := by kernel_rfl
theorem ty_m151_2 : methA Try.prog 151 "plugboard/controls.finished" = some 64 := by kernel_rfl
theorem ty_k151_2 : nilOk Try.prog 151 "plugboard/controls.finished" = true := by kernel_rfl
theorem ty_m151_3 : methA Try.prog 151 "plugboard/controls.moved" = some 63 := by kernel_rfl
theorem ty_k151_3 : nilOk Try.prog 151 "plugboard/controls.moved" = true := by kernel_rfl
theorem ty_bool151 : boolT Try.prog 151 = false := by kernel_rfl
theorem ty_z151 : zeroT Try.prog 151 = some [.pointer none] := by kernel_rfl
theorem ty_ag152 : aggT Try.prog 152 = some true := by kernel_rfl
theorem ty_sz152 : szT Try.prog 152 = some 4 := by kernel_rfl
theorem ty_int152 : intT Try.prog 152 = none := by kernel_rfl
theorem ty_ifc152 : ifaceT Try.prog 152 = false := by kernel_rfl
theorem ty_bool152 : boolT Try.prog 152 = false := by kernel_rfl
theorem ty_arr152 : arrT Try.prog 152 = some (4, 149, 1, false) := by kernel_rfl
theorem ty_pl152 : placeT Try.prog 152 = some (fun i => some (i * 1, 1)) := by kernel_rfl
theorem ty_z152 : zeroT Try.prog 152 = some [.nilFunc, .nilFunc, .nilFunc, .nilFunc] := by kernel_rfl
theorem ty_ag153 : aggT Try.prog 153 = some false := by kernel_rfl
theorem ty_sz153 : szT Try.prog 153 = some 1 := by kernel_rfl
theorem ty_int153 : intT Try.prog 153 = none := by kernel_rfl
theorem ty_ifc153 : ifaceT Try.prog 153 = false := by kernel_rfl
theorem ty_bool153 : boolT Try.prog 153 = false := by kernel_rfl
theorem ty_z153 : zeroT Try.prog 153 = some [.nilFunc] := by kernel_rfl
theorem ty_ag154 : aggT Try.prog 154 = some false := by kernel_rfl
theorem ty_sz154 : szT Try.prog 154 = some 1 := by kernel_rfl
theorem ty_int154 : intT Try.prog 154 = none := by kernel_rfl
theorem ty_ifc154 : ifaceT Try.prog 154 = false := by kernel_rfl
theorem ty_bool154 : boolT Try.prog 154 = false := by kernel_rfl
theorem ty_elem154 : elemT Try.prog 154 = some (24, 5, true) := by kernel_rfl
theorem ty_app154 : appT Try.prog 154 = some (24, 5, 8) := by kernel_rfl
theorem ty_z154 : zeroT Try.prog 154 = some [.slice none 0 0] := by kernel_rfl
theorem ty_ag155 : aggT Try.prog 155 = some false := by kernel_rfl
theorem ty_sz155 : szT Try.prog 155 = some 1 := by kernel_rfl
theorem ty_int155 : intT Try.prog 155 = none := by kernel_rfl
theorem ty_ifc155 : ifaceT Try.prog 155 = false := by kernel_rfl
theorem ty_bool155 : boolT Try.prog 155 = false := by kernel_rfl
theorem ty_elem155 : elemT Try.prog 155 = some (9, 1, false) := by kernel_rfl
theorem ty_app155 : appT Try.prog 155 = some (9, 1, 16) := by kernel_rfl
theorem ty_z155 : zeroT Try.prog 155 = some [.slice none 0 0] := by kernel_rfl
theorem ty_ag156 : aggT Try.prog 156 = some false := by kernel_rfl
theorem ty_sz156 : szT Try.prog 156 = some 1 := by kernel_rfl
theorem ty_int156 : intT Try.prog 156 = none := by kernel_rfl
theorem ty_ifc156 : ifaceT Try.prog 156 = false := by kernel_rfl
theorem ty_bool156 : boolT Try.prog 156 = false := by kernel_rfl
theorem ty_z156 : zeroT Try.prog 156 = some [.nilFunc] := by kernel_rfl
theorem ty_ag157 : aggT Try.prog 157 = some false := by kernel_rfl
theorem ty_sz157 : szT Try.prog 157 = some 1 := by kernel_rfl
theorem ty_int157 : intT Try.prog 157 = none := by kernel_rfl
theorem ty_ifc157 : ifaceT Try.prog 157 = false := by kernel_rfl
theorem ty_bool157 : boolT Try.prog 157 = false := by kernel_rfl
theorem ty_z157 : zeroT Try.prog 157 = some [.nilFunc] := by kernel_rfl
theorem ty_ag158 : aggT Try.prog 158 = some false := by kernel_rfl
theorem ty_sz158 : szT Try.prog 158 = some 1 := by kernel_rfl
theorem ty_int158 : intT Try.prog 158 = none := by kernel_rfl
theorem ty_ifc158 : ifaceT Try.prog 158 = false := by kernel_rfl
theorem ty_bool158 : boolT Try.prog 158 = false := by kernel_rfl
theorem ty_z158 : zeroT Try.prog 158 = some [.nilFunc] := by kernel_rfl
theorem ty_ag159 : aggT Try.prog 159 = some false := by kernel_rfl
theorem ty_sz159 : szT Try.prog 159 = some 1 := by kernel_rfl
theorem ty_int159 : intT Try.prog 159 = none := by kernel_rfl
theorem ty_ifc159 : ifaceT Try.prog 159 = false := by kernel_rfl
theorem ty_bool159 : boolT Try.prog 159 = false := by kernel_rfl
theorem ty_z159 : zeroT Try.prog 159 = some [.nilFunc] := by kernel_rfl
theorem ty_ag160 : aggT Try.prog 160 = some false := by kernel_rfl
theorem ty_sz160 : szT Try.prog 160 = some 1 := by kernel_rfl
theorem ty_int160 : intT Try.prog 160 = none := by kernel_rfl
theorem ty_ifc160 : ifaceT Try.prog 160 = false := by kernel_rfl
theorem ty_bool160 : boolT Try.prog 160 = false := by kernel_rfl
theorem ty_z160 : zeroT Try.prog 160 = some [.nilFunc] := by kernel_rfl
theorem ty_ag161 : aggT Try.prog 161 = some false := by kernel_rfl
theorem ty_sz161 : szT Try.prog 161 = some 1 := by kernel_rfl
theorem ty_int161 : intT Try.prog 161 = none := by kernel_rfl
theorem ty_ifc161 : ifaceT Try.prog 161 = false := by kernel_rfl
theorem ty_bool161 : boolT Try.prog 161 = false := by kernel_rfl
theorem ty_z161 : zeroT Try.prog 161 = some [.nilFunc] := by kernel_rfl
theorem ty_ag162 : aggT Try.prog 162 = some false := by kernel_rfl
theorem ty_sz162 : szT Try.prog 162 = some 1 := by kernel_rfl
theorem ty_int162 : intT Try.prog 162 = none := by kernel_rfl
theorem ty_ifc162 : ifaceT Try.prog 162 = true := by kernel_rfl
theorem ty_bool162 : boolT Try.prog 162 = false := by kernel_rfl
theorem ty_z162 : zeroT Try.prog 162 = some [.nilIface] := by kernel_rfl
theorem ty_ag163 : aggT Try.prog 163 = some false := by kernel_rfl
theorem ty_sz163 : szT Try.prog 163 = some 1 := by kernel_rfl
theorem ty_int163 : intT Try.prog 163 = none := by kernel_rfl
theorem ty_ifc163 : ifaceT Try.prog 163 = true := by kernel_rfl
theorem ty_bool163 : boolT Try.prog 163 = false := by kernel_rfl
theorem ty_z163 : zeroT Try.prog 163 = some [.nilIface] := by kernel_rfl
theorem ty_ag164 : aggT Try.prog 164 = some false := by kernel_rfl
theorem ty_sz164 : szT Try.prog 164 = some 1 := by kernel_rfl
theorem ty_int164 : intT Try.prog 164 = none := by kernel_rfl
theorem ty_ifc164 : ifaceT Try.prog 164 = true := by kernel_rfl
theorem ty_bool164 : boolT Try.prog 164 = false := by kernel_rfl
theorem ty_z164 : zeroT Try.prog 164 = some [.nilIface] := by kernel_rfl
theorem ty_ag165 : aggT Try.prog 165 = some false := by kernel_rfl
theorem ty_sz165 : szT Try.prog 165 = some 1 := by kernel_rfl
theorem ty_int165 : intT Try.prog 165 = none := by kernel_rfl
theorem ty_ifc165 : ifaceT Try.prog 165 = true := by kernel_rfl
theorem ty_bool165 : boolT Try.prog 165 = false := by kernel_rfl
theorem ty_z165 : zeroT Try.prog 165 = some [.nilIface] := by kernel_rfl
theorem ty_ag166 : aggT Try.prog 166 = some false := by kernel_rfl
theorem ty_sz166 : szT Try.prog 166 = some 1 := by kernel_rfl
theorem ty_int166 : intT Try.prog 166 = none := by kernel_rfl
theorem ty_ifc166 : ifaceT Try.prog 166 = false := by kernel_rfl
theorem ty_bool166 : boolT Try.prog 166 = false := by kernel_rfl
theorem ty_z166 : zeroT Try.prog 166 = some [.nilFunc] := by kernel_rfl
theorem ty_ag167 : aggT Try.prog 167 = some false := by kernel_rfl
theorem ty_sz167 : szT Try.prog 167 = some 1 := by kernel_rfl
theorem ty_int167 : intT Try.prog 167 = none := by kernel_rfl
theorem ty_ifc167 : ifaceT Try.prog 167 = false := by kernel_rfl
theorem ty_bool167 : boolT Try.prog 167 = false := by kernel_rfl
theorem ty_elem167 : elemT Try.prog 167 = some (173, 1, false) := by kernel_rfl
theorem ty_app167 : appT Try.prog 167 = some (173, 1, 1) := by kernel_rfl
theorem ty_z167 : zeroT Try.prog 167 = some [.slice none 0 0] := by kernel_rfl
theorem ty_ag168 : aggT Try.prog 168 = some false := by kernel_rfl
theorem ty_sz168 : szT Try.prog 168 = some 1 := by kernel_rfl
theorem ty_int168 : intT Try.prog 168 = none := by kernel_rfl
theorem ty_ifc168 : ifaceT Try.prog 168 = false := by kernel_rfl
theorem ty_bool168 : boolT Try.prog 168 = false := by kernel_rfl
theorem ty_z168 : zeroT Try.prog 168 = some [.nilFunc] := by kernel_rfl
theorem ty_ag169 : aggT Try.prog 169 = some false := by kernel_rfl
theorem ty_sz169 : szT Try.prog 169 = some 1 := by kernel_rfl
theorem ty_int169 : intT Try.prog 169 = none := by kernel_rfl
theorem ty_ifc169 : ifaceT Try.prog 169 = false := by kernel_rfl
theorem ty_bool169 : boolT Try.prog 169 = false := by kernel_rfl
theorem ty_z169 : zeroT Try.prog 169 = some [.nilFunc] := by kernel_rfl
theorem ty_ag170 : aggT Try.prog 170 = some false := by kernel_rfl
theorem ty_sz170 : szT Try.prog 170 = some 1 := by kernel_rfl
theorem ty_int170 : intT Try.prog 170 = none := by kernel_rfl
theorem ty_ifc170 : ifaceT Try.prog 170 = false := by kernel_rfl
theorem ty_bool170 : boolT Try.prog 170 = false := by kernel_rfl
theorem ty_z170 : zeroT Try.prog 170 = some [.nilFunc] := by kernel_rfl
theorem ty_ag172 : aggT Try.prog 172 = some false := by kernel_rfl
theorem ty_sz172 : szT Try.prog 172 = some 1 := by kernel_rfl
theorem ty_int172 : intT Try.prog 172 = none := by kernel_rfl
theorem ty_ifc172 : ifaceT Try.prog 172 = false := by kernel_rfl
theorem ty_bool172 : boolT Try.prog 172 = false := by kernel_rfl
theorem ty_z172 : zeroT Try.prog 172 = some [.nilFunc] := by kernel_rfl
theorem ty_ag173 : aggT Try.prog 173 = some false := by kernel_rfl
theorem ty_sz173 : szT Try.prog 173 = some 1 := by kernel_rfl
theorem ty_int173 : intT Try.prog 173 = some .u8 := by kernel_rfl
theorem ty_ifc173 : ifaceT Try.prog 173 = false := by kernel_rfl
theorem ty_bool173 : boolT Try.prog 173 = false := by kernel_rfl
theorem ty_z173 : zeroT Try.prog 173 = some [.int .u8 (0)] := by kernel_rfl
theorem ty_ag174 : aggT Try.prog 174 = some true := by kernel_rfl
theorem ty_sz174 : szT Try.prog 174 = some 12 := by kernel_rfl
theorem ty_int174 : intT Try.prog 174 = none := by kernel_rfl
theorem ty_ifc174 : ifaceT Try.prog 174 = false := by kernel_rfl
theorem ty_bool174 : boolT Try.prog 174 = false := by kernel_rfl
theorem ty_f174_0 : fieldT Try.prog 174 0 = some (0, 10, true) := by kernel_rfl
theorem ty_f174_1 : fieldT Try.prog 174 1 = some (10, 1, false) := by kernel_rfl
theorem ty_f174_2 : fieldT Try.prog 174 2 = some (11, 1, false) := by kernel_rfl
theorem ty_pl174 : placeT Try.prog 174 = some (fun i => #[(0, 10), (10, 1), (11, 1)][i]?) := by kernel_rfl
theorem ty_z174 : zeroT Try.prog 174 = some [.int .u8 (0), .int .u8 (0), .int .u8 (0), .int .u16 (0), .int .u8 (0), .int .u8 (0), .bool false, .bool false, .int .u8 (0), .slice none 0 0, .bool false, .int .u8 (0)] := by kernel_rfl
theorem ty_ag175 : aggT Try.prog 175 = some true := by kernel_rfl
theorem ty_sz175 : szT Try.prog 175 = some 12 := by kernel_rfl
theorem ty_int175 : intT Try.prog 175 = none := by kernel_rfl
theorem ty_ifc175 : ifaceT Try.prog 175 = false := by kernel_rfl
theorem ty_bool175 : boolT Try.prog 175 = false := by kernel_rfl
theorem ty_f175_0 : fieldT Try.prog 175 0 = some (0, 10, true) := by kernel_rfl
theorem ty_f175_1 : fieldT Try.prog 175 1 = some (10, 1, false) := by kernel_rfl
theorem ty_f175_2 : fieldT Try.prog 175 2 = some (11, 1, false) := by kernel_rfl
theorem ty_pl175 : placeT Try.prog 175 = some (fun i => #[(0, 10), (10, 1), (11, 1)][i]?) := by kernel_rfl
theorem ty_z175 : zeroT Try.prog 175 = some [.int .u8 (0), .int .u8 (0), .int .u8 (0), .int .u16 (0), .int .u8 (0), .int .u8 (0), .bool false, .bool false, .int .u8 (0), .slice none 0 0, .bool false, .int .u8 (0)] := by kernel_rfl
theorem ty_ag176 : aggT Try.prog 176 = some false := by kernel_rfl
theorem ty_sz176 : szT Try.prog 176 = some 1 := by kernel_rfl
theorem ty_int176 : intT Try.prog 176 = none := by kernel_rfl
theorem ty_ifc176 : ifaceT Try.prog 176 = false := by kernel_rfl
theorem ty_bool176 : boolT Try.prog 176 = false := by kernel_rfl
theorem ty_z176 : zeroT Try.prog 176 = some [.nilFunc] := by kernel_rfl
theorem ty_ag177 : aggT Try.prog 177 = some false := by kernel_rfl
theorem ty_sz177 : szT Try.prog 177 = some 1 := by kernel_rfl
theorem ty_int177 : intT Try.prog 177 = none := by kernel_rfl
theorem ty_ifc177 : ifaceT Try.prog 177 = false := by kernel_rfl
theorem ty_bool177 : boolT Try.prog 177 = false := by kernel_rfl
theorem ty_z177 : zeroT Try.prog 177 = some [.nilFunc] := by kernel_rfl
theorem ty_ag178 : aggT Try.prog 178 = some false := by kernel_rfl
theorem ty_sz178 : szT Try.prog 178 = some 1 := by kernel_rfl
theorem ty_int178 : intT Try.prog 178 = none := by kernel_rfl
theorem ty_ifc178 : ifaceT Try.prog 178 = false := by kernel_rfl
theorem ty_m178_0 : methA Try.prog 178 "plugboard/toggles.acknowledged" = some 86 := by kernel_rfl
theorem ty_k178_0 : nilOk Try.prog 178 "plugboard/toggles.acknowledged" = true := by kernel_rfl
theorem ty_m178_1 : methA Try.prog 178 "plugboard/toggles.copied" = some 87 := by kernel_rfl
theorem ty_k178_1 : nilOk Try.prog 178 "plugboard/toggles.copied" = true := by kernel_rfl
theorem ty_m178_2 : methA Try.prog 178 "plugboard/toggles.hear" = some 170 := by kernel_rfl
theorem ty_k178_2 : nilOk Try.prog 178 "plugboard/toggles.hear" = true := by kernel_rfl
theorem ty_bool178 : boolT Try.prog 178 = false := by kernel_rfl
theorem ty_z178 : zeroT Try.prog 178 = some [.pointer none] := by kernel_rfl
theorem ty_ag179 : aggT Try.prog 179 = some false := by kernel_rfl
theorem ty_sz179 : szT Try.prog 179 = some 1 := by kernel_rfl
theorem ty_int179 : intT Try.prog 179 = none := by kernel_rfl
theorem ty_ifc179 : ifaceT Try.prog 179 = false := by kernel_rfl
theorem ty_bool179 : boolT Try.prog 179 = false := by kernel_rfl
theorem ty_z179 : zeroT Try.prog 179 = some [.nilFunc] := by kernel_rfl
theorem ty_ag181 : aggT Try.prog 181 = some false := by kernel_rfl
theorem ty_sz181 : szT Try.prog 181 = some 1 := by kernel_rfl
theorem ty_int181 : intT Try.prog 181 = none := by kernel_rfl
theorem ty_ifc181 : ifaceT Try.prog 181 = false := by kernel_rfl
theorem ty_bool181 : boolT Try.prog 181 = false := by kernel_rfl
theorem ty_z181 : zeroT Try.prog 181 = some [.nilFunc] := by kernel_rfl
theorem ty_ag182 : aggT Try.prog 182 = some false := by kernel_rfl
theorem ty_sz182 : szT Try.prog 182 = some 1 := by kernel_rfl
theorem ty_int182 : intT Try.prog 182 = none := by kernel_rfl
theorem ty_ifc182 : ifaceT Try.prog 182 = false := by kernel_rfl
theorem ty_m182_0 : methA Try.prog 182 "Hear" = some 172 := by kernel_rfl
theorem ty_k182_0 : nilOk Try.prog 182 "Hear" = true := by kernel_rfl
theorem ty_bool182 : boolT Try.prog 182 = false := by kernel_rfl
theorem ty_z182 : zeroT Try.prog 182 = some [.nilFunc] := by kernel_rfl
theorem ty_ag184 : aggT Try.prog 184 = some false := by kernel_rfl
theorem ty_sz184 : szT Try.prog 184 = some 1 := by kernel_rfl
theorem ty_int184 : intT Try.prog 184 = none := by kernel_rfl
theorem ty_ifc184 : ifaceT Try.prog 184 = false := by kernel_rfl
theorem ty_bool184 : boolT Try.prog 184 = false := by kernel_rfl
theorem ty_z184 : zeroT Try.prog 184 = some [.nilFunc] := by kernel_rfl
theorem ty_ag185 : aggT Try.prog 185 = some true := by kernel_rfl
theorem ty_sz185 : szT Try.prog 185 = some 4 := by kernel_rfl
theorem ty_int185 : intT Try.prog 185 = none := by kernel_rfl
theorem ty_eq185 : eqT Try.prog 185 = some [true, false, true, true] := by kernel_rfl
theorem ty_ifc185 : ifaceT Try.prog 185 = false := by kernel_rfl
theorem ty_bool185 : boolT Try.prog 185 = false := by kernel_rfl
theorem ty_f185_0 : fieldT Try.prog 185 0 = some (0, 1, false) := by kernel_rfl
theorem ty_f185_1 : fieldT Try.prog 185 1 = some (1, 1, false) := by kernel_rfl
theorem ty_f185_2 : fieldT Try.prog 185 2 = some (2, 1, false) := by kernel_rfl
theorem ty_f185_3 : fieldT Try.prog 185 3 = some (3, 1, false) := by kernel_rfl
theorem ty_pl185 : placeT Try.prog 185 = some (fun i => #[(0, 1), (1, 1), (2, 1), (3, 1)][i]?) := by kernel_rfl
theorem ty_z185 : zeroT Try.prog 185 = some [.int .u8 (0), .bool false, .int .u8 (0), .int .i64 (0)] := by kernel_rfl
theorem ty_ag186 : aggT Try.prog 186 = some true := by kernel_rfl
theorem ty_sz186 : szT Try.prog 186 = some 4 := by kernel_rfl
theorem ty_int186 : intT Try.prog 186 = none := by kernel_rfl
theorem ty_eq186 : eqT Try.prog 186 = some [true, false, true, true] := by kernel_rfl
theorem ty_ifc186 : ifaceT Try.prog 186 = false := by kernel_rfl
theorem ty_bool186 : boolT Try.prog 186 = false := by kernel_rfl
theorem ty_f186_0 : fieldT Try.prog 186 0 = some (0, 1, false) := by kernel_rfl
theorem ty_f186_1 : fieldT Try.prog 186 1 = some (1, 1, false) := by kernel_rfl
theorem ty_f186_2 : fieldT Try.prog 186 2 = some (2, 1, false) := by kernel_rfl
theorem ty_f186_3 : fieldT Try.prog 186 3 = some (3, 1, false) := by kernel_rfl
theorem ty_pl186 : placeT Try.prog 186 = some (fun i => #[(0, 1), (1, 1), (2, 1), (3, 1)][i]?) := by kernel_rfl
theorem ty_z186 : zeroT Try.prog 186 = some [.int .u8 (0), .bool false, .int .u8 (0), .int .i64 (0)] := by kernel_rfl
theorem ty_ag187 : aggT Try.prog 187 = some false := by kernel_rfl
theorem ty_sz187 : szT Try.prog 187 = some 1 := by kernel_rfl
theorem ty_int187 : intT Try.prog 187 = none := by kernel_rfl
theorem ty_ifc187 : ifaceT Try.prog 187 = false := by kernel_rfl
theorem ty_bool187 : boolT Try.prog 187 = false := by kernel_rfl
theorem ty_z187 : zeroT Try.prog 187 = some [.nilFunc] := by kernel_rfl
theorem ty_ag189 : aggT Try.prog 189 = some false := by kernel_rfl
theorem ty_sz189 : szT Try.prog 189 = some 1 := by kernel_rfl
theorem ty_int189 : intT Try.prog 189 = none := by kernel_rfl
theorem ty_ifc189 : ifaceT Try.prog 189 = false := by kernel_rfl
theorem ty_bool189 : boolT Try.prog 189 = false := by kernel_rfl
theorem ty_z189 : zeroT Try.prog 189 = some [.nilFunc] := by kernel_rfl
theorem ty_ag190 : aggT Try.prog 190 = some true := by kernel_rfl
theorem ty_sz190 : szT Try.prog 190 = some 1 := by kernel_rfl
theorem ty_int190 : intT Try.prog 190 = none := by kernel_rfl
theorem ty_ifc190 : ifaceT Try.prog 190 = false := by kernel_rfl
theorem ty_bool190 : boolT Try.prog 190 = false := by kernel_rfl
theorem ty_f190_0 : fieldT Try.prog 190 0 = some (0, 1, false) := by kernel_rfl
theorem ty_pl190 : placeT Try.prog 190 = some (fun i => #[(0, 1)][i]?) := by kernel_rfl
theorem ty_z190 : zeroT Try.prog 190 = some [.slice none 0 0] := by kernel_rfl
theorem ty_ag191 : aggT Try.prog 191 = some true := by kernel_rfl
theorem ty_sz191 : szT Try.prog 191 = some 1 := by kernel_rfl
theorem ty_int191 : intT Try.prog 191 = none := by kernel_rfl
theorem ty_ifc191 : ifaceT Try.prog 191 = false := by kernel_rfl
theorem ty_bool191 : boolT Try.prog 191 = false := by kernel_rfl
theorem ty_f191_0 : fieldT Try.prog 191 0 = some (0, 1, false) := by kernel_rfl
theorem ty_pl191 : placeT Try.prog 191 = some (fun i => #[(0, 1)][i]?) := by kernel_rfl
theorem ty_z191 : zeroT Try.prog 191 = some [.slice none 0 0] := by kernel_rfl
theorem ty_ag192 : aggT Try.prog 192 = some true := by kernel_rfl
theorem ty_sz192 : szT Try.prog 192 = some 2 := by kernel_rfl
theorem ty_int192 : intT Try.prog 192 = none := by kernel_rfl
theorem ty_ifc192 : ifaceT Try.prog 192 = false := by kernel_rfl
theorem ty_bool192 : boolT Try.prog 192 = false := by kernel_rfl
theorem ty_f192_0 : fieldT Try.prog 192 0 = some (0, 1, false) := by kernel_rfl
theorem ty_f192_1 : fieldT Try.prog 192 1 = some (1, 1, false) := by kernel_rfl
theorem ty_pl192 : placeT Try.prog 192 = some (fun i => #[(0, 1), (1, 1)][i]?) := by kernel_rfl
theorem ty_z192 : zeroT Try.prog 192 = some [.int .i64 (0), .slice none 0 0] := by kernel_rfl
theorem ty_ag193 : aggT Try.prog 193 = some true := by kernel_rfl
theorem ty_sz193 : szT Try.prog 193 = some 2 := by kernel_rfl
theorem ty_int193 : intT Try.prog 193 = none := by kernel_rfl
theorem ty_ifc193 : ifaceT Try.prog 193 = false := by kernel_rfl
theorem ty_bool193 : boolT Try.prog 193 = false := by kernel_rfl
theorem ty_f193_0 : fieldT Try.prog 193 0 = some (0, 1, false) := by kernel_rfl
theorem ty_f193_1 : fieldT Try.prog 193 1 = some (1, 1, false) := by kernel_rfl
theorem ty_pl193 : placeT Try.prog 193 = some (fun i => #[(0, 1), (1, 1)][i]?) := by kernel_rfl
theorem ty_z193 : zeroT Try.prog 193 = some [.int .i64 (0), .slice none 0 0] := by kernel_rfl
theorem ty_ag194 : aggT Try.prog 194 = some true := by kernel_rfl
theorem ty_sz194 : szT Try.prog 194 = some 9 := by kernel_rfl
theorem ty_int194 : intT Try.prog 194 = none := by kernel_rfl
theorem ty_ifc194 : ifaceT Try.prog 194 = false := by kernel_rfl
theorem ty_bool194 : boolT Try.prog 194 = false := by kernel_rfl
theorem ty_f194_0 : fieldT Try.prog 194 0 = some (0, 1, true) := by kernel_rfl
theorem ty_f194_1 : fieldT Try.prog 194 1 = some (1, 2, true) := by kernel_rfl
theorem ty_f194_2 : fieldT Try.prog 194 2 = some (3, 4, true) := by kernel_rfl
theorem ty_f194_3 : fieldT Try.prog 194 3 = some (7, 1, false) := by kernel_rfl
theorem ty_f194_4 : fieldT Try.prog 194 4 = some (8, 1, false) := by kernel_rfl
theorem ty_pl194 : placeT Try.prog 194 = some (fun i => #[(0, 1), (1, 2), (3, 4), (7, 1), (8, 1)][i]?) := by kernel_rfl
theorem ty_z194 : zeroT Try.prog 194 = some [.slice none 0 0, .int .i64 (0), .slice none 0 0, .int .u8 (0), .bool false, .int .u8 (0), .int .i64 (0), .bool false, .bool false] := by kernel_rfl
theorem ty_ag195 : aggT Try.prog 195 = some true := by kernel_rfl
theorem ty_sz195 : szT Try.prog 195 = some 9 := by kernel_rfl
theorem ty_int195 : intT Try.prog 195 = none := by kernel_rfl
theorem ty_ifc195 : ifaceT Try.prog 195 = false := by kernel_rfl
theorem ty_bool195 : boolT Try.prog 195 = false := by kernel_rfl
theorem ty_f195_0 : fieldT Try.prog 195 0 = some (0, 1, true) := by kernel_rfl
theorem ty_f195_1 : fieldT Try.prog 195 1 = some (1, 2, true) := by kernel_rfl
theorem ty_f195_2 : fieldT Try.prog 195 2 = some (3, 4, true) := by kernel_rfl
theorem ty_f195_3 : fieldT Try.prog 195 3 = some (7, 1, false) := by kernel_rfl
theorem ty_f195_4 : fieldT Try.prog 195 4 = some (8, 1, false) := by kernel_rfl
theorem ty_pl195 : placeT Try.prog 195 = some (fun i => #[(0, 1), (1, 2), (3, 4), (7, 1), (8, 1)][i]?) := by kernel_rfl
theorem ty_z195 : zeroT Try.prog 195 = some [.slice none 0 0, .int .i64 (0), .slice none 0 0, .int .u8 (0), .bool false, .int .u8 (0), .int .i64 (0), .bool false, .bool false] := by kernel_rfl
theorem ty_ag196 : aggT Try.prog 196 = some false := by kernel_rfl
theorem ty_sz196 : szT Try.prog 196 = some 1 := by kernel_rfl
theorem ty_int196 : intT Try.prog 196 = none := by kernel_rfl
theorem ty_ifc196 : ifaceT Try.prog 196 = false := by kernel_rfl
theorem ty_bool196 : boolT Try.prog 196 = false := by kernel_rfl
theorem ty_z196 : zeroT Try.prog 196 = some [.nilFunc] := by kernel_rfl
theorem ty_ag197 : aggT Try.prog 197 = some true := by kernel_rfl
theorem ty_sz197 : szT Try.prog 197 = some 1 := by kernel_rfl
theorem ty_int197 : intT Try.prog 197 = none := by kernel_rfl
theorem ty_ifc197 : ifaceT Try.prog 197 = false := by kernel_rfl
theorem ty_bool197 : boolT Try.prog 197 = false := by kernel_rfl
theorem ty_f197_0 : fieldT Try.prog 197 0 = some (0, 1, false) := by kernel_rfl
theorem ty_pl197 : placeT Try.prog 197 = some (fun i => #[(0, 1)][i]?) := by kernel_rfl
theorem ty_z197 : zeroT Try.prog 197 = some [.nilFunc] := by kernel_rfl
theorem ty_ag198 : aggT Try.prog 198 = some true := by kernel_rfl
theorem ty_sz198 : szT Try.prog 198 = some 1 := by kernel_rfl
theorem ty_int198 : intT Try.prog 198 = none := by kernel_rfl
theorem ty_ifc198 : ifaceT Try.prog 198 = false := by kernel_rfl
theorem ty_bool198 : boolT Try.prog 198 = false := by kernel_rfl
theorem ty_f198_0 : fieldT Try.prog 198 0 = some (0, 1, false) := by kernel_rfl
theorem ty_pl198 : placeT Try.prog 198 = some (fun i => #[(0, 1)][i]?) := by kernel_rfl
theorem ty_z198 : zeroT Try.prog 198 = some [.nilFunc] := by kernel_rfl
theorem ty_ag199 : aggT Try.prog 199 = some false := by kernel_rfl
theorem ty_sz199 : szT Try.prog 199 = some 1 := by kernel_rfl
theorem ty_int199 : intT Try.prog 199 = none := by kernel_rfl
theorem ty_ifc199 : ifaceT Try.prog 199 = false := by kernel_rfl
theorem ty_m199_0 : methA Try.prog 199 "plugboard/bulks.end" = some 96 := by kernel_rfl
theorem ty_k199_0 : nilOk Try.prog 199 "plugboard/bulks.end" = true := by kernel_rfl
theorem ty_m199_1 : methA Try.prog 199 "plugboard/bulks.idle" = some 92 := by kernel_rfl
theorem ty_k199_1 : nilOk Try.prog 199 "plugboard/bulks.idle" = true := by kernel_rfl
theorem ty_bool199 : boolT Try.prog 199 = false := by kernel_rfl
theorem ty_z199 : zeroT Try.prog 199 = some [.pointer none] := by kernel_rfl
theorem ty_ag200 : aggT Try.prog 200 = some false := by kernel_rfl
theorem ty_sz200 : szT Try.prog 200 = some 1 := by kernel_rfl
theorem ty_int200 : intT Try.prog 200 = none := by kernel_rfl
theorem ty_ifc200 : ifaceT Try.prog 200 = false := by kernel_rfl
theorem ty_bool200 : boolT Try.prog 200 = false := by kernel_rfl
theorem ty_z200 : zeroT Try.prog 200 = some [.nilFunc] := by kernel_rfl
theorem ty_ag201 : aggT Try.prog 201 = some false := by kernel_rfl
theorem ty_sz201 : szT Try.prog 201 = some 1 := by kernel_rfl
theorem ty_int201 : intT Try.prog 201 = none := by kernel_rfl
theorem ty_ifc201 : ifaceT Try.prog 201 = false := by kernel_rfl
theorem ty_bool201 : boolT Try.prog 201 = false := by kernel_rfl
theorem ty_z201 : zeroT Try.prog 201 = some [.nilFunc] := by kernel_rfl
theorem ty_ag202 : aggT Try.prog 202 = some true := by kernel_rfl
theorem ty_sz202 : szT Try.prog 202 = some 8 := by kernel_rfl
theorem ty_int202 : intT Try.prog 202 = none := by kernel_rfl
theorem ty_ifc202 : ifaceT Try.prog 202 = false := by kernel_rfl
theorem ty_bool202 : boolT Try.prog 202 = false := by kernel_rfl
theorem ty_arr202 : arrT Try.prog 202 = some (8, 5, 1, false) := by kernel_rfl
theorem ty_pl202 : placeT Try.prog 202 = some (fun i => some (i * 1, 1)) := by kernel_rfl
theorem ty_z202 : zeroT Try.prog 202 = some [.int .u8 (0), .int .u8 (0), .int .u8 (0), .int .u8 (0), .int .u8 (0), .int .u8 (0), .int .u8 (0), .int .u8 (0)] := by kernel_rfl
theorem ty_ag203 : aggT Try.prog 203 = some true := by kernel_rfl
theorem ty_sz203 : szT Try.prog 203 = some 3 := by kernel_rfl
theorem ty_int203 : intT Try.prog 203 = none := by kernel_rfl
theorem ty_ifc203 : ifaceT Try.prog 203 = false := by kernel_rfl
theorem ty_bool203 : boolT Try.prog 203 = false := by kernel_rfl
theorem ty_arr203 : arrT Try.prog 203 = some (3, 22, 1, false) := by kernel_rfl
theorem ty_pl203 : placeT Try.prog 203 = some (fun i => some (i * 1, 1)) := by kernel_rfl
theorem ty_z203 : zeroT Try.prog 203 = some [.int .u16 (0), .int .u16 (0), .int .u16 (0)] := by kernel_rfl
theorem ty_ag204 : aggT Try.prog 204 = some false := by kernel_rfl
theorem ty_sz204 : szT Try.prog 204 = some 1 := by kernel_rfl
theorem ty_int204 : intT Try.prog 204 = some .u64 := by kernel_rfl
theorem ty_ifc204 : ifaceT Try.prog 204 = false := by kernel_rfl
theorem ty_bool204 : boolT Try.prog 204 = false := by kernel_rfl
theorem ty_z204 : zeroT Try.prog 204 = some [.int .u64 (0)] := by kernel_rfl
theorem ty_ag206 : aggT Try.prog 206 = some false := by kernel_rfl
theorem ty_sz206 : szT Try.prog 206 = some 1 := by kernel_rfl
theorem ty_int206 : intT Try.prog 206 = none := by kernel_rfl
theorem ty_ifc206 : ifaceT Try.prog 206 = false := by kernel_rfl
theorem ty_bool206 : boolT Try.prog 206 = false := by kernel_rfl
theorem ty_z206 : zeroT Try.prog 206 = some [.nilFunc] := by kernel_rfl
theorem ty_ag207 : aggT Try.prog 207 = some false := by kernel_rfl
theorem ty_sz207 : szT Try.prog 207 = some 1 := by kernel_rfl
theorem ty_int207 : intT Try.prog 207 = none := by kernel_rfl
theorem ty_ifc207 : ifaceT Try.prog 207 = false := by kernel_rfl
theorem ty_bool207 : boolT Try.prog 207 = false := by kernel_rfl
theorem ty_z207 : zeroT Try.prog 207 = some [.nilFunc] := by kernel_rfl
theorem ty_ag208 : aggT Try.prog 208 = some false := by kernel_rfl
theorem ty_sz208 : szT Try.prog 208 = some 1 := by kernel_rfl
theorem ty_int208 : intT Try.prog 208 = none := by kernel_rfl
theorem ty_ifc208 : ifaceT Try.prog 208 = false := by kernel_rfl
theorem ty_bool208 : boolT Try.prog 208 = false := by kernel_rfl
theorem ty_z208 : zeroT Try.prog 208 = some [.pointer none] := by kernel_rfl
theorem ty_ag209 : aggT Try.prog 209 = some false := by kernel_rfl
theorem ty_sz209 : szT Try.prog 209 = some 1 := by kernel_rfl
theorem ty_int209 : intT Try.prog 209 = none := by kernel_rfl
theorem ty_ifc209 : ifaceT Try.prog 209 = false := by kernel_rfl
theorem ty_bool209 : boolT Try.prog 209 = false := by kernel_rfl
theorem ty_z209 : zeroT Try.prog 209 = some [.map none] := by kernel_rfl
theorem ty_ag210 : aggT Try.prog 210 = some false := by kernel_rfl
theorem ty_sz210 : szT Try.prog 210 = some 1 := by kernel_rfl
theorem ty_int210 : intT Try.prog 210 = none := by kernel_rfl
theorem ty_ifc210 : ifaceT Try.prog 210 = true := by kernel_rfl
theorem ty_bool210 : boolT Try.prog 210 = false := by kernel_rfl
theorem ty_z210 : zeroT Try.prog 210 = some [.nilIface] := by kernel_rfl
theorem ty_ag211 : aggT Try.prog 211 = some false := by kernel_rfl
theorem ty_sz211 : szT Try.prog 211 = some 1 := by kernel_rfl
theorem ty_int211 : intT Try.prog 211 = none := by kernel_rfl
theorem ty_ifc211 : ifaceT Try.prog 211 = true := by kernel_rfl
theorem ty_bool211 : boolT Try.prog 211 = false := by kernel_rfl
theorem ty_z211 : zeroT Try.prog 211 = some [.nilIface] := by kernel_rfl
theorem ty_ag212 : aggT Try.prog 212 = some true := by kernel_rfl
theorem ty_sz212 : szT Try.prog 212 = some 2 := by kernel_rfl
theorem ty_int212 : intT Try.prog 212 = none := by kernel_rfl
theorem ty_ifc212 : ifaceT Try.prog 212 = false := by kernel_rfl
theorem ty_bool212 : boolT Try.prog 212 = false := by kernel_rfl
theorem ty_f212_0 : fieldT Try.prog 212 0 = some (0, 1, false) := by kernel_rfl
theorem ty_f212_1 : fieldT Try.prog 212 1 = some (1, 1, false) := by kernel_rfl
theorem ty_pl212 : placeT Try.prog 212 = some (fun i => #[(0, 1), (1, 1)][i]?) := by kernel_rfl
theorem ty_z212 : zeroT Try.prog 212 = some [.int .u8 (0), .pointer none] := by kernel_rfl
theorem ty_ag213 : aggT Try.prog 213 = some true := by kernel_rfl
theorem ty_sz213 : szT Try.prog 213 = some 2 := by kernel_rfl
theorem ty_int213 : intT Try.prog 213 = none := by kernel_rfl
theorem ty_ifc213 : ifaceT Try.prog 213 = false := by kernel_rfl
theorem ty_bool213 : boolT Try.prog 213 = false := by kernel_rfl
theorem ty_f213_0 : fieldT Try.prog 213 0 = some (0, 1, false) := by kernel_rfl
theorem ty_f213_1 : fieldT Try.prog 213 1 = some (1, 1, false) := by kernel_rfl
theorem ty_pl213 : placeT Try.prog 213 = some (fun i => #[(0, 1), (1, 1)][i]?) := by kernel_rfl
theorem ty_z213 : zeroT Try.prog 213 = some [.int .u8 (0), .pointer none] := by kernel_rfl
theorem ty_ag214 : aggT Try.prog 214 = some true := by kernel_rfl
theorem ty_sz214 : szT Try.prog 214 = some 6 := by kernel_rfl
theorem ty_int214 : intT Try.prog 214 = none := by kernel_rfl
theorem ty_ifc214 : ifaceT Try.prog 214 = false := by kernel_rfl
theorem ty_bool214 : boolT Try.prog 214 = false := by kernel_rfl
theorem ty_f214_0 : fieldT Try.prog 214 0 = some (0, 1, false) := by kernel_rfl
theorem ty_f214_1 : fieldT Try.prog 214 1 = some (1, 1, false) := by kernel_rfl
theorem ty_f214_2 : fieldT Try.prog 214 2 = some (2, 1, false) := by kernel_rfl
theorem ty_f214_3 : fieldT Try.prog 214 3 = some (3, 1, false) := by kernel_rfl
theorem ty_f214_4 : fieldT Try.prog 214 4 = some (4, 2, true) := by kernel_rfl
theorem ty_pl214 : placeT Try.prog 214 = some (fun i => #[(0, 1), (1, 1), (2, 1), (3, 1), (4, 2)][i]?) := by kernel_rfl
theorem ty_z214 : zeroT Try.prog 214 = some [.bool false, .int .u8 (0), .map none, .nilIface, .int .u8 (0), .pointer none] := by kernel_rfl
theorem ty_ag215 : aggT Try.prog 215 = some true := by kernel_rfl
theorem ty_sz215 : szT Try.prog 215 = some 6 := by kernel_rfl
theorem ty_int215 : intT Try.prog 215 = none := by kernel_rfl
theorem ty_ifc215 : ifaceT Try.prog 215 = false := by kernel_rfl
theorem ty_bool215 : boolT Try.prog 215 = false := by kernel_rfl
theorem ty_f215_0 : fieldT Try.prog 215 0 = some (0, 1, false) := by kernel_rfl
theorem ty_f215_1 : fieldT Try.prog 215 1 = some (1, 1, false) := by kernel_rfl
theorem ty_f215_2 : fieldT Try.prog 215 2 = some (2, 1, false) := by kernel_rfl
theorem ty_f215_3 : fieldT Try.prog 215 3 = some (3, 1, false) := by kernel_rfl
theorem ty_f215_4 : fieldT Try.prog 215 4 = some (4, 2, true) := by kernel_rfl
theorem ty_pl215 : placeT Try.prog 215 = some (fun i => #[(0, 1), (1, 1), (2, 1), (3, 1), (4, 2)][i]?) := by kernel_rfl
theorem ty_z215 : zeroT Try.prog 215 = some [.bool false, .int .u8 (0), .map none, .nilIface, .int .u8 (0), .pointer none] := by kernel_rfl
theorem ty_ag216 : aggT Try.prog 216 = some false := by kernel_rfl
theorem ty_sz216 : szT Try.prog 216 = some 1 := by kernel_rfl
theorem ty_int216 : intT Try.prog 216 = none := by kernel_rfl
theorem ty_ifc216 : ifaceT Try.prog 216 = false := by kernel_rfl
theorem ty_bool216 : boolT Try.prog 216 = false := by kernel_rfl
theorem ty_z216 : zeroT Try.prog 216 = some [.nilFunc] := by kernel_rfl
theorem ty_ag217 : aggT Try.prog 217 = some true := by kernel_rfl
theorem ty_sz217 : szT Try.prog 217 = some 1 := by kernel_rfl
theorem ty_int217 : intT Try.prog 217 = none := by kernel_rfl
theorem ty_ifc217 : ifaceT Try.prog 217 = false := by kernel_rfl
theorem ty_bool217 : boolT Try.prog 217 = false := by kernel_rfl
theorem ty_f217_0 : fieldT Try.prog 217 0 = some (0, 1, false) := by kernel_rfl
theorem ty_pl217 : placeT Try.prog 217 = some (fun i => #[(0, 1)][i]?) := by kernel_rfl
theorem ty_z217 : zeroT Try.prog 217 = some [.slice none 0 0] := by kernel_rfl
theorem ty_ag218 : aggT Try.prog 218 = some true := by kernel_rfl
theorem ty_sz218 : szT Try.prog 218 = some 1 := by kernel_rfl
theorem ty_int218 : intT Try.prog 218 = none := by kernel_rfl
theorem ty_ifc218 : ifaceT Try.prog 218 = false := by kernel_rfl
theorem ty_bool218 : boolT Try.prog 218 = false := by kernel_rfl
theorem ty_f218_0 : fieldT Try.prog 218 0 = some (0, 1, false) := by kernel_rfl
theorem ty_pl218 : placeT Try.prog 218 = some (fun i => #[(0, 1)][i]?) := by kernel_rfl
theorem ty_z218 : zeroT Try.prog 218 = some [.slice none 0 0] := by kernel_rfl
theorem ty_ag219 : aggT Try.prog 219 = some false := by kernel_rfl
theorem ty_sz219 : szT Try.prog 219 = some 1 := by kernel_rfl
theorem ty_int219 : intT Try.prog 219 = none := by kernel_rfl
theorem ty_ifc219 : ifaceT Try.prog 219 = false := by kernel_rfl
theorem ty_bool219 : boolT Try.prog 219 = false := by kernel_rfl
theorem ty_z219 : zeroT Try.prog 219 = some [.nilFunc] := by kernel_rfl
theorem ty_ag220 : aggT Try.prog 220 = some false := by kernel_rfl
theorem ty_sz220 : szT Try.prog 220 = some 1 := by kernel_rfl
theorem ty_int220 : intT Try.prog 220 = none := by kernel_rfl
theorem ty_ifc220 : ifaceT Try.prog 220 = false := by kernel_rfl
theorem ty_bool220 : boolT Try.prog 220 = false := by kernel_rfl
theorem ty_z220 : zeroT Try.prog 220 = some [.nilFunc] := by kernel_rfl
theorem ty_ag221 : aggT Try.prog 221 = some false := by kernel_rfl
theorem ty_sz221 : szT Try.prog 221 = some 1 := by kernel_rfl
theorem ty_int221 : intT Try.prog 221 = none := by kernel_rfl
theorem ty_ifc221 : ifaceT Try.prog 221 = false := by kernel_rfl
theorem ty_bool221 : boolT Try.prog 221 = false := by kernel_rfl
theorem ty_z221 : zeroT Try.prog 221 = some [.nilFunc] := by kernel_rfl
theorem ty_ag222 : aggT Try.prog 222 = some false := by kernel_rfl
theorem ty_sz222 : szT Try.prog 222 = some 1 := by kernel_rfl
theorem ty_int222 : intT Try.prog 222 = none := by kernel_rfl
theorem ty_ifc222 : ifaceT Try.prog 222 = false := by kernel_rfl
theorem ty_bool222 : boolT Try.prog 222 = false := by kernel_rfl
theorem ty_z222 : zeroT Try.prog 222 = some [.nilFunc] := by kernel_rfl
theorem ty_ag223 : aggT Try.prog 223 = some false := by kernel_rfl
theorem ty_sz223 : szT Try.prog 223 = some 1 := by kernel_rfl
theorem ty_int223 : intT Try.prog 223 = none := by kernel_rfl
theorem ty_ifc223 : ifaceT Try.prog 223 = false := by kernel_rfl
theorem ty_bool223 : boolT Try.prog 223 = false := by kernel_rfl
theorem ty_z223 : zeroT Try.prog 223 = some [.nilFunc] := by kernel_rfl
theorem ty_ag224 : aggT Try.prog 224 = some false := by kernel_rfl
theorem ty_sz224 : szT Try.prog 224 = some 1 := by kernel_rfl
theorem ty_int224 : intT Try.prog 224 = none := by kernel_rfl
theorem ty_ifc224 : ifaceT Try.prog 224 = false := by kernel_rfl
theorem ty_bool224 : boolT Try.prog 224 = false := by kernel_rfl
theorem ty_z224 : zeroT Try.prog 224 = some [.nilFunc] := by kernel_rfl
theorem ty_ag225 : aggT Try.prog 225 = some true := by kernel_rfl
theorem ty_sz225 : szT Try.prog 225 = some 4 := by kernel_rfl
theorem ty_int225 : intT Try.prog 225 = none := by kernel_rfl
theorem ty_ifc225 : ifaceT Try.prog 225 = false := by kernel_rfl
theorem ty_bool225 : boolT Try.prog 225 = false := by kernel_rfl
theorem ty_f225_0 : fieldT Try.prog 225 0 = some (0, 2, true) := by kernel_rfl
theorem ty_f225_1 : fieldT Try.prog 225 1 = some (2, 2, true) := by kernel_rfl
theorem ty_pl225 : placeT Try.prog 225 = some (fun i => #[(0, 2), (2, 2)][i]?) := by kernel_rfl
theorem ty_z225 : zeroT Try.prog 225 = some [.bool false, .slice none 0 0, .bool false, .slice none 0 0] := by kernel_rfl
theorem ty_ag226 : aggT Try.prog 226 = some true := by kernel_rfl
theorem ty_sz226 : szT Try.prog 226 = some 4 := by kernel_rfl
theorem ty_int226 : intT Try.prog 226 = none := by kernel_rfl
theorem ty_ifc226 : ifaceT Try.prog 226 = false := by kernel_rfl
theorem ty_bool226 : boolT Try.prog 226 = false := by kernel_rfl
theorem ty_f226_0 : fieldT Try.prog 226 0 = some (0, 2, true) := by kernel_rfl
theorem ty_f226_1 : fieldT Try.prog 226 1 = some (2, 2, true) := by kernel_rfl
theorem ty_pl226 : placeT Try.prog 226 = some (fun i => #[(0, 2), (2, 2)][i]?) := by kernel_rfl
theorem ty_z226 : zeroT Try.prog 226 = some [.bool false, .slice none 0 0, .bool false, .slice none 0 0] := by kernel_rfl
theorem ty_ag227 : aggT Try.prog 227 = some false := by kernel_rfl
theorem ty_sz227 : szT Try.prog 227 = some 1 := by kernel_rfl
theorem ty_int227 : intT Try.prog 227 = none := by kernel_rfl
theorem ty_ifc227 : ifaceT Try.prog 227 = false := by kernel_rfl
theorem ty_bool227 : boolT Try.prog 227 = false := by kernel_rfl
theorem ty_elem227 : elemT Try.prog 227 = some (121, 1, false) := by kernel_rfl
theorem ty_app227 : appT Try.prog 227 = some (121, 1, 8) := by kernel_rfl
theorem ty_z227 : zeroT Try.prog 227 = some [.slice none 0 0] := by kernel_rfl
theorem ty_ag228 : aggT Try.prog 228 = some true := by kernel_rfl
theorem ty_sz228 : szT Try.prog 228 = some 2 := by kernel_rfl
theorem ty_int228 : intT Try.prog 228 = none := by kernel_rfl
theorem ty_eq228 : eqT Try.prog 228 = some [true, false] := by kernel_rfl
theorem ty_ifc228 : ifaceT Try.prog 228 = false := by kernel_rfl
theorem ty_bool228 : boolT Try.prog 228 = false := by kernel_rfl
theorem ty_f228_0 : fieldT Try.prog 228 0 = some (0, 1, false) := by kernel_rfl
theorem ty_f228_1 : fieldT Try.prog 228 1 = some (1, 1, false) := by kernel_rfl
theorem ty_pl228 : placeT Try.prog 228 = some (fun i => #[(0, 1), (1, 1)][i]?) := by kernel_rfl
theorem ty_z228 : zeroT Try.prog 228 = some [.int .u8 (0), .bool false] := by kernel_rfl
theorem ty_ag229 : aggT Try.prog 229 = some true := by kernel_rfl
theorem ty_sz229 : szT Try.prog 229 = some 2 := by kernel_rfl
theorem ty_int229 : intT Try.prog 229 = none := by kernel_rfl
theorem ty_eq229 : eqT Try.prog 229 = some [true, false] := by kernel_rfl
theorem ty_ifc229 : ifaceT Try.prog 229 = false := by kernel_rfl
theorem ty_bool229 : boolT Try.prog 229 = false := by kernel_rfl
theorem ty_f229_0 : fieldT Try.prog 229 0 = some (0, 1, false) := by kernel_rfl
theorem ty_f229_1 : fieldT Try.prog 229 1 = some (1, 1, false) := by kernel_rfl
theorem ty_pl229 : placeT Try.prog 229 = some (fun i => #[(0, 1), (1, 1)][i]?) := by kernel_rfl
theorem ty_z229 : zeroT Try.prog 229 = some [.int .u8 (0), .bool false] := by kernel_rfl
theorem ty_ag230 : aggT Try.prog 230 = some false := by kernel_rfl
theorem ty_sz230 : szT Try.prog 230 = some 1 := by kernel_rfl
theorem ty_int230 : intT Try.prog 230 = none := by kernel_rfl
theorem ty_ifc230 : ifaceT Try.prog 230 = false := by kernel_rfl
theorem ty_bool230 : boolT Try.prog 230 = false := by kernel_rfl
theorem ty_z230 : zeroT Try.prog 230 = some [.nilFunc] := by kernel_rfl
theorem ty_ag231 : aggT Try.prog 231 = some false := by kernel_rfl
theorem ty_sz231 : szT Try.prog 231 = some 1 := by kernel_rfl
theorem ty_int231 : intT Try.prog 231 = none := by kernel_rfl
theorem ty_ifc231 : ifaceT Try.prog 231 = false := by kernel_rfl
theorem ty_bool231 : boolT Try.prog 231 = false := by kernel_rfl
theorem ty_z231 : zeroT Try.prog 231 = some [.nilFunc] := by kernel_rfl
theorem ty_ag232 : aggT Try.prog 232 = some false := by kernel_rfl
theorem ty_sz232 : szT Try.prog 232 = some 1 := by kernel_rfl
theorem ty_int232 : intT Try.prog 232 = none := by kernel_rfl
theorem ty_ifc232 : ifaceT Try.prog 232 = false := by kernel_rfl
theorem ty_bool232 : boolT Try.prog 232 = false := by kernel_rfl
theorem ty_z232 : zeroT Try.prog 232 = some [.nilFunc] := by kernel_rfl
theorem ty_ag233 : aggT Try.prog 233 = some false := by kernel_rfl
theorem ty_sz233 : szT Try.prog 233 = some 1 := by kernel_rfl
theorem ty_int233 : intT Try.prog 233 = some .u8 := by kernel_rfl
theorem ty_ifc233 : ifaceT Try.prog 233 = false := by kernel_rfl
theorem ty_bool233 : boolT Try.prog 233 = false := by kernel_rfl
theorem ty_z233 : zeroT Try.prog 233 = some [.int .u8 (0)] := by kernel_rfl
theorem ty_ag234 : aggT Try.prog 234 = some false := by kernel_rfl
theorem ty_sz234 : szT Try.prog 234 = some 1 := by kernel_rfl
theorem ty_int234 : intT Try.prog 234 = none := by kernel_rfl
theorem ty_ifc234 : ifaceT Try.prog 234 = false := by kernel_rfl
theorem ty_bool234 : boolT Try.prog 234 = false := by kernel_rfl
theorem ty_z234 : zeroT Try.prog 234 = some [.nilFunc] := by kernel_rfl
theorem ty_ag235 : aggT Try.prog 235 = some false := by kernel_rfl
theorem ty_sz235 : szT Try.prog 235 = some 1 := by kernel_rfl
theorem ty_int235 : intT Try.prog 235 = none := by kernel_rfl
theorem ty_ifc235 : ifaceT Try.prog 235 = false := by kernel_rfl
theorem ty_bool235 : boolT Try.prog 235 = false := by kernel_rfl
theorem ty_elem235 : elemT Try.prog 235 = some (240, 3, true) := by kernel_rfl
theorem ty_app235 : appT Try.prog 235 = some (240, 3, 24) := by kernel_rfl
theorem ty_z235 : zeroT Try.prog 235 = some [.slice none 0 0] := by kernel_rfl
theorem ty_ag236 : aggT Try.prog 236 = some false := by kernel_rfl
theorem ty_sz236 : szT Try.prog 236 = some 1 := by kernel_rfl
theorem ty_int236 : intT Try.prog 236 = none := by kernel_rfl
theorem ty_ifc236 : ifaceT Try.prog 236 = false := by kernel_rfl
theorem ty_bool236 : boolT Try.prog 236 = false := by kernel_rfl
theorem ty_z236 : zeroT Try.prog 236 = some [.nilFunc] := by kernel_rfl
theorem ty_ag237 : aggT Try.prog 237 = some false := by kernel_rfl
theorem ty_sz237 : szT Try.prog 237 = some 1 := by kernel_rfl
theorem ty_int237 : intT Try.prog 237 = none := by kernel_rfl
theorem ty_ifc237 : ifaceT Try.prog 237 = false := by kernel_rfl
theorem ty_bool237 : boolT Try.prog 237 = false := by kernel_rfl
theorem ty_z237 : zeroT Try.prog 237 = some [.nilFunc] := by kernel_rfl
theorem ty_ag238 : aggT Try.prog 238 = some false := by kernel_rfl
theorem ty_sz238 : szT Try.prog 238 = some 1 := by kernel_rfl
theorem ty_int238 : intT Try.prog 238 = none := by kernel_rfl
theorem ty_ifc238 : ifaceT Try.prog 238 = false := by kernel_rfl
theorem ty_bool238 : boolT Try.prog 238 = false := by kernel_rfl
theorem ty_z238 : zeroT Try.prog 238 = some [.nilFunc] := by kernel_rfl
theorem ty_ag239 : aggT Try.prog 239 = some true := by kernel_rfl
theorem ty_sz239 : szT Try.prog 239 = some 3 := by kernel_rfl
theorem ty_int239 : intT Try.prog 239 = none := by kernel_rfl
theorem ty_ifc239 : ifaceT Try.prog 239 = false := by kernel_rfl
theorem ty_bool239 : boolT Try.prog 239 = false := by kernel_rfl
theorem ty_f239_0 : fieldT Try.prog 239 0 = some (0, 1, false) := by kernel_rfl
theorem ty_f239_1 : fieldT Try.prog 239 1 = some (1, 1, false) := by kernel_rfl
theorem ty_f239_2 : fieldT Try.prog 239 2 = some (2, 1, false) := by kernel_rfl
theorem ty_pl239 : placeT Try.prog 239 = some (fun i => #[(0, 1), (1, 1), (2, 1)][i]?) := by kernel_rfl
theorem ty_z239 : zeroT Try.prog 239 = some [.int .i64 (0), .nilFunc, .nilFunc] := by kernel_rfl
theorem ty_ag240 : aggT Try.prog 240 = some true := by kernel_rfl
theorem ty_sz240 : szT Try.prog 240 = some 3 := by kernel_rfl
theorem ty_int240 : intT Try.prog 240 = none := by kernel_rfl
theorem ty_ifc240 : ifaceT Try.prog 240 = false := by kernel_rfl
theorem ty_bool240 : boolT Try.prog 240 = false := by kernel_rfl
theorem ty_f240_0 : fieldT Try.prog 240 0 = some (0, 1, false) := by kernel_rfl
theorem ty_f240_1 : fieldT Try.prog 240 1 = some (1, 1, false) := by kernel_rfl
theorem ty_f240_2 : fieldT Try.prog 240 2 = some (2, 1, false) := by kernel_rfl
theorem ty_pl240 : placeT Try.prog 240 = some (fun i => #[(0, 1), (1, 1), (2, 1)][i]?) := by kernel_rfl
theorem ty_z240 : zeroT Try.prog 240 = some [.int .i64 (0), .nilFunc, .nilFunc] := by kernel_rfl
theorem ty_ag241 : aggT Try.prog 241 = some false := by kernel_rfl
theorem ty_sz241 : szT Try.prog 241 = some 1 := by kernel_rfl
theorem ty_int241 : intT Try.prog 241 = some .u32 := by kernel_rfl
theorem ty_ifc241 : ifaceT Try.prog 241 = false := by kernel_rfl
theorem ty_bool241 : boolT Try.prog 241 = false := by kernel_rfl
theorem ty_z241 : zeroT Try.prog 241 = some [.int .u32 (0)] := by kernel_rfl
theorem ty_ag242 : aggT Try.prog 242 = some false := by kernel_rfl
theorem ty_sz242 : szT Try.prog 242 = some 1 := by kernel_rfl
theorem ty_int242 : intT Try.prog 242 = none := by kernel_rfl
theorem ty_ifc242 : ifaceT Try.prog 242 = false := by kernel_rfl
theorem ty_m242_0 : methA Try.prog 242 "plugboard/packets.from" = some 119 := by kernel_rfl
theorem ty_k242_0 : nilOk Try.prog 242 "plugboard/packets.from" = true := by kernel_rfl
theorem ty_m242_1 : methA Try.prog 242 "plugboard/packets.number" = some 118 := by kernel_rfl
theorem ty_k242_1 : nilOk Try.prog 242 "plugboard/packets.number" = true := by kernel_rfl
theorem ty_bool242 : boolT Try.prog 242 = false := by kernel_rfl
theorem ty_z242 : zeroT Try.prog 242 = some [.pointer none] := by kernel_rfl
theorem ty_ag244 : aggT Try.prog 244 = some false := by kernel_rfl
theorem ty_sz244 : szT Try.prog 244 = some 1 := by kernel_rfl
theorem ty_int244 : intT Try.prog 244 = none := by kernel_rfl
theorem ty_ifc244 : ifaceT Try.prog 244 = false := by kernel_rfl
theorem ty_bool244 : boolT Try.prog 244 = false := by kernel_rfl
theorem ty_z244 : zeroT Try.prog 244 = some [.nilFunc] := by kernel_rfl
theorem ty_ag245 : aggT Try.prog 245 = some false := by kernel_rfl
theorem ty_sz245 : szT Try.prog 245 = some 1 := by kernel_rfl
theorem ty_int245 : intT Try.prog 245 = none := by kernel_rfl
theorem ty_ifc245 : ifaceT Try.prog 245 = false := by kernel_rfl
theorem ty_bool245 : boolT Try.prog 245 = false := by kernel_rfl
theorem ty_z245 : zeroT Try.prog 245 = some [.nilFunc] := by kernel_rfl
theorem ty_ag246 : aggT Try.prog 246 = some false := by kernel_rfl
theorem ty_sz246 : szT Try.prog 246 = some 1 := by kernel_rfl
theorem ty_int246 : intT Try.prog 246 = none := by kernel_rfl
theorem ty_ifc246 : ifaceT Try.prog 246 = false := by kernel_rfl
theorem ty_bool246 : boolT Try.prog 246 = false := by kernel_rfl
theorem ty_z246 : zeroT Try.prog 246 = some [.nilFunc] := by kernel_rfl
theorem ty_ag247 : aggT Try.prog 247 = some false := by kernel_rfl
theorem ty_sz247 : szT Try.prog 247 = some 1 := by kernel_rfl
theorem ty_int247 : intT Try.prog 247 = none := by kernel_rfl
theorem ty_ifc247 : ifaceT Try.prog 247 = false := by kernel_rfl
theorem ty_bool247 : boolT Try.prog 247 = false := by kernel_rfl
theorem ty_z247 : zeroT Try.prog 247 = some [.nilFunc] := by kernel_rfl
theorem ty_ag248 : aggT Try.prog 248 = some false := by kernel_rfl
theorem ty_sz248 : szT Try.prog 248 = some 1 := by kernel_rfl
theorem ty_int248 : intT Try.prog 248 = none := by kernel_rfl
theorem ty_ifc248 : ifaceT Try.prog 248 = false := by kernel_rfl
theorem ty_bool248 : boolT Try.prog 248 = false := by kernel_rfl
theorem ty_z248 : zeroT Try.prog 248 = some [.nilFunc] := by kernel_rfl
theorem ty_ag249 : aggT Try.prog 249 = some false := by kernel_rfl
theorem ty_sz249 : szT Try.prog 249 = some 1 := by kernel_rfl
theorem ty_int249 : intT Try.prog 249 = none := by kernel_rfl
theorem ty_ifc249 : ifaceT Try.prog 249 = false := by kernel_rfl
theorem ty_bool249 : boolT Try.prog 249 = false := by kernel_rfl
theorem ty_z249 : zeroT Try.prog 249 = some [.nilFunc] := by kernel_rfl
theorem ty_ag250 : aggT Try.prog 250 = some false := by kernel_rfl
theorem ty_sz250 : szT Try.prog 250 = some 1 := by kernel_rfl
theorem ty_int250 : intT Try.prog 250 = none := by kernel_rfl
theorem ty_ifc250 : ifaceT Try.prog 250 = false := by kernel_rfl
theorem ty_bool250 : boolT Try.prog 250 = false := by kernel_rfl
theorem ty_z250 : zeroT Try.prog 250 = some [.nilFunc] := by kernel_rfl
theorem ty_ag251 : aggT Try.prog 251 = some true := by kernel_rfl
theorem ty_sz251 : szT Try.prog 251 = some 4 := by kernel_rfl
theorem ty_int251 : intT Try.prog 251 = none := by kernel_rfl
theorem ty_ifc251 : ifaceT Try.prog 251 = false := by kernel_rfl
theorem ty_bool251 : boolT Try.prog 251 = false := by kernel_rfl
theorem ty_f251_0 : fieldT Try.prog 251 0 = some (0, 1, false) := by kernel_rfl
theorem ty_f251_1 : fieldT Try.prog 251 1 = some (1, 1, false) := by kernel_rfl
theorem ty_f251_2 : fieldT Try.prog 251 2 = some (2, 1, false) := by kernel_rfl
theorem ty_f251_3 : fieldT Try.prog 251 3 = some (3, 1, false) := by kernel_rfl
theorem ty_pl251 : placeT Try.prog 251 = some (fun i => #[(0, 1), (1, 1), (2, 1), (3, 1)][i]?) := by kernel_rfl
theorem ty_z251 : zeroT Try.prog 251 = some [.pointer none, .pointer none, .pointer none, .string ⟨#[]⟩] := by kernel_rfl
theorem ty_ag252 : aggT Try.prog 252 = some true := by kernel_rfl
theorem ty_sz252 : szT Try.prog 252 = some 4 := by kernel_rfl
theorem ty_int252 : intT Try.prog 252 = none := by kernel_rfl
theorem ty_ifc252 : ifaceT Try.prog 252 = false := by kernel_rfl
theorem ty_bool252 : boolT Try.prog 252 = false := by kernel_rfl
theorem ty_f252_0 : fieldT Try.prog 252 0 = some (0, 1, false) := by kernel_rfl
theorem ty_f252_1 : fieldT Try.prog 252 1 = some (1, 1, false) := by kernel_rfl
theorem ty_f252_2 : fieldT Try.prog 252 2 = some (2, 1, false) := by kernel_rfl
theorem ty_f252_3 : fieldT Try.prog 252 3 = some (3, 1, false) := by kernel_rfl
theorem ty_pl252 : placeT Try.prog 252 = some (fun i => #[(0, 1), (1, 1), (2, 1), (3, 1)][i]?) := by kernel_rfl
theorem ty_z252 : zeroT Try.prog 252 = some [.pointer none, .pointer none, .pointer none, .string ⟨#[]⟩] := by kernel_rfl
theorem ty_ag253 : aggT Try.prog 253 = some true := by kernel_rfl
theorem ty_sz253 : szT Try.prog 253 = some 0 := by kernel_rfl
theorem ty_int253 : intT Try.prog 253 = none := by kernel_rfl
theorem ty_ifc253 : ifaceT Try.prog 253 = false := by kernel_rfl
theorem ty_bool253 : boolT Try.prog 253 = false := by kernel_rfl
theorem ty_arr253 : arrT Try.prog 253 = some (0, 16, 1, false) := by kernel_rfl
theorem ty_pl253 : placeT Try.prog 253 = some (fun i => some (i * 1, 1)) := by kernel_rfl
theorem ty_z253 : zeroT Try.prog 253 = some [] := by kernel_rfl
theorem ty_ag254 : aggT Try.prog 254 = some true := by kernel_rfl
theorem ty_sz254 : szT Try.prog 254 = some 0 := by kernel_rfl
theorem ty_int254 : intT Try.prog 254 = none := by kernel_rfl
theorem ty_ifc254 : ifaceT Try.prog 254 = false := by kernel_rfl
theorem ty_bool254 : boolT Try.prog 254 = false := by kernel_rfl
theorem ty_pl254 : placeT Try.prog 254 = some (fun i => #[(0, 0)][i]?) := by kernel_rfl
theorem ty_z254 : zeroT Try.prog 254 = some [] := by kernel_rfl
theorem ty_ag255 : aggT Try.prog 255 = some true := by kernel_rfl
theorem ty_sz255 : szT Try.prog 255 = some 0 := by kernel_rfl
theorem ty_int255 : intT Try.prog 255 = none := by kernel_rfl
theorem ty_ifc255 : ifaceT Try.prog 255 = false := by kernel_rfl
theorem ty_bool255 : boolT Try.prog 255 = false := by kernel_rfl
theorem ty_pl255 : placeT Try.prog 255 = some (fun i => #[(0, 0)][i]?) := by kernel_rfl
theorem ty_z255 : zeroT Try.prog 255 = some [] := by kernel_rfl
theorem ty_ag256 : aggT Try.prog 256 = some false := by kernel_rfl
theorem ty_sz256 : szT Try.prog 256 = some 1 := by kernel_rfl
theorem ty_int256 : intT Try.prog 256 = some .u8 := by kernel_rfl
theorem ty_ifc256 : ifaceT Try.prog 256 = false := by kernel_rfl
theorem ty_bool256 : boolT Try.prog 256 = false := by kernel_rfl
theorem ty_z256 : zeroT Try.prog 256 = some [.int .u8 (0)] := by kernel_rfl
theorem ty_ag257 : aggT Try.prog 257 = some false := by kernel_rfl
theorem ty_sz257 : szT Try.prog 257 = some 1 := by kernel_rfl
theorem ty_int257 : intT Try.prog 257 = some .u8 := by kernel_rfl
theorem ty_ifc257 : ifaceT Try.prog 257 = false := by kernel_rfl
theorem ty_m257_0 : methA Try.prog 257 "String" = some 173 := by kernel_rfl
theorem ty_k257_0 : nilOk Try.prog 257 "String" = true := by kernel_rfl
theorem ty_bool257 : boolT Try.prog 257 = false := by kernel_rfl
theorem ty_z257 : zeroT Try.prog 257 = some [.int .u8 (0)] := by kernel_rfl
theorem ty_ag258 : aggT Try.prog 258 = some false := by kernel_rfl
theorem ty_sz258 : szT Try.prog 258 = some 1 := by kernel_rfl
theorem ty_int258 : intT Try.prog 258 = none := by kernel_rfl
theorem ty_ifc258 : ifaceT Try.prog 258 = false := by kernel_rfl
theorem ty_bool258 : boolT Try.prog 258 = false := by kernel_rfl
theorem ty_z258 : zeroT Try.prog 258 = some [.nilFunc] := by kernel_rfl
theorem ty_ag259 : aggT Try.prog 259 = some false := by kernel_rfl
theorem ty_sz259 : szT Try.prog 259 = some 1 := by kernel_rfl
theorem ty_int259 : intT Try.prog 259 = none := by kernel_rfl
theorem ty_ifc259 : ifaceT Try.prog 259 = false := by kernel_rfl
theorem ty_bool259 : boolT Try.prog 259 = false := by kernel_rfl
theorem ty_z259 : zeroT Try.prog 259 = some [.pointer none] := by kernel_rfl
theorem ty_ag260 : aggT Try.prog 260 = some false := by kernel_rfl
theorem ty_sz260 : szT Try.prog 260 = some 1 := by kernel_rfl
theorem ty_int260 : intT Try.prog 260 = some .i32 := by kernel_rfl
theorem ty_ifc260 : ifaceT Try.prog 260 = false := by kernel_rfl
theorem ty_bool260 : boolT Try.prog 260 = false := by kernel_rfl
theorem ty_z260 : zeroT Try.prog 260 = some [.int .i32 (0)] := by kernel_rfl
theorem ty_ag261 : aggT Try.prog 261 = some false := by kernel_rfl
theorem ty_sz261 : szT Try.prog 261 = some 1 := by kernel_rfl
theorem ty_int261 : intT Try.prog 261 = some .i32 := by kernel_rfl
theorem ty_ifc261 : ifaceT Try.prog 261 = false := by kernel_rfl
theorem ty_bool261 : boolT Try.prog 261 = false := by kernel_rfl
theorem ty_z261 : zeroT Try.prog 261 = some [.int .i32 (0)] := by kernel_rfl
theorem ty_ag262 : aggT Try.prog 262 = some true := by kernel_rfl
theorem ty_sz262 : szT Try.prog 262 = some 11 := by kernel_rfl
theorem ty_int262 : intT Try.prog 262 = none := by kernel_rfl
theorem ty_ifc262 : ifaceT Try.prog 262 = false := by kernel_rfl
theorem ty_bool262 : boolT Try.prog 262 = false := by kernel_rfl
theorem ty_f262_0 : fieldT Try.prog 262 0 = some (0, 1, false) := by kernel_rfl
theorem ty_f262_1 : fieldT Try.prog 262 1 = some (1, 1, false) := by kernel_rfl
theorem ty_f262_2 : fieldT Try.prog 262 2 = some (2, 1, false) := by kernel_rfl
theorem ty_f262_3 : fieldT Try.prog 262 3 = some (3, 1, false) := by kernel_rfl
theorem ty_f262_4 : fieldT Try.prog 262 4 = some (4, 1, false) := by kernel_rfl
theorem ty_f262_5 : fieldT Try.prog 262 5 = some (5, 1, false) := by kernel_rfl
theorem ty_f262_6 : fieldT Try.prog 262 6 = some (6, 1, false) := by kernel_rfl
theorem ty_f262_7 : fieldT Try.prog 262 7 = some (7, 1, false) := by kernel_rfl
theorem ty_f262_8 : fieldT Try.prog 262 8 = some (8, 1, false) := by kernel_rfl
theorem ty_f262_9 : fieldT Try.prog 262 9 = some (9, 1, false) := by kernel_rfl
theorem ty_f262_10 : fieldT Try.prog 262 10 = some (10, 1, false) := by kernel_rfl
theorem ty_pl262 : placeT Try.prog 262 = some (fun i => #[(0, 1), (1, 1), (2, 1), (3, 1), (4, 1), (5, 1), (6, 1), (7, 1), (8, 1), (9, 1), (10, 1)][i]?) := by kernel_rfl
theorem ty_z262 : zeroT Try.prog 262 = some [.int .u64 (0), .int .u64 (0), .int .u32 (0), .int .u8 (0), .int .u8 (0), .int .u8 (0), .int .u8 (0), .nilFunc, .pointer none, .int .i32 (0), .int .i32 (0)] := by kernel_rfl
theorem ty_ag263 : aggT Try.prog 263 = some true := by kernel_rfl
theorem ty_sz263 : szT Try.prog 263 = some 11 := by kernel_rfl
theorem ty_int263 : intT Try.prog 263 = none := by kernel_rfl
theorem ty_ifc263 : ifaceT Try.prog 263 = false := by kernel_rfl
theorem ty_bool263 : boolT Try.prog 263 = false := by kernel_rfl
theorem ty_f263_0 : fieldT Try.prog 263 0 = some (0, 1, false) := by kernel_rfl
theorem ty_f263_1 : fieldT Try.prog 263 1 = some (1, 1, false) := by kernel_rfl
theorem ty_f263_2 : fieldT Try.prog 263 2 = some (2, 1, false) := by kernel_rfl
theorem ty_f263_3 : fieldT Try.prog 263 3 = some (3, 1, false) := by kernel_rfl
theorem ty_f263_4 : fieldT Try.prog 263 4 = some (4, 1, false) := by kernel_rfl
theorem ty_f263_5 : fieldT Try.prog 263 5 = some (5, 1, false) := by kernel_rfl
theorem ty_f263_6 : fieldT Try.prog 263 6 = some (6, 1, false) := by kernel_rfl
theorem ty_f263_7 : fieldT Try.prog 263 7 = some (7, 1, false) := by kernel_rfl
theorem ty_f263_8 : fieldT Try.prog 263 8 = some (8, 1, false) := by kernel_rfl
theorem ty_f263_9 : fieldT Try.prog 263 9 = some (9, 1, false) := by kernel_rfl
theorem ty_f263_10 : fieldT Try.prog 263 10 = some (10, 1, false) := by kernel_rfl
theorem ty_pl263 : placeT Try.prog 263 = some (fun i => #[(0, 1), (1, 1), (2, 1), (3, 1), (4, 1), (5, 1), (6, 1), (7, 1), (8, 1), (9, 1), (10, 1)][i]?) := by kernel_rfl
theorem ty_z263 : zeroT Try.prog 263 = some [.int .u64 (0), .int .u64 (0), .int .u32 (0), .int .u8 (0), .int .u8 (0), .int .u8 (0), .int .u8 (0), .nilFunc, .pointer none, .int .i32 (0), .int .i32 (0)] := by kernel_rfl
theorem ty_ag264 : aggT Try.prog 264 = some false := by kernel_rfl
theorem ty_sz264 : szT Try.prog 264 = some 1 := by kernel_rfl
theorem ty_int264 : intT Try.prog 264 = none := by kernel_rfl
theorem ty_ifc264 : ifaceT Try.prog 264 = false := by kernel_rfl
theorem ty_bool264 : boolT Try.prog 264 = false := by kernel_rfl
theorem ty_z264 : zeroT Try.prog 264 = some [.nilFunc] := by kernel_rfl
theorem ty_ag266 : aggT Try.prog 266 = some false := by kernel_rfl
theorem ty_sz266 : szT Try.prog 266 = some 1 := by kernel_rfl
theorem ty_int266 : intT Try.prog 266 = none := by kernel_rfl
theorem ty_ifc266 : ifaceT Try.prog 266 = false := by kernel_rfl
theorem ty_bool266 : boolT Try.prog 266 = false := by kernel_rfl
theorem ty_z266 : zeroT Try.prog 266 = some [.nilFunc] := by kernel_rfl
theorem ty_ag267 : aggT Try.prog 267 = some false := by kernel_rfl
theorem ty_sz267 : szT Try.prog 267 = some 1 := by kernel_rfl
theorem ty_int267 : intT Try.prog 267 = none := by kernel_rfl
theorem ty_ifc267 : ifaceT Try.prog 267 = false := by kernel_rfl
theorem ty_bool267 : boolT Try.prog 267 = false := by kernel_rfl
theorem ty_z267 : zeroT Try.prog 267 = some [.nilFunc] := by kernel_rfl
theorem ty_mixed : Try.prog.follows .mixedOrders = true := by kernel_rfl
theorem fok2 : fnOk Try.f2 = true := by kernel_rfl
theorem fok3 : fnOk Try.f3 = true := by kernel_rfl
theorem fok4 : fnOk Try.f4 = true := by kernel_rfl
theorem fok5 : fnOk Try.f5 = true := by kernel_rfl
theorem fok6 : fnOk Try.f6 = true := by kernel_rfl
theorem fok7 : fnOk Try.f7 = true := by kernel_rfl
theorem fok8 : fnOk Try.f8 = true := by kernel_rfl
theorem fok9 : fnOk Try.f9 = true := by kernel_rfl
theorem fok10 : fnOk Try.f10 = true := by kernel_rfl
theorem fok11 : fnOk Try.f11 = true := by kernel_rfl
theorem fok12 : fnOk Try.f12 = true := by kernel_rfl
theorem fok13 : fnOk Try.f13 = true := by kernel_rfl
theorem fok14 : fnOk Try.f14 = true := by kernel_rfl
theorem fok15 : fnOk Try.f15 = true := by kernel_rfl
theorem fok16 : fnOk Try.f16 = true := by kernel_rfl
theorem fok17 : fnOk Try.f17 = true := by kernel_rfl
theorem fok18 : fnOk Try.f18 = true := by kernel_rfl
theorem fok19 : fnOk Try.f19 = true := by kernel_rfl
theorem fok20 : fnOk Try.f20 = true := by kernel_rfl
theorem fok21 : fnOk Try.f21 = true := by kernel_rfl
theorem fok22 : fnOk Try.f22 = true := by kernel_rfl
theorem fok23 : fnOk Try.f23 = true := by kernel_rfl
theorem fok24 : fnOk Try.f24 = true := by kernel_rfl
theorem fok25 : fnOk Try.f25 = true := by kernel_rfl
theorem fok26 : fnOk Try.f26 = true := by kernel_rfl
theorem fok27 : fnOk Try.f27 = true := by kernel_rfl
theorem fok28 : fnOk Try.f28 = true := by kernel_rfl
theorem fok29 : fnOk Try.f29 = true := by kernel_rfl
theorem fok30 : fnOk Try.f30 = true := by kernel_rfl
theorem fok31 : fnOk Try.f31 = true := by kernel_rfl
theorem fok32 : fnOk Try.f32 = true := by kernel_rfl
theorem fok33 : fnOk Try.f33 = true := by kernel_rfl
theorem fok34 : fnOk Try.f34 = true := by kernel_rfl
theorem fok35 : fnOk Try.f35 = true := by kernel_rfl
theorem fok36 : fnOk Try.f36 = true := by kernel_rfl
theorem fok37 : fnOk Try.f37 = true := by kernel_rfl
theorem fok38 : fnOk Try.f38 = true := by kernel_rfl
theorem fok39 : fnOk Try.f39 = true := by kernel_rfl
theorem fok40 : fnOk Try.f40 = true := by kernel_rfl
theorem fok41 : fnOk Try.f41 = true := by kernel_rfl
theorem fok42 : fnOk Try.f42 = true := by kernel_rfl
theorem fok43 : fnOk Try.f43 = true := by kernel_rfl
theorem fok44 : fnOk Try.f44 = true := by kernel_rfl
theorem fok45 : fnOk Try.f45 = true := by kernel_rfl
theorem fok46 : fnOk Try.f46 = true := by kernel_rfl
theorem fok47 : fnOk Try.f47 = true := by kernel_rfl
theorem fok48 : fnOk Try.f48 = true := by kernel_rfl
theorem fok49 : fnOk Try.f49 = true := by kernel_rfl
theorem fok50 : fnOk Try.f50 = true := by kernel_rfl
theorem fok51 : fnOk Try.f51 = true := by kernel_rfl
theorem fok52 : fnOk Try.f52 = true := by kernel_rfl
theorem fok53 : fnOk Try.f53 = true := by kernel_rfl
theorem fok54 : fnOk Try.f54 = true := by kernel_rfl
theorem fok55 : fnOk Try.f55 = true := by kernel_rfl
theorem fok56 : fnOk Try.f56 = true := by kernel_rfl
theorem fok57 : fnOk Try.f57 = true := by kernel_rfl
theorem fok58 : fnOk Try.f58 = true := by kernel_rfl
theorem fok59 : fnOk Try.f59 = true := by kernel_rfl
theorem fok60 : fnOk Try.f60 = true := by kernel_rfl
theorem fok61 : fnOk Try.f61 = true := by kernel_rfl
theorem fok62 : fnOk Try.f62 = true := by kernel_rfl
theorem fok63 : fnOk Try.f63 = true := by kernel_rfl
theorem fok64 : fnOk Try.f64 = true := by kernel_rfl
theorem fok65 : fnOk Try.f65 = true := by kernel_rfl
theorem fok66 : fnOk Try.f66 = true := by kernel_rfl
theorem fok67 : fnOk Try.f67 = true := by kernel_rfl
theorem fok68 : fnOk Try.f68 = true := by kernel_rfl
theorem fok69 : fnOk Try.f69 = true := by kernel_rfl
theorem fok70 : fnOk Try.f70 = true := by kernel_rfl
theorem fok71 : fnOk Try.f71 = true := by kernel_rfl
theorem fok72 : fnOk Try.f72 = true := by kernel_rfl
theorem fok73 : fnOk Try.f73 = true := by kernel_rfl
theorem fok74 : fnOk Try.f74 = true := by kernel_rfl
theorem fok75 : fnOk Try.f75 = true := by kernel_rfl
theorem fok76 : fnOk Try.f76 = true := by kernel_rfl
theorem fok77 : fnOk Try.f77 = true := by kernel_rfl
theorem fok78 : fnOk Try.f78 = true := by kernel_rfl
theorem fok79 : fnOk Try.f79 = true := by kernel_rfl
theorem fok80 : fnOk Try.f80 = true := by kernel_rfl
theorem fok81 : fnOk Try.f81 = true := by kernel_rfl
theorem fok82 : fnOk Try.f82 = true := by kernel_rfl
theorem fok83 : fnOk Try.f83 = true := by kernel_rfl
theorem fok84 : fnOk Try.f84 = true := by kernel_rfl
theorem fok85 : fnOk Try.f85 = true := by kernel_rfl
theorem fok86 : fnOk Try.f86 = true := by kernel_rfl
theorem fok87 : fnOk Try.f87 = true := by kernel_rfl
theorem fok88 : fnOk Try.f88 = true := by kernel_rfl
theorem fok89 : fnOk Try.f89 = true := by kernel_rfl
theorem fok90 : fnOk Try.f90 = true := by kernel_rfl
theorem fok91 : fnOk Try.f91 = true := by kernel_rfl
theorem fok92 : fnOk Try.f92 = true := by kernel_rfl
theorem fok93 : fnOk Try.f93 = true := by kernel_rfl
theorem fok94 : fnOk Try.f94 = true := by kernel_rfl
theorem fok95 : fnOk Try.f95 = true := by kernel_rfl
theorem fok96 : fnOk Try.f96 = true := by kernel_rfl
theorem fok97 : fnOk Try.f97 = true := by kernel_rfl
theorem fok98 : fnOk Try.f98 = true := by kernel_rfl
theorem fok99 : fnOk Try.f99 = true := by kernel_rfl
theorem fok100 : fnOk Try.f100 = true := by kernel_rfl
theorem fok101 : fnOk Try.f101 = true := by kernel_rfl
theorem fok102 : fnOk Try.f102 = true := by kernel_rfl
theorem fok103 : fnOk Try.f103 = true := by kernel_rfl
theorem fok104 : fnOk Try.f104 = true := by kernel_rfl
theorem fok105 : fnOk Try.f105 = true := by kernel_rfl
theorem fok106 : fnOk Try.f106 = true := by kernel_rfl
theorem fok107 : fnOk Try.f107 = true := by kernel_rfl
theorem fok108 : fnOk Try.f108 = true := by kernel_rfl
theorem fok109 : fnOk Try.f109 = true := by kernel_rfl
theorem fok110 : fnOk Try.f110 = true := by kernel_rfl
theorem fok111 : fnOk Try.f111 = true := by kernel_rfl
theorem fok112 : fnOk Try.f112 = true := by kernel_rfl
theorem fok113 : fnOk Try.f113 = true := by kernel_rfl
theorem fok114 : fnOk Try.f114 = true := by kernel_rfl
theorem fok115 : fnOk Try.f115 = true := by kernel_rfl
theorem fok116 : fnOk Try.f116 = true := by kernel_rfl
theorem fok117 : fnOk Try.f117 = true := by kernel_rfl
theorem fok118 : fnOk Try.f118 = true := by kernel_rfl
theorem fok119 : fnOk Try.f119 = true := by kernel_rfl
theorem fok120 : fnOk Try.f120 = true := by kernel_rfl
theorem fok121 : fnOk Try.f121 = true := by kernel_rfl
theorem fok122 : fnOk Try.f122 = true := by kernel_rfl
theorem fok123 : fnOk Try.f123 = true := by kernel_rfl
theorem fok124 : fnOk Try.f124 = true := by kernel_rfl
theorem fok125 : fnOk Try.f125 = true := by kernel_rfl
theorem fok126 : fnOk Try.f126 = true := by kernel_rfl
theorem fok127 : fnOk Try.f127 = true := by kernel_rfl
theorem fok128 : fnOk Try.f128 = true := by kernel_rfl
theorem fok129 : fnOk Try.f129 = true := by kernel_rfl
theorem fok130 : fnOk Try.f130 = true := by kernel_rfl
theorem fok131 : fnOk Try.f131 = true := by kernel_rfl
theorem fok132 : fnOk Try.f132 = true := by kernel_rfl
theorem fok133 : fnOk Try.f133 = true := by kernel_rfl
theorem fok134 : fnOk Try.f134 = true := by kernel_rfl
theorem fok135 : fnOk Try.f135 = true := by kernel_rfl
theorem fok136 : fnOk Try.f136 = true := by kernel_rfl
theorem fok137 : fnOk Try.f137 = true := by kernel_rfl
theorem fok138 : fnOk Try.f138 = true := by kernel_rfl
theorem fok139 : fnOk Try.f139 = true := by kernel_rfl
theorem fok140 : fnOk Try.f140 = true := by kernel_rfl
theorem fok141 : fnOk Try.f141 = true := by kernel_rfl
theorem fok142 : fnOk Try.f142 = true := by kernel_rfl
theorem fok158 : fnOk Try.f158 = true := by kernel_rfl
theorem fok159 : fnOk Try.f159 = true := by kernel_rfl
theorem fok160 : fnOk Try.f160 = true := by kernel_rfl
theorem fok161 : fnOk Try.f161 = true := by kernel_rfl
theorem fok162 : fnOk Try.f162 = true := by kernel_rfl
theorem fok163 : fnOk Try.f163 = true := by kernel_rfl
theorem fok164 : fnOk Try.f164 = true := by kernel_rfl
theorem fok165 : fnOk Try.f165 = true := by kernel_rfl
theorem fok167 : fnOk Try.f167 = true := by kernel_rfl
theorem fok168 : fnOk Try.f168 = true := by kernel_rfl
theorem fok169 : fnOk Try.f169 = true := by kernel_rfl
theorem fok170 : fnOk Try.f170 = true := by kernel_rfl
theorem fok171 : fnOk Try.f171 = true := by kernel_rfl
theorem fok172 : fnOk Try.f172 = true := by kernel_rfl

attribute [push_cast] ty_ag1 ty_sz1 ty_int1 ty_ifc1 ty_bool1 ty_z1 Try.underlying1 ty_ag2 ty_sz2 ty_int2 ty_ifc2 ty_bool2 ty_z2 Try.underlying2 ty_ag3 ty_sz3 ty_int3 ty_ifc3 ty_bool3 ty_z3 Try.underlying3 ty_ag4 ty_sz4 ty_int4 ty_ifc4 ty_bool4 ty_z4 Try.underlying4 ty_ag5 ty_sz5 ty_int5 ty_ifc5 ty_bool5 ty_z5 Try.underlying5 ty_ag6 ty_sz6 ty_int6 ty_ifc6 ty_bool6 ty_z6 Try.underlying6 ty_ag7 ty_sz7 ty_int7 ty_eq7 ty_ifc7 ty_bool7 ty_f7_0 ty_f7_1 ty_f7_2 ty_f7_3 ty_pl7 ty_z7 Try.underlying7 ty_ag8 ty_sz8 ty_int8 ty_eq8 ty_ifc8 ty_m8_0 ty_k8_0 ty_m8_1 ty_k8_1 ty_bool8 ty_f8_0 ty_f8_1 ty_f8_2 ty_f8_3 ty_pl8 ty_z8 Try.underlying8 ty_ag9 ty_sz9 ty_int9 ty_ifc9 ty_bool9 ty_z9 Try.underlying9 ty_ag10 ty_sz10 ty_int10 ty_ifc10 ty_m10_0 ty_k10_0 ty_m10_1 ty_k10_1 ty_bool10 ty_z10 Try.underlying10 ty_ag11 ty_sz11 ty_int11 ty_ifc11 ty_m11_0 ty_k11_0 ty_m11_1 ty_k11_1 ty_bool11 ty_z11 Try.underlying11 ty_ag12 ty_sz12 ty_int12 ty_ifc12 ty_bool12 ty_z12 Try.underlying12 ty_ag13 ty_sz13 ty_int13 ty_ifc13 ty_bool13 ty_f13_0 ty_f13_1 ty_pl13 ty_z13 Try.underlying13 ty_ag14 ty_sz14 ty_int14 ty_ifc14 ty_m14_0 ty_k14_0 ty_m14_1 ty_k14_1 ty_bool14 ty_f14_0 ty_f14_1 ty_pl14 ty_z14 Try.underlying14 ty_ag15 ty_sz15 ty_int15 ty_ifc15 ty_m15_0 ty_k15_0 ty_m15_1 ty_k15_1 ty_bool15 ty_z15 Try.underlying15 ty_ag16 ty_sz16 ty_int16 ty_ifc16 ty_m16_0 ty_k16_0 ty_m16_1 ty_k16_1 ty_bool16 ty_z16 Try.underlying16 ty_ag17 ty_sz17 ty_int17 ty_ifc17 ty_m17_0 ty_k17_0 ty_bool17 ty_z17 Try.underlying17 ty_ag18 ty_sz18 ty_int18 ty_ifc18 ty_bool18 ty_f18_0 ty_pl18 ty_z18 Try.underlying18 ty_ag19 ty_sz19 ty_int19 ty_ifc19 ty_m19_0 ty_k19_0 ty_m19_1 ty_k19_1 ty_bool19 ty_f19_0 ty_pl19 ty_z19 Try.underlying19 ty_ag20 ty_sz20 ty_int20 ty_ifc20 ty_bool20 ty_z20 ty_ag21 ty_sz21 ty_int21 ty_ifc21 ty_bool21 ty_z21 Try.underlying21 ty_ag22 ty_sz22 ty_int22 ty_ifc22 ty_bool22 ty_z22 Try.underlying22 ty_ag23 ty_sz23 ty_int23 ty_eq23 ty_ifc23 ty_bool23 ty_f23_0 ty_f23_1 ty_f23_2 ty_f23_3 ty_f23_4 ty_pl23 ty_z23 Try.underlying23 ty_ag24 ty_sz24 ty_int24 ty_eq24 ty_ifc24 ty_bool24 ty_f24_0 ty_f24_1 ty_f24_2 ty_f24_3 ty_f24_4 ty_pl24 ty_z24 Try.underlying24 ty_ag25 ty_sz25 ty_int25 ty_ifc25 ty_bool25 ty_elem25 ty_app25 ty_z25 Try.underlying25 ty_ag26 ty_sz26 ty_int26 ty_ifc26 ty_bool26 ty_f26_0 ty_f26_1 ty_f26_2 ty_pl26 ty_z26 Try.underlying26 ty_ag27 ty_sz27 ty_int27 ty_ifc27 ty_bool27 ty_f27_0 ty_f27_1 ty_f27_2 ty_pl27 ty_z27 Try.underlying27 ty_ag28 ty_sz28 ty_int28 ty_ifc28 ty_bool28 ty_elem28 ty_app28 ty_z28 Try.underlying28 ty_ag29 ty_sz29 ty_int29 ty_ifc29 ty_bool29 ty_z29 Try.underlying29 ty_ag30 ty_sz30 ty_int30 ty_ifc30 ty_bool30 ty_z30 Try.underlying30 ty_ag31 ty_sz31 ty_int31 ty_ifc31 ty_bool31 ty_z31 Try.underlying31 ty_ag32 ty_sz32 ty_int32 ty_ifc32 ty_bool32 ty_f32_0 ty_f32_1 ty_f32_2 ty_f32_3 ty_f32_4 ty_f32_5 ty_f32_6 ty_f32_7 ty_f32_8 ty_pl32 ty_z32 Try.underlying32 ty_ag33 ty_sz33 ty_int33 ty_ifc33 ty_bool33 ty_f33_0 ty_f33_1 ty_f33_2 ty_f33_3 ty_f33_4 ty_f33_5 ty_f33_6 ty_f33_7 ty_f33_8 ty_pl33 ty_z33 Try.underlying33 ty_ag35 ty_sz35 ty_int35 ty_ifc35 ty_bool35 ty_z35 Try.underlying35 ty_ag36 ty_sz36 ty_int36 ty_ifc36 ty_bool36 ty_z36 Try.underlying36 ty_ag37 ty_sz37 ty_int37 ty_ifc37 ty_bool37 ty_f37_0 ty_f37_1 ty_f37_2 ty_f37_3 ty_f37_4 ty_f37_5 ty_f37_6 ty_f37_7 ty_pl37 ty_z37 Try.underlying37 ty_ag38 ty_sz38 ty_int38 ty_ifc38 ty_bool38 ty_f38_0 ty_f38_1 ty_f38_2 ty_f38_3 ty_f38_4 ty_f38_5 ty_f38_6 ty_f38_7 ty_pl38 ty_z38 Try.underlying38 ty_ag39 ty_sz39 ty_int39 ty_ifc39 ty_bool39 ty_z39 Try.underlying39 ty_ag40 ty_sz40 ty_int40 ty_ifc40 ty_bool40 ty_f40_0 ty_f40_1 ty_f40_2 ty_f40_3 ty_f40_4 ty_f40_5 ty_f40_6 ty_pl40 ty_z40 Try.underlying40 ty_ag41 ty_sz41 ty_int41 ty_ifc41 ty_bool41 ty_f41_0 ty_f41_1 ty_f41_2 ty_f41_3 ty_f41_4 ty_f41_5 ty_f41_6 ty_pl41 ty_z41 Try.underlying41 ty_ag43 ty_sz43 ty_int43 ty_ifc43 ty_bool43 ty_z43 Try.underlying43 ty_ag45 ty_sz45 ty_int45 ty_ifc45 ty_bool45 ty_z45 Try.underlying45 ty_ag46 ty_sz46 ty_int46 ty_ifc46 ty_bool46 ty_z46 Try.underlying46 ty_ag47 ty_sz47 ty_int47 ty_ifc47 ty_bool47 ty_z47 Try.underlying47 ty_ag48 ty_sz48 ty_int48 ty_ifc48 ty_bool48 ty_f48_0 ty_f48_1 ty_pl48 ty_z48 Try.underlying48 ty_ag49 ty_sz49 ty_int49 ty_ifc49 ty_bool49 ty_f49_0 ty_f49_1 ty_pl49 ty_z49 Try.underlying49 ty_ag50 ty_sz50 ty_int50 ty_ifc50 ty_bool50 ty_z50 Try.underlying50 ty_ag51 ty_sz51 ty_int51 ty_ifc51 ty_bool51 ty_z51 Try.underlying51 ty_ag52 ty_sz52 ty_int52 ty_ifc52 ty_bool52 ty_z52 Try.underlying52 ty_ag53 ty_sz53 ty_int53 ty_ifc53 ty_bool53 ty_z53 Try.underlying53 ty_ag54 ty_sz54 ty_int54 ty_ifc54 ty_m54_0 ty_k54_0 ty_m54_1 ty_k54_1 ty_m54_2 ty_k54_2 ty_m54_3 ty_k54_3 ty_m54_4 ty_k54_4 ty_m54_5 ty_k54_5 ty_m54_6 ty_k54_6 ty_m54_7 ty_k54_7 ty_m54_8 ty_k54_8 ty_m54_9 ty_k54_9 ty_m54_10 ty_k54_10 ty_m54_11 ty_k54_11 ty_bool54 ty_z54 Try.underlying54 ty_ag56 ty_sz56 ty_int56 ty_ifc56 ty_bool56 ty_z56 Try.underlying56 ty_ag57 ty_sz57 ty_int57 ty_ifc57 ty_bool57 ty_z57 Try.underlying57 ty_ag58 ty_sz58 ty_int58 ty_ifc58 ty_m58_0 ty_k58_0 ty_bool58 ty_z58 Try.underlying58 ty_ag59 ty_sz59 ty_int59 ty_ifc59 ty_bool59 ty_z59 Try.underlying59 ty_ag60 ty_sz60 ty_int60 ty_ifc60 ty_bool60 ty_z60 Try.underlying60 ty_ag61 ty_sz61 ty_int61 ty_ifc61 ty_bool61 ty_z61 Try.underlying61 ty_ag62 ty_sz62 ty_int62 ty_ifc62 ty_bool62 ty_z62 Try.underlying62 ty_ag64 ty_sz64 ty_int64 ty_ifc64 ty_bool64 ty_z64 Try.underlying64 ty_ag65 ty_sz65 ty_int65 ty_eq65 ty_ifc65 ty_bool65 ty_f65_0 ty_f65_1 ty_f65_2 ty_f65_3 ty_f65_4 ty_pl65 ty_z65 Try.underlying65 ty_ag66 ty_sz66 ty_int66 ty_eq66 ty_ifc66 ty_bool66 ty_f66_0 ty_f66_1 ty_f66_2 ty_f66_3 ty_f66_4 ty_pl66 ty_z66 Try.underlying66 ty_ag67 ty_sz67 ty_int67 ty_ifc67 ty_bool67 ty_f67_0 ty_f67_1 ty_f67_2 ty_f67_3 ty_f67_4 ty_f67_5 ty_pl67 ty_z67 Try.underlying67 ty_ag68 ty_sz68 ty_int68 ty_ifc68 ty_bool68 ty_f68_0 ty_f68_1 ty_f68_2 ty_f68_3 ty_f68_4 ty_f68_5 ty_pl68 ty_z68 Try.underlying68 ty_ag70 ty_sz70 ty_int70 ty_ifc70 ty_bool70 ty_z70 Try.underlying70 ty_ag71 ty_sz71 ty_int71 ty_ifc71 ty_bool71 ty_z71 ty_ag72 ty_sz72 ty_int72 ty_ifc72 ty_bool72 ty_z72 ty_ag73 ty_sz73 ty_int73 ty_ifc73 ty_bool73 ty_f73_0 ty_f73_1 ty_f73_2 ty_f73_3 ty_f73_4 ty_f73_5 ty_f73_6 ty_f73_7 ty_f73_8 ty_pl73 ty_z73 Try.underlying73 ty_ag74 ty_sz74 ty_int74 ty_ifc74 ty_bool74 ty_f74_0 ty_f74_1 ty_f74_2 ty_f74_3 ty_f74_4 ty_f74_5 ty_f74_6 ty_f74_7 ty_f74_8 ty_pl74 ty_z74 Try.underlying74 ty_ag75 ty_sz75 ty_int75 ty_ifc75 ty_bool75 ty_f75_0 ty_f75_1 ty_f75_2 ty_f75_3 ty_pl75 ty_z75 Try.underlying75 ty_ag76 ty_sz76 ty_int76 ty_ifc76 ty_bool76 ty_f76_0 ty_f76_1 ty_f76_2 ty_f76_3 ty_pl76 ty_z76 Try.underlying76 ty_ag77 ty_sz77 ty_int77 ty_ifc77 ty_bool77 ty_z77 Try.underlying77 ty_ag78 ty_sz78 ty_int78 ty_ifc78 ty_bool78 ty_f78_0 ty_f78_1 ty_pl78 ty_z78 Try.underlying78 ty_ag79 ty_sz79 ty_int79 ty_ifc79 ty_bool79 ty_f79_0 ty_f79_1 ty_pl79 ty_z79 Try.underlying79 ty_ag80 ty_sz80 ty_int80 ty_ifc80 ty_bool80 ty_elem80 ty_app80 ty_z80 Try.underlying80 ty_ag81 ty_sz81 ty_int81 ty_ifc81 ty_m81_0 ty_k81_0 ty_bool81 ty_z81 Try.underlying81 ty_ag82 ty_sz82 ty_int82 ty_ifc82 ty_bool82 ty_z82 Try.underlying82 ty_ag83 ty_sz83 ty_int83 ty_ifc83 ty_m83_0 ty_k83_0 ty_m83_1 ty_k83_1 ty_m83_2 ty_k83_2 ty_m83_3 ty_k83_3 ty_m83_4 ty_k83_4 ty_m83_5 ty_k83_5 ty_bool83 ty_z83 Try.underlying83 ty_ag85 ty_sz85 ty_int85 ty_ifc85 ty_bool85 ty_z85 Try.underlying85 ty_ag87 ty_sz87 ty_int87 ty_ifc87 ty_bool87 ty_z87 Try.underlying87 ty_ag88 ty_sz88 ty_int88 ty_ifc88 ty_m88_0 ty_k88_0 ty_m88_1 ty_k88_1 ty_bool88 ty_z88 Try.underlying88 ty_ag89 ty_sz89 ty_int89 ty_ifc89 ty_bool89 ty_z89 Try.underlying89 ty_ag90 ty_sz90 ty_int90 ty_ifc90 ty_bool90 ty_elem90 ty_app90 ty_z90 Try.underlying90 ty_ag91 ty_sz91 ty_int91 ty_ifc91 ty_bool91 ty_f91_0 ty_f91_1 ty_pl91 ty_z91 Try.underlying91 ty_ag92 ty_sz92 ty_int92 ty_ifc92 ty_bool92 ty_f92_0 ty_f92_1 ty_pl92 ty_z92 Try.underlying92 ty_ag93 ty_sz93 ty_int93 ty_ifc93 ty_bool93 ty_f93_0 ty_f93_1 ty_pl93 ty_z93 Try.underlying93 ty_ag94 ty_sz94 ty_int94 ty_ifc94 ty_bool94 ty_f94_0 ty_f94_1 ty_pl94 ty_z94 Try.underlying94 ty_ag95 ty_sz95 ty_int95 ty_ifc95 ty_bool95 ty_z95 Try.underlying95 ty_ag96 ty_sz96 ty_int96 ty_ifc96 ty_bool96 ty_arr96 ty_pl96 ty_z96 ty_ag97 ty_sz97 ty_int97 ty_ifc97 ty_bool97 ty_arr97 ty_pl97 ty_z97 ty_ag98 ty_sz98 ty_int98 ty_ifc98 ty_bool98 ty_z98 Try.underlying98 ty_ag99 ty_sz99 ty_int99 ty_ifc99 ty_bool99 ty_elem99 ty_app99 ty_z99 Try.underlying99 ty_ag100 ty_sz100 ty_int100 ty_ifc100 ty_bool100 ty_z100 Try.underlying100 ty_ag101 ty_sz101 ty_int101 ty_ifc101 ty_bool101 ty_f101_0 ty_f101_1 ty_pl101 ty_z101 Try.underlying101 ty_ag102 ty_sz102 ty_int102 ty_ifc102 ty_bool102 ty_f102_0 ty_f102_1 ty_pl102 ty_z102 Try.underlying102 ty_ag104 ty_sz104 ty_int104 ty_ifc104 ty_bool104 ty_z104 Try.underlying104 ty_ag105 ty_sz105 ty_int105 ty_ifc105 ty_m105_0 ty_k105_0 ty_bool105 ty_z105 Try.underlying105 ty_ag106 ty_sz106 ty_int106 ty_ifc106 ty_bool106 ty_f106_0 ty_f106_1 ty_pl106 ty_z106 Try.underlying106 ty_ag107 ty_sz107 ty_int107 ty_ifc107 ty_bool107 ty_f107_0 ty_f107_1 ty_pl107 ty_z107 Try.underlying107 ty_ag108 ty_sz108 ty_int108 ty_ifc108 ty_bool108 ty_f108_0 ty_f108_1 ty_pl108 ty_z108 Try.underlying108 ty_ag109 ty_sz109 ty_int109 ty_ifc109 ty_bool109 ty_f109_0 ty_f109_1 ty_pl109 ty_z109 Try.underlying109 ty_ag111 ty_sz111 ty_int111 ty_ifc111 ty_bool111 ty_z111 Try.underlying111 ty_ag112 ty_sz112 ty_int112 ty_ifc112 ty_bool112 ty_elem112 ty_app112 ty_z112 Try.underlying112 ty_ag114 ty_sz114 ty_int114 ty_ifc114 ty_bool114 ty_z114 Try.underlying114 ty_ag115 ty_sz115 ty_int115 ty_ifc115 ty_bool115 ty_z115 Try.underlying115 ty_ag116 ty_sz116 ty_int116 ty_ifc116 ty_bool116 ty_z116 Try.underlying116 ty_ag117 ty_sz117 ty_int117 ty_ifc117 ty_bool117 ty_z117 Try.underlying117 ty_ag118 ty_sz118 ty_int118 ty_ifc118 ty_m118_0 ty_k118_0 ty_bool118 ty_z118 Try.underlying118 ty_ag119 ty_sz119 ty_int119 ty_ifc119 ty_bool119 ty_f119_0 ty_f119_1 ty_pl119 ty_z119 Try.underlying119 ty_ag120 ty_sz120 ty_int120 ty_ifc120 ty_bool120 ty_f120_0 ty_f120_1 ty_pl120 ty_z120 Try.underlying120 ty_ag121 ty_sz121 ty_int121 ty_ifc121 ty_m121_0 ty_k121_0 ty_m121_1 ty_k121_1 ty_m121_2 ty_k121_2 ty_m121_3 ty_k121_3 ty_m121_4 ty_k121_4 ty_m121_5 ty_k121_5 ty_m121_6 ty_k121_6 ty_m121_7 ty_k121_7 ty_bool121 ty_z121 Try.underlying121 ty_ag123 ty_sz123 ty_int123 ty_ifc123 ty_bool123 ty_z123 Try.underlying123 ty_ag124 ty_sz124 ty_int124 ty_ifc124 ty_bool124 ty_z124 Try.underlying124 ty_ag125 ty_sz125 ty_int125 ty_ifc125 ty_bool125 ty_f125_0 ty_f125_1 ty_f125_2 ty_f125_3 ty_f125_4 ty_f125_5 ty_f125_6 ty_pl125 ty_z125 Try.underlying125 ty_ag126 ty_sz126 ty_int126 ty_ifc126 ty_bool126 ty_f126_0 ty_f126_1 ty_f126_2 ty_f126_3 ty_f126_4 ty_f126_5 ty_f126_6 ty_pl126 ty_z126 Try.underlying126 ty_ag127 ty_sz127 ty_int127 ty_ifc127 ty_bool127 ty_f127_0 ty_f127_1 ty_f127_2 ty_f127_3 ty_f127_4 ty_f127_5 ty_f127_6 ty_pl127 ty_z127 Try.underlying127 ty_ag128 ty_sz128 ty_int128 ty_ifc128 ty_bool128 ty_f128_0 ty_f128_1 ty_f128_2 ty_f128_3 ty_f128_4 ty_f128_5 ty_f128_6 ty_pl128 ty_z128 Try.underlying128 ty_ag130 ty_sz130 ty_int130 ty_ifc130 ty_bool130 ty_z130 Try.underlying130 ty_ag131 ty_sz131 ty_int131 ty_ifc131 ty_bool131 ty_z131 Try.underlying131 ty_ag132 ty_sz132 ty_int132 ty_ifc132 ty_bool132 ty_z132 Try.underlying132 ty_ag133 ty_sz133 ty_int133 ty_ifc133 ty_bool133 ty_z133 Try.underlying133 ty_ag134 ty_sz134 ty_int134 ty_ifc134 ty_bool134 ty_f134_0 ty_f134_1 ty_f134_2 ty_pl134 ty_z134 Try.underlying134 ty_ag135 ty_sz135 ty_int135 ty_ifc135 ty_bool135 ty_f135_0 ty_f135_1 ty_f135_2 ty_pl135 ty_z135 Try.underlying135 ty_ag137 ty_sz137 ty_int137 ty_ifc137 ty_bool137 ty_z137 Try.underlying137 ty_ag138 ty_sz138 ty_int138 ty_ifc138 ty_bool138 ty_z138 Try.underlying138 ty_ag139 ty_sz139 ty_int139 ty_ifc139 ty_bool139 ty_z139 Try.underlying139 ty_ag140 ty_sz140 ty_int140 ty_ifc140 ty_bool140 ty_z140 Try.underlying140 ty_ag141 ty_sz141 ty_int141 ty_ifc141 ty_bool141 ty_z141 Try.underlying141 ty_ag142 ty_sz142 ty_int142 ty_ifc142 ty_bool142 ty_z142 Try.underlying142 ty_ag144 ty_sz144 ty_int144 ty_ifc144 ty_bool144 ty_z144 Try.underlying144 ty_ag145 ty_sz145 ty_int145 ty_ifc145 ty_bool145 ty_z145 Try.underlying145 ty_ag146 ty_sz146 ty_int146 ty_ifc146 ty_bool146 ty_z146 Try.underlying146 ty_ag147 ty_sz147 ty_int147 ty_ifc147 ty_bool147 ty_z147 Try.underlying147 ty_ag148 ty_sz148 ty_int148 ty_ifc148 ty_bool148 ty_z148 Try.underlying148 ty_ag149 ty_sz149 ty_int149 ty_ifc149 ty_bool149 ty_z149 Try.underlying149 ty_ag150 ty_sz150 ty_int150 ty_ifc150 ty_bool150 ty_z150 Try.underlying150 ty_ag151 ty_sz151 ty_int151 ty_ifc151 ty_m151_0 ty_k151_0 ty_m151_1 ty_k151_1 ty_m151_2 ty_k151_2 ty_m151_3 ty_k151_3 ty_bool151 ty_z151 Try.underlying151 ty_ag152 ty_sz152 ty_int152 ty_ifc152 ty_bool152 ty_arr152 ty_pl152 ty_z152 ty_ag153 ty_sz153 ty_int153 ty_ifc153 ty_bool153 ty_z153 Try.underlying153 ty_ag154 ty_sz154 ty_int154 ty_ifc154 ty_bool154 ty_elem154 ty_app154 ty_z154 Try.underlying154 ty_ag155 ty_sz155 ty_int155 ty_ifc155 ty_bool155 ty_elem155 ty_app155 ty_z155 Try.underlying155 ty_ag156 ty_sz156 ty_int156 ty_ifc156 ty_bool156 ty_z156 Try.underlying156 ty_ag157 ty_sz157 ty_int157 ty_ifc157 ty_bool157 ty_z157 Try.underlying157 ty_ag158 ty_sz158 ty_int158 ty_ifc158 ty_bool158 ty_z158 Try.underlying158 ty_ag159 ty_sz159 ty_int159 ty_ifc159 ty_bool159 ty_z159 Try.underlying159 ty_ag160 ty_sz160 ty_int160 ty_ifc160 ty_bool160 ty_z160 Try.underlying160 ty_ag161 ty_sz161 ty_int161 ty_ifc161 ty_bool161 ty_z161 Try.underlying161 ty_ag162 ty_sz162 ty_int162 ty_ifc162 ty_bool162 ty_z162 ty_ag163 ty_sz163 ty_int163 ty_ifc163 ty_bool163 ty_z163 ty_ag164 ty_sz164 ty_int164 ty_ifc164 ty_bool164 ty_z164 ty_ag165 ty_sz165 ty_int165 ty_ifc165 ty_bool165 ty_z165 ty_ag166 ty_sz166 ty_int166 ty_ifc166 ty_bool166 ty_z166 Try.underlying166 ty_ag167 ty_sz167 ty_int167 ty_ifc167 ty_bool167 ty_elem167 ty_app167 ty_z167 Try.underlying167 ty_ag168 ty_sz168 ty_int168 ty_ifc168 ty_bool168 ty_z168 Try.underlying168 ty_ag169 ty_sz169 ty_int169 ty_ifc169 ty_bool169 ty_z169 Try.underlying169 ty_ag170 ty_sz170 ty_int170 ty_ifc170 ty_bool170 ty_z170 Try.underlying170 ty_ag172 ty_sz172 ty_int172 ty_ifc172 ty_bool172 ty_z172 Try.underlying172 ty_ag173 ty_sz173 ty_int173 ty_ifc173 ty_bool173 ty_z173 Try.underlying173 ty_ag174 ty_sz174 ty_int174 ty_ifc174 ty_bool174 ty_f174_0 ty_f174_1 ty_f174_2 ty_pl174 ty_z174 Try.underlying174 ty_ag175 ty_sz175 ty_int175 ty_ifc175 ty_bool175 ty_f175_0 ty_f175_1 ty_f175_2 ty_pl175 ty_z175 Try.underlying175 ty_ag176 ty_sz176 ty_int176 ty_ifc176 ty_bool176 ty_z176 Try.underlying176 ty_ag177 ty_sz177 ty_int177 ty_ifc177 ty_bool177 ty_z177 Try.underlying177 ty_ag178 ty_sz178 ty_int178 ty_ifc178 ty_m178_0 ty_k178_0 ty_m178_1 ty_k178_1 ty_m178_2 ty_k178_2 ty_bool178 ty_z178 Try.underlying178 ty_ag179 ty_sz179 ty_int179 ty_ifc179 ty_bool179 ty_z179 Try.underlying179 ty_ag181 ty_sz181 ty_int181 ty_ifc181 ty_bool181 ty_z181 Try.underlying181 ty_ag182 ty_sz182 ty_int182 ty_ifc182 ty_m182_0 ty_k182_0 ty_bool182 ty_z182 Try.underlying182 ty_ag184 ty_sz184 ty_int184 ty_ifc184 ty_bool184 ty_z184 Try.underlying184 ty_ag185 ty_sz185 ty_int185 ty_eq185 ty_ifc185 ty_bool185 ty_f185_0 ty_f185_1 ty_f185_2 ty_f185_3 ty_pl185 ty_z185 Try.underlying185 ty_ag186 ty_sz186 ty_int186 ty_eq186 ty_ifc186 ty_bool186 ty_f186_0 ty_f186_1 ty_f186_2 ty_f186_3 ty_pl186 ty_z186 Try.underlying186 ty_ag187 ty_sz187 ty_int187 ty_ifc187 ty_bool187 ty_z187 Try.underlying187 ty_ag189 ty_sz189 ty_int189 ty_ifc189 ty_bool189 ty_z189 Try.underlying189 ty_ag190 ty_sz190 ty_int190 ty_ifc190 ty_bool190 ty_f190_0 ty_pl190 ty_z190 Try.underlying190 ty_ag191 ty_sz191 ty_int191 ty_ifc191 ty_bool191 ty_f191_0 ty_pl191 ty_z191 Try.underlying191 ty_ag192 ty_sz192 ty_int192 ty_ifc192 ty_bool192 ty_f192_0 ty_f192_1 ty_pl192 ty_z192 Try.underlying192 ty_ag193 ty_sz193 ty_int193 ty_ifc193 ty_bool193 ty_f193_0 ty_f193_1 ty_pl193 ty_z193 Try.underlying193 ty_ag194 ty_sz194 ty_int194 ty_ifc194 ty_bool194 ty_f194_0 ty_f194_1 ty_f194_2 ty_f194_3 ty_f194_4 ty_pl194 ty_z194 Try.underlying194 ty_ag195 ty_sz195 ty_int195 ty_ifc195 ty_bool195 ty_f195_0 ty_f195_1 ty_f195_2 ty_f195_3 ty_f195_4 ty_pl195 ty_z195 Try.underlying195 ty_ag196 ty_sz196 ty_int196 ty_ifc196 ty_bool196 ty_z196 Try.underlying196 ty_ag197 ty_sz197 ty_int197 ty_ifc197 ty_bool197 ty_f197_0 ty_pl197 ty_z197 Try.underlying197 ty_ag198 ty_sz198 ty_int198 ty_ifc198 ty_bool198 ty_f198_0 ty_pl198 ty_z198 Try.underlying198 ty_ag199 ty_sz199 ty_int199 ty_ifc199 ty_m199_0 ty_k199_0 ty_m199_1 ty_k199_1 ty_bool199 ty_z199 Try.underlying199 ty_ag200 ty_sz200 ty_int200 ty_ifc200 ty_bool200 ty_z200 Try.underlying200 ty_ag201 ty_sz201 ty_int201 ty_ifc201 ty_bool201 ty_z201 Try.underlying201 ty_ag202 ty_sz202 ty_int202 ty_ifc202 ty_bool202 ty_arr202 ty_pl202 ty_z202 ty_ag203 ty_sz203 ty_int203 ty_ifc203 ty_bool203 ty_arr203 ty_pl203 ty_z203 ty_ag204 ty_sz204 ty_int204 ty_ifc204 ty_bool204 ty_z204 Try.underlying204 ty_ag206 ty_sz206 ty_int206 ty_ifc206 ty_bool206 ty_z206 Try.underlying206 ty_ag207 ty_sz207 ty_int207 ty_ifc207 ty_bool207 ty_z207 Try.underlying207 ty_ag208 ty_sz208 ty_int208 ty_ifc208 ty_bool208 ty_z208 Try.underlying208 ty_ag209 ty_sz209 ty_int209 ty_ifc209 ty_bool209 ty_z209 Try.underlying209 ty_ag210 ty_sz210 ty_int210 ty_ifc210 ty_bool210 ty_z210 ty_ag211 ty_sz211 ty_int211 ty_ifc211 ty_bool211 ty_z211 ty_ag212 ty_sz212 ty_int212 ty_ifc212 ty_bool212 ty_f212_0 ty_f212_1 ty_pl212 ty_z212 Try.underlying212 ty_ag213 ty_sz213 ty_int213 ty_ifc213 ty_bool213 ty_f213_0 ty_f213_1 ty_pl213 ty_z213 Try.underlying213 ty_ag214 ty_sz214 ty_int214 ty_ifc214 ty_bool214 ty_f214_0 ty_f214_1 ty_f214_2 ty_f214_3 ty_f214_4 ty_pl214 ty_z214 Try.underlying214 ty_ag215 ty_sz215 ty_int215 ty_ifc215 ty_bool215 ty_f215_0 ty_f215_1 ty_f215_2 ty_f215_3 ty_f215_4 ty_pl215 ty_z215 Try.underlying215 ty_ag216 ty_sz216 ty_int216 ty_ifc216 ty_bool216 ty_z216 Try.underlying216 ty_ag217 ty_sz217 ty_int217 ty_ifc217 ty_bool217 ty_f217_0 ty_pl217 ty_z217 Try.underlying217 ty_ag218 ty_sz218 ty_int218 ty_ifc218 ty_bool218 ty_f218_0 ty_pl218 ty_z218 Try.underlying218 ty_ag219 ty_sz219 ty_int219 ty_ifc219 ty_bool219 ty_z219 Try.underlying219 ty_ag220 ty_sz220 ty_int220 ty_ifc220 ty_bool220 ty_z220 Try.underlying220 ty_ag221 ty_sz221 ty_int221 ty_ifc221 ty_bool221 ty_z221 Try.underlying221 ty_ag222 ty_sz222 ty_int222 ty_ifc222 ty_bool222 ty_z222 Try.underlying222 ty_ag223 ty_sz223 ty_int223 ty_ifc223 ty_bool223 ty_z223 Try.underlying223 ty_ag224 ty_sz224 ty_int224 ty_ifc224 ty_bool224 ty_z224 Try.underlying224 ty_ag225 ty_sz225 ty_int225 ty_ifc225 ty_bool225 ty_f225_0 ty_f225_1 ty_pl225 ty_z225 Try.underlying225 ty_ag226 ty_sz226 ty_int226 ty_ifc226 ty_bool226 ty_f226_0 ty_f226_1 ty_pl226 ty_z226 Try.underlying226 ty_ag227 ty_sz227 ty_int227 ty_ifc227 ty_bool227 ty_elem227 ty_app227 ty_z227 Try.underlying227 ty_ag228 ty_sz228 ty_int228 ty_eq228 ty_ifc228 ty_bool228 ty_f228_0 ty_f228_1 ty_pl228 ty_z228 Try.underlying228 ty_ag229 ty_sz229 ty_int229 ty_eq229 ty_ifc229 ty_bool229 ty_f229_0 ty_f229_1 ty_pl229 ty_z229 Try.underlying229 ty_ag230 ty_sz230 ty_int230 ty_ifc230 ty_bool230 ty_z230 Try.underlying230 ty_ag231 ty_sz231 ty_int231 ty_ifc231 ty_bool231 ty_z231 Try.underlying231 ty_ag232 ty_sz232 ty_int232 ty_ifc232 ty_bool232 ty_z232 Try.underlying232 ty_ag233 ty_sz233 ty_int233 ty_ifc233 ty_bool233 ty_z233 Try.underlying233 ty_ag234 ty_sz234 ty_int234 ty_ifc234 ty_bool234 ty_z234 Try.underlying234 ty_ag235 ty_sz235 ty_int235 ty_ifc235 ty_bool235 ty_elem235 ty_app235 ty_z235 Try.underlying235 ty_ag236 ty_sz236 ty_int236 ty_ifc236 ty_bool236 ty_z236 Try.underlying236 ty_ag237 ty_sz237 ty_int237 ty_ifc237 ty_bool237 ty_z237 Try.underlying237 ty_ag238 ty_sz238 ty_int238 ty_ifc238 ty_bool238 ty_z238 Try.underlying238 ty_ag239 ty_sz239 ty_int239 ty_ifc239 ty_bool239 ty_f239_0 ty_f239_1 ty_f239_2 ty_pl239 ty_z239 Try.underlying239 ty_ag240 ty_sz240 ty_int240 ty_ifc240 ty_bool240 ty_f240_0 ty_f240_1 ty_f240_2 ty_pl240 ty_z240 Try.underlying240 ty_ag241 ty_sz241 ty_int241 ty_ifc241 ty_bool241 ty_z241 Try.underlying241 ty_ag242 ty_sz242 ty_int242 ty_ifc242 ty_m242_0 ty_k242_0 ty_m242_1 ty_k242_1 ty_bool242 ty_z242 Try.underlying242 ty_ag244 ty_sz244 ty_int244 ty_ifc244 ty_bool244 ty_z244 Try.underlying244 ty_ag245 ty_sz245 ty_int245 ty_ifc245 ty_bool245 ty_z245 Try.underlying245 ty_ag246 ty_sz246 ty_int246 ty_ifc246 ty_bool246 ty_z246 Try.underlying246 ty_ag247 ty_sz247 ty_int247 ty_ifc247 ty_bool247 ty_z247 Try.underlying247 ty_ag248 ty_sz248 ty_int248 ty_ifc248 ty_bool248 ty_z248 Try.underlying248 ty_ag249 ty_sz249 ty_int249 ty_ifc249 ty_bool249 ty_z249 Try.underlying249 ty_ag250 ty_sz250 ty_int250 ty_ifc250 ty_bool250 ty_z250 Try.underlying250 ty_ag251 ty_sz251 ty_int251 ty_ifc251 ty_bool251 ty_f251_0 ty_f251_1 ty_f251_2 ty_f251_3 ty_pl251 ty_z251 Try.underlying251 ty_ag252 ty_sz252 ty_int252 ty_ifc252 ty_bool252 ty_f252_0 ty_f252_1 ty_f252_2 ty_f252_3 ty_pl252 ty_z252 Try.underlying252 ty_ag253 ty_sz253 ty_int253 ty_ifc253 ty_bool253 ty_arr253 ty_pl253 ty_z253 ty_ag254 ty_sz254 ty_int254 ty_ifc254 ty_bool254 ty_pl254 ty_z254 Try.underlying254 ty_ag255 ty_sz255 ty_int255 ty_ifc255 ty_bool255 ty_pl255 ty_z255 Try.underlying255 ty_ag256 ty_sz256 ty_int256 ty_ifc256 ty_bool256 ty_z256 Try.underlying256 ty_ag257 ty_sz257 ty_int257 ty_ifc257 ty_m257_0 ty_k257_0 ty_bool257 ty_z257 Try.underlying257 ty_ag258 ty_sz258 ty_int258 ty_ifc258 ty_bool258 ty_z258 Try.underlying258 ty_ag259 ty_sz259 ty_int259 ty_ifc259 ty_bool259 ty_z259 Try.underlying259 ty_ag260 ty_sz260 ty_int260 ty_ifc260 ty_bool260 ty_z260 Try.underlying260 ty_ag261 ty_sz261 ty_int261 ty_ifc261 ty_bool261 ty_z261 Try.underlying261 ty_ag262 ty_sz262 ty_int262 ty_ifc262 ty_bool262 ty_f262_0 ty_f262_1 ty_f262_2 ty_f262_3 ty_f262_4 ty_f262_5 ty_f262_6 ty_f262_7 ty_f262_8 ty_f262_9 ty_f262_10 ty_pl262 ty_z262 Try.underlying262 ty_ag263 ty_sz263 ty_int263 ty_ifc263 ty_bool263 ty_f263_0 ty_f263_1 ty_f263_2 ty_f263_3 ty_f263_4 ty_f263_5 ty_f263_6 ty_f263_7 ty_f263_8 ty_f263_9 ty_f263_10 ty_pl263 ty_z263 Try.underlying263 ty_ag264 ty_sz264 ty_int264 ty_ifc264 ty_bool264 ty_z264 Try.underlying264 ty_ag266 ty_sz266 ty_int266 ty_ifc266 ty_bool266 ty_z266 Try.underlying266 ty_ag267 ty_sz267 ty_int267 ty_ifc267 ty_bool267 ty_z267 Try.underlying267 Try.params2 fok2 Try.func2 Try.params3 fok3 Try.func3 Try.params4 fok4 Try.func4 Try.params5 fok5 Try.func5 Try.params6 fok6 Try.func6 Try.params7 fok7 Try.func7 Try.params8 fok8 Try.func8 Try.params9 fok9 Try.func9 Try.params10 fok10 Try.func10 Try.params11 fok11 Try.func11 Try.params12 fok12 Try.func12 Try.params13 fok13 Try.func13 Try.params14 fok14 Try.func14 Try.params15 fok15 Try.func15 Try.params16 fok16 Try.func16 Try.params17 fok17 Try.func17 Try.params18 fok18 Try.func18 Try.params19 fok19 Try.func19 Try.params20 fok20 Try.func20 Try.params21 fok21 Try.func21 Try.params22 fok22 Try.func22 Try.params23 fok23 Try.func23 Try.params24 fok24 Try.func24 Try.params25 fok25 Try.func25 Try.params26 fok26 Try.func26 Try.params27 fok27 Try.func27 Try.params28 fok28 Try.func28 Try.params29 fok29 Try.func29 Try.params30 fok30 Try.func30 Try.params31 fok31 Try.func31 Try.params32 fok32 Try.func32 Try.params33 fok33 Try.func33 Try.params34 fok34 Try.func34 Try.params35 fok35 Try.func35 Try.params36 fok36 Try.func36 Try.params37 fok37 Try.func37 Try.params38 fok38 Try.func38 Try.params39 fok39 Try.func39 Try.params40 fok40 Try.func40 Try.params41 fok41 Try.func41 Try.params42 fok42 Try.func42 Try.params43 fok43 Try.func43 Try.params44 fok44 Try.func44 Try.params45 fok45 Try.func45 Try.params46 fok46 Try.func46 Try.params47 fok47 Try.func47 Try.params48 fok48 Try.func48 Try.params49 fok49 Try.func49 Try.params50 fok50 Try.func50 Try.params51 fok51 Try.func51 Try.params52 fok52 Try.func52 Try.params53 fok53 Try.func53 Try.params54 fok54 Try.func54 Try.params55 fok55 Try.func55 Try.params56 fok56 Try.func56 Try.params57 fok57 Try.func57 Try.params58 fok58 Try.func58 Try.params59 fok59 Try.func59 Try.params60 fok60 Try.func60 Try.params61 fok61 Try.func61 Try.params62 fok62 Try.func62 Try.params63 fok63 Try.func63 Try.params64 fok64 Try.func64 Try.params65 fok65 Try.func65 Try.params66 fok66 Try.func66 Try.params67 fok67 Try.func67 Try.params68 fok68 Try.func68 Try.params69 fok69 Try.func69 Try.params70 fok70 Try.func70 Try.params71 fok71 Try.func71 Try.params72 fok72 Try.func72 Try.params73 fok73 Try.func73 Try.params74 fok74 Try.func74 Try.params75 fok75 Try.func75 Try.params76 fok76 Try.func76 Try.params77 fok77 Try.func77 Try.params78 fok78 Try.func78 Try.params79 fok79 Try.func79 Try.params80 fok80 Try.func80 Try.params81 fok81 Try.func81 Try.params82 fok82 Try.func82 Try.params83 fok83 Try.func83 Try.params84 fok84 Try.func84 Try.params85 fok85 Try.func85 Try.params86 fok86 Try.func86 Try.params87 fok87 Try.func87 Try.params88 fok88 Try.func88 Try.params89 fok89 Try.func89 Try.params90 fok90 Try.func90 Try.params91 fok91 Try.func91 Try.params92 fok92 Try.func92 Try.params93 fok93 Try.func93 Try.params94 fok94 Try.func94 Try.params95 fok95 Try.func95 Try.params96 fok96 Try.func96 Try.params97 fok97 Try.func97 Try.params98 fok98 Try.func98 Try.params99 fok99 Try.func99 Try.params100 fok100 Try.func100 Try.params101 fok101 Try.func101 Try.params102 fok102 Try.func102 Try.params103 fok103 Try.func103 Try.params104 fok104 Try.func104 Try.params105 fok105 Try.func105 Try.params106 fok106 Try.func106 Try.params107 fok107 Try.func107 Try.params108 fok108 Try.func108 Try.params109 fok109 Try.func109 Try.params110 fok110 Try.func110 Try.params111 fok111 Try.func111 Try.params112 fok112 Try.func112 Try.params113 fok113 Try.func113 Try.params114 fok114 Try.func114 Try.params115 fok115 Try.func115 Try.params116 fok116 Try.func116 Try.params117 fok117 Try.func117 Try.params118 fok118 Try.func118 Try.params119 fok119 Try.func119 Try.params120 fok120 Try.func120 Try.params121 fok121 Try.func121 Try.params122 fok122 Try.func122 Try.params123 fok123 Try.func123 Try.params124 fok124 Try.func124 Try.params125 fok125 Try.func125 Try.params126 fok126 Try.func126 Try.params127 fok127 Try.func127 Try.params128 fok128 Try.func128 Try.params129 fok129 Try.func129 Try.params130 fok130 Try.func130 Try.params131 fok131 Try.func131 Try.params132 fok132 Try.func132 Try.params133 fok133 Try.func133 Try.params134 fok134 Try.func134 Try.params135 fok135 Try.func135 Try.params136 fok136 Try.func136 Try.params137 fok137 Try.func137 Try.params138 fok138 Try.func138 Try.params139 fok139 Try.func139 Try.params140 fok140 Try.func140 Try.params141 fok141 Try.func141 Try.params142 fok142 Try.func142 Try.params158 fok158 Try.func158 Try.params159 fok159 Try.func159 Try.params160 fok160 Try.func160 Try.params161 fok161 Try.func161 Try.params162 fok162 Try.func162 Try.params163 fok163 Try.func163 Try.params164 fok164 Try.func164 Try.params165 fok165 Try.func165 Try.params167 fok167 Try.func167 Try.params168 fok168 Try.func168 Try.params169 fok169 Try.func169 Try.params170 fok170 Try.func170 Try.params171 fok171 Try.func171 Try.params172 fok172 Try.func172

end Go.Proofs.Ytjibodklckppfaa

