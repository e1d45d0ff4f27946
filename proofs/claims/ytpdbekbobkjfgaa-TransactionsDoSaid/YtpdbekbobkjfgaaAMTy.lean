/-
  The types of this seat, as the abstract view asks for them.
  Conditions: none.
-/
import Derived.Test.YtpdbekbobkjfgaaProg
import Derived.Test.YtpdbekbobkjfgaaKC2
import Derived.KernelRfl
namespace Go.Proofs.Ytpdbekbobkjfgaa
set_option linter.unusedVariables false

theorem ty_ag1 : aggT Try.prog 1 = some false := by kernel_rfl
theorem ty_sz1 : szT Try.prog 1 = some 1 := by kernel_rfl
theorem ty_int1 : intT Try.prog 1 = none := by kernel_rfl
theorem ty_ifc1 : ifaceT Try.prog 1 = false := by kernel_rfl
theorem ty_bool1 : boolT Try.prog 1 = false := by kernel_rfl
theorem ty_z1 : zeroT Try.prog 1 = some [.nilFunc] := by kernel_rfl
theorem ty_ag2 : aggT Try.prog 2 = some false := by kernel_rfl
theorem ty_sz2 : szT Try.prog 2 = some 1 := by kernel_rfl
theorem ty_int2 : intT Try.prog 2 = some .i64 := by kernel_rfl
theorem ty_ifc2 : ifaceT Try.prog 2 = false := by kernel_rfl
theorem ty_bool2 : boolT Try.prog 2 = false := by kernel_rfl
theorem ty_z2 : zeroT Try.prog 2 = some [.int .i64 (0)] := by kernel_rfl
theorem ty_ag3 : aggT Try.prog 3 = some false := by kernel_rfl
theorem ty_sz3 : szT Try.prog 3 = some 1 := by kernel_rfl
theorem ty_int3 : intT Try.prog 3 = some .i64 := by kernel_rfl
theorem ty_ifc3 : ifaceT Try.prog 3 = false := by kernel_rfl
theorem ty_bool3 : boolT Try.prog 3 = false := by kernel_rfl
theorem ty_z3 : zeroT Try.prog 3 = some [.int .i64 (0)] := by kernel_rfl
theorem ty_ag4 : aggT Try.prog 4 = some false := by kernel_rfl
theorem ty_sz4 : szT Try.prog 4 = some 1 := by kernel_rfl
theorem ty_int4 : intT Try.prog 4 = none := by kernel_rfl
theorem ty_ifc4 : ifaceT Try.prog 4 = false := by kernel_rfl
theorem ty_bool4 : boolT Try.prog 4 = true := by kernel_rfl
theorem ty_z4 : zeroT Try.prog 4 = some [.bool false] := by kernel_rfl
theorem ty_ag5 : aggT Try.prog 5 = some false := by kernel_rfl
theorem ty_sz5 : szT Try.prog 5 = some 1 := by kernel_rfl
theorem ty_int5 : intT Try.prog 5 = some .u8 := by kernel_rfl
theorem ty_ifc5 : ifaceT Try.prog 5 = false := by kernel_rfl
theorem ty_bool5 : boolT Try.prog 5 = false := by kernel_rfl
theorem ty_z5 : zeroT Try.prog 5 = some [.int .u8 (0)] := by kernel_rfl
theorem ty_ag6 : aggT Try.prog 6 = some false := by kernel_rfl
theorem ty_sz6 : szT Try.prog 6 = some 1 := by kernel_rfl
theorem ty_int6 : intT Try.prog 6 = some .u8 := by kernel_rfl
theorem ty_ifc6 : ifaceT Try.prog 6 = false := by kernel_rfl
theorem ty_bool6 : boolT Try.prog 6 = false := by kernel_rfl
theorem ty_z6 : zeroT Try.prog 6 = some [.int .u8 (0)] := by kernel_rfl
theorem ty_ag7 : aggT Try.prog 7 = some true := by kernel_rfl
theorem ty_sz7 : szT Try.prog 7 = some 4 := by kernel_rfl
theorem ty_int7 : intT Try.prog 7 = none := by kernel_rfl
theorem ty_eq7 : eqT Try.prog 7 = some [true, true, false, true] := by kernel_rfl
theorem ty_ifc7 : ifaceT Try.prog 7 = false := by kernel_rfl
theorem ty_bool7 : boolT Try.prog 7 = false := by kernel_rfl
theorem ty_f7_0 : fieldT Try.prog 7 0 = some (0, 1, false) := by kernel_rfl
theorem ty_f7_1 : fieldT Try.prog 7 1 = some (1, 1, false) := by kernel_rfl
theorem ty_f7_2 : fieldT Try.prog 7 2 = some (2, 1, false) := by kernel_rfl
theorem ty_f7_3 : fieldT Try.prog 7 3 = some (3, 1, false) := by kernel_rfl
theorem ty_pl7 : placeT Try.prog 7 = some (fun i => #[(0, 1), (1, 1), (2, 1), (3, 1)][i]?) := by kernel_rfl
theorem ty_z7 : zeroT Try.prog 7 = some [.int .i64 (0), .int .i64 (0), .bool false, .int .u8 (0)] := by kernel_rfl
theorem ty_ag8 : aggT Try.prog 8 = some true := by kernel_rfl
theorem ty_sz8 : szT Try.prog 8 = some 4 := by kernel_rfl
theorem ty_int8 : intT Try.prog 8 = none := by kernel_rfl
theorem ty_eq8 : eqT Try.prog 8 = some [true, true, false, true] := by kernel_rfl
theorem ty_ifc8 : ifaceT Try.prog 8 = false := by kernel_rfl
theorem ty_m8_0 : methA Try.prog 8 "Error" = some 105 := by kernel_rfl
theorem ty_k8_0 : nilOk Try.prog 8 "Error" = true := by kernel_rfl
theorem ty_m8_1 : methA Try.prog 8 "RuntimeError" = some 106 := by kernel_rfl
theorem ty_k8_1 : nilOk Try.prog 8 "RuntimeError" = true := by kernel_rfl
theorem ty_bool8 : boolT Try.prog 8 = false := by kernel_rfl
theorem ty_f8_0 : fieldT Try.prog 8 0 = some (0, 1, false) := by kernel_rfl
theorem ty_f8_1 : fieldT Try.prog 8 1 = some (1, 1, false) := by kernel_rfl
theorem ty_f8_2 : fieldT Try.prog 8 2 = some (2, 1, false) := by kernel_rfl
theorem ty_f8_3 : fieldT Try.prog 8 3 = some (3, 1, false) := by kernel_rfl
theorem ty_pl8 : placeT Try.prog 8 = some (fun i => #[(0, 1), (1, 1), (2, 1), (3, 1)][i]?) := by kernel_rfl
theorem ty_z8 : zeroT Try.prog 8 = some [.int .i64 (0), .int .i64 (0), .bool false, .int .u8 (0)] := by kernel_rfl
theorem ty_ag9 : aggT Try.prog 9 = some false := by kernel_rfl
theorem ty_sz9 : szT Try.prog 9 = some 1 := by kernel_rfl
theorem ty_int9 : intT Try.prog 9 = none := by kernel_rfl
theorem ty_ifc9 : ifaceT Try.prog 9 = false := by kernel_rfl
theorem ty_bool9 : boolT Try.prog 9 = false := by kernel_rfl
theorem ty_z9 : zeroT Try.prog 9 = some [.string ⟨#[]⟩] := by kernel_rfl
theorem ty_ag10 : aggT Try.prog 10 = some false := by kernel_rfl
theorem ty_sz10 : szT Try.prog 10 = some 1 := by kernel_rfl
theorem ty_int10 : intT Try.prog 10 = none := by kernel_rfl
theorem ty_ifc10 : ifaceT Try.prog 10 = false := by kernel_rfl
theorem ty_m10_0 : methA Try.prog 10 "Error" = some 107 := by kernel_rfl
theorem ty_k10_0 : nilOk Try.prog 10 "Error" = true := by kernel_rfl
theorem ty_m10_1 : methA Try.prog 10 "RuntimeError" = some 108 := by kernel_rfl
theorem ty_k10_1 : nilOk Try.prog 10 "RuntimeError" = true := by kernel_rfl
theorem ty_bool10 : boolT Try.prog 10 = false := by kernel_rfl
theorem ty_z10 : zeroT Try.prog 10 = some [.string ⟨#[]⟩] := by kernel_rfl
theorem ty_ag11 : aggT Try.prog 11 = some false := by kernel_rfl
theorem ty_sz11 : szT Try.prog 11 = some 1 := by kernel_rfl
theorem ty_int11 : intT Try.prog 11 = none := by kernel_rfl
theorem ty_ifc11 : ifaceT Try.prog 11 = false := by kernel_rfl
theorem ty_m11_0 : methA Try.prog 11 "Error" = some 109 := by kernel_rfl
theorem ty_k11_0 : nilOk Try.prog 11 "Error" = true := by kernel_rfl
theorem ty_m11_1 : methA Try.prog 11 "RuntimeError" = some 110 := by kernel_rfl
theorem ty_k11_1 : nilOk Try.prog 11 "RuntimeError" = true := by kernel_rfl
theorem ty_bool11 : boolT Try.prog 11 = false := by kernel_rfl
theorem ty_z11 : zeroT Try.prog 11 = some [.string ⟨#[]⟩] := by kernel_rfl
theorem ty_ag12 : aggT Try.prog 12 = some false := by kernel_rfl
theorem ty_sz12 : szT Try.prog 12 = some 1 := by kernel_rfl
theorem ty_int12 : intT Try.prog 12 = some .u64 := by kernel_rfl
theorem ty_ifc12 : ifaceT Try.prog 12 = false := by kernel_rfl
theorem ty_bool12 : boolT Try.prog 12 = false := by kernel_rfl
theorem ty_z12 : zeroT Try.prog 12 = some [.int .u64 (0)] := by kernel_rfl
theorem ty_ag13 : aggT Try.prog 13 = some true := by kernel_rfl
theorem ty_sz13 : szT Try.prog 13 = some 2 := by kernel_rfl
theorem ty_int13 : intT Try.prog 13 = none := by kernel_rfl
theorem ty_ifc13 : ifaceT Try.prog 13 = false := by kernel_rfl
theorem ty_bool13 : boolT Try.prog 13 = false := by kernel_rfl
theorem ty_f13_0 : fieldT Try.prog 13 0 = some (0, 1, false) := by kernel_rfl
theorem ty_f13_1 : fieldT Try.prog 13 1 = some (1, 1, false) := by kernel_rfl
theorem ty_pl13 : placeT Try.prog 13 = some (fun i => #[(0, 1), (1, 1)][i]?) := by kernel_rfl
theorem ty_z13 : zeroT Try.prog 13 = some [.string ⟨#[]⟩, .int .u64 (0)] := by kernel_rfl
theorem ty_ag14 : aggT Try.prog 14 = some true := by kernel_rfl
theorem ty_sz14 : szT Try.prog 14 = some 2 := by kernel_rfl
theorem ty_int14 : intT Try.prog 14 = none := by kernel_rfl
theorem ty_ifc14 : ifaceT Try.prog 14 = false := by kernel_rfl
theorem ty_m14_0 : methA Try.prog 14 "Error" = some 111 := by kernel_rfl
theorem ty_k14_0 : nilOk Try.prog 14 "Error" = true := by kernel_rfl
theorem ty_m14_1 : methA Try.prog 14 "RuntimeError" = some 112 := by kernel_rfl
theorem ty_k14_1 : nilOk Try.prog 14 "RuntimeError" = true := by kernel_rfl
theorem ty_bool14 : boolT Try.prog 14 = false := by kernel_rfl
theorem ty_f14_0 : fieldT Try.prog 14 0 = some (0, 1, false) := by kernel_rfl
theorem ty_f14_1 : fieldT Try.prog 14 1 = some (1, 1, false) := by kernel_rfl
theorem ty_pl14 : placeT Try.prog 14 = some (fun i => #[(0, 1), (1, 1)][i]?) := by kernel_rfl
theorem ty_z14 : zeroT Try.prog 14 = some [.string ⟨#[]⟩, .int .u64 (0)] := by kernel_rfl
theorem ty_ag15 : aggT Try.prog 15 = some false := by kernel_rfl
theorem ty_sz15 : szT Try.prog 15 = some 1 := by kernel_rfl
theorem ty_int15 : intT Try.prog 15 = none := by kernel_rfl
theorem ty_ifc15 : ifaceT Try.prog 15 = false := by kernel_rfl
theorem ty_m15_0 : methA Try.prog 15 "Error" = some 113 := by kernel_rfl
theorem ty_k15_0 : nilOk Try.prog 15 "Error" = true := by kernel_rfl
theorem ty_m15_1 : methA Try.prog 15 "RuntimeError" = some 114 := by kernel_rfl
theorem ty_k15_1 : nilOk Try.prog 15 "RuntimeError" = true := by kernel_rfl
theorem ty_bool15 : boolT Try.prog 15 = false := by kernel_rfl
theorem ty_z15 : zeroT Try.prog 15 = some [.pointer none] := by kernel_rfl
theorem ty_ag16 : aggT Try.prog 16 = some false := by kernel_rfl
theorem ty_sz16 : szT Try.prog 16 = some 1 := by kernel_rfl
theorem ty_int16 : intT Try.prog 16 = none := by kernel_rfl
theorem ty_ifc16 : ifaceT Try.prog 16 = false := by kernel_rfl
theorem ty_m16_0 : methA Try.prog 16 "Error" = some 115 := by kernel_rfl
theorem ty_k16_0 : nilOk Try.prog 16 "Error" = true := by kernel_rfl
theorem ty_m16_1 : methA Try.prog 16 "RuntimeError" = some 116 := by kernel_rfl
theorem ty_k16_1 : nilOk Try.prog 16 "RuntimeError" = true := by kernel_rfl
theorem ty_bool16 : boolT Try.prog 16 = false := by kernel_rfl
theorem ty_z16 : zeroT Try.prog 16 = some [.pointer none] := by kernel_rfl
theorem ty_ag17 : aggT Try.prog 17 = some false := by kernel_rfl
theorem ty_sz17 : szT Try.prog 17 = some 1 := by kernel_rfl
theorem ty_int17 : intT Try.prog 17 = none := by kernel_rfl
theorem ty_ifc17 : ifaceT Try.prog 17 = false := by kernel_rfl
theorem ty_m17_0 : methA Try.prog 17 "Align" = some 117 := by kernel_rfl
theorem ty_k17_0 : nilOk Try.prog 17 "Align" = true := by kernel_rfl
theorem ty_bool17 : boolT Try.prog 17 = false := by kernel_rfl
theorem ty_z17 : zeroT Try.prog 17 = some [.pointer none] := by kernel_rfl
theorem ty_ag18 : aggT Try.prog 18 = some true := by kernel_rfl
theorem ty_sz18 : szT Try.prog 18 = some 1 := by kernel_rfl
theorem ty_int18 : intT Try.prog 18 = none := by kernel_rfl
theorem ty_ifc18 : ifaceT Try.prog 18 = false := by kernel_rfl
theorem ty_bool18 : boolT Try.prog 18 = false := by kernel_rfl
theorem ty_f18_0 : fieldT Try.prog 18 0 = some (0, 1, false) := by kernel_rfl
theorem ty_pl18 : placeT Try.prog 18 = some (fun i => #[(0, 1)][i]?) := by kernel_rfl
theorem ty_z18 : zeroT Try.prog 18 = some [.pointer none] := by kernel_rfl
theorem ty_ag19 : aggT Try.prog 19 = some true := by kernel_rfl
theorem ty_sz19 : szT Try.prog 19 = some 1 := by kernel_rfl
theorem ty_int19 : intT Try.prog 19 = none := by kernel_rfl
theorem ty_ifc19 : ifaceT Try.prog 19 = false := by kernel_rfl
theorem ty_m19_0 : methA Try.prog 19 "Error" = some 118 := by kernel_rfl
theorem ty_k19_0 : nilOk Try.prog 19 "Error" = true := by kernel_rfl
theorem ty_m19_1 : methA Try.prog 19 "RuntimeError" = some 119 := by kernel_rfl
theorem ty_k19_1 : nilOk Try.prog 19 "RuntimeError" = true := by kernel_rfl
theorem ty_bool19 : boolT Try.prog 19 = false := by kernel_rfl
theorem ty_f19_0 : fieldT Try.prog 19 0 = some (0, 1, false) := by kernel_rfl
theorem ty_pl19 : placeT Try.prog 19 = some (fun i => #[(0, 1)][i]?) := by kernel_rfl
theorem ty_z19 : zeroT Try.prog 19 = some [.pointer none] := by kernel_rfl
theorem ty_ag20 : aggT Try.prog 20 = some false := by kernel_rfl
theorem ty_sz20 : szT Try.prog 20 = some 1 := by kernel_rfl
theorem ty_int20 : intT Try.prog 20 = none := by kernel_rfl
theorem ty_ifc20 : ifaceT Try.prog 20 = true := by kernel_rfl
theorem ty_bool20 : boolT Try.prog 20 = false := by kernel_rfl
theorem ty_z20 : zeroT Try.prog 20 = some [.nilIface] := by kernel_rfl
theorem ty_ag21 : aggT Try.prog 21 = some false := by kernel_rfl
theorem ty_sz21 : szT Try.prog 21 = some 1 := by kernel_rfl
theorem ty_int21 : intT Try.prog 21 = some .i32 := by kernel_rfl
theorem ty_ifc21 : ifaceT Try.prog 21 = false := by kernel_rfl
theorem ty_bool21 : boolT Try.prog 21 = false := by kernel_rfl
theorem ty_z21 : zeroT Try.prog 21 = some [.int .i32 (0)] := by kernel_rfl
theorem ty_ag22 : aggT Try.prog 22 = some false := by kernel_rfl
theorem ty_sz22 : szT Try.prog 22 = some 1 := by kernel_rfl
theorem ty_int22 : intT Try.prog 22 = some .u16 := by kernel_rfl
theorem ty_ifc22 : ifaceT Try.prog 22 = false := by kernel_rfl
theorem ty_bool22 : boolT Try.prog 22 = false := by kernel_rfl
theorem ty_z22 : zeroT Try.prog 22 = some [.int .u16 (0)] := by kernel_rfl
theorem ty_ag23 : aggT Try.prog 23 = some false := by kernel_rfl
theorem ty_sz23 : szT Try.prog 23 = some 1 := by kernel_rfl
theorem ty_int23 : intT Try.prog 23 = none := by kernel_rfl
theorem ty_ifc23 : ifaceT Try.prog 23 = false := by kernel_rfl
theorem ty_bool23 : boolT Try.prog 23 = false := by kernel_rfl
theorem ty_elem23 : elemT Try.prog 23 = some (5, 1, false) := by kernel_rfl
theorem ty_app23 : appT Try.prog 23 = some (5, 1, 1) := by kernel_rfl
theorem ty_z23 : zeroT Try.prog 23 = some [.slice none 0 0] := by kernel_rfl
theorem ty_ag24 : aggT Try.prog 24 = some true := by kernel_rfl
theorem ty_sz24 : szT Try.prog 24 = some 6 := by kernel_rfl
theorem ty_int24 : intT Try.prog 24 = none := by kernel_rfl
theorem ty_ifc24 : ifaceT Try.prog 24 = false := by kernel_rfl
theorem ty_bool24 : boolT Try.prog 24 = false := by kernel_rfl
theorem ty_f24_0 : fieldT Try.prog 24 0 = some (0, 1, false) := by kernel_rfl
theorem ty_f24_1 : fieldT Try.prog 24 1 = some (1, 1, false) := by kernel_rfl
theorem ty_f24_2 : fieldT Try.prog 24 2 = some (2, 1, false) := by kernel_rfl
theorem ty_f24_3 : fieldT Try.prog 24 3 = some (3, 1, false) := by kernel_rfl
theorem ty_f24_4 : fieldT Try.prog 24 4 = some (4, 1, false) := by kernel_rfl
theorem ty_f24_5 : fieldT Try.prog 24 5 = some (5, 1, false) := by kernel_rfl
theorem ty_pl24 : placeT Try.prog 24 = some (fun i => #[(0, 1), (1, 1), (2, 1), (3, 1), (4, 1), (5, 1)][i]?) := by kernel_rfl
theorem ty_z24 : zeroT Try.prog 24 = some [.int .u8 (0), .int .u8 (0), .int .u8 (0), .int .u16 (0), .int .u8 (0), .slice none 0 0] := by kernel_rfl
theorem ty_ag25 : aggT Try.prog 25 = some true := by kernel_rfl
theorem ty_sz25 : szT Try.prog 25 = some 6 := by kernel_rfl
theorem ty_int25 : intT Try.prog 25 = none := by kernel_rfl
theorem ty_ifc25 : ifaceT Try.prog 25 = false := by kernel_rfl
theorem ty_bool25 : boolT Try.prog 25 = false := by kernel_rfl
theorem ty_f25_0 : fieldT Try.prog 25 0 = some (0, 1, false) := by kernel_rfl
theorem ty_f25_1 : fieldT Try.prog 25 1 = some (1, 1, false) := by kernel_rfl
theorem ty_f25_2 : fieldT Try.prog 25 2 = some (2, 1, false) := by kernel_rfl
theorem ty_f25_3 : fieldT Try.prog 25 3 = some (3, 1, false) := by kernel_rfl
theorem ty_f25_4 : fieldT Try.prog 25 4 = some (4, 1, false) := by kernel_rfl
theorem ty_f25_5 : fieldT Try.prog 25 5 = some (5, 1, false) := by kernel_rfl
theorem ty_pl25 : placeT Try.prog 25 = some (fun i => #[(0, 1), (1, 1), (2, 1), (3, 1), (4, 1), (5, 1)][i]?) := by kernel_rfl
theorem ty_z25 : zeroT Try.prog 25 = some [.int .u8 (0), .int .u8 (0), .int .u8 (0), .int .u16 (0), .int .u8 (0), .slice none 0 0] := by kernel_rfl
theorem ty_ag26 : aggT Try.prog 26 = some false := by kernel_rfl
theorem ty_sz26 : szT Try.prog 26 = some 1 := by kernel_rfl
theorem ty_int26 : intT Try.prog 26 = some .u8 := by kernel_rfl
theorem ty_ifc26 : ifaceT Try.prog 26 = false := by kernel_rfl
theorem ty_bool26 : boolT Try.prog 26 = false := by kernel_rfl
theorem ty_z26 : zeroT Try.prog 26 = some [.int .u8 (0)] := by kernel_rfl
theorem ty_ag27 : aggT Try.prog 27 = some false := by kernel_rfl
theorem ty_sz27 : szT Try.prog 27 = some 1 := by kernel_rfl
theorem ty_int27 : intT Try.prog 27 = some .u8 := by kernel_rfl
theorem ty_ifc27 : ifaceT Try.prog 27 = false := by kernel_rfl
theorem ty_bool27 : boolT Try.prog 27 = false := by kernel_rfl
theorem ty_z27 : zeroT Try.prog 27 = some [.int .u8 (0)] := by kernel_rfl
theorem ty_ag28 : aggT Try.prog 28 = some true := by kernel_rfl
theorem ty_sz28 : szT Try.prog 28 = some 5 := by kernel_rfl
theorem ty_int28 : intT Try.prog 28 = none := by kernel_rfl
theorem ty_eq28 : eqT Try.prog 28 = some [true, true, false, false, true] := by kernel_rfl
theorem ty_ifc28 : ifaceT Try.prog 28 = false := by kernel_rfl
theorem ty_bool28 : boolT Try.prog 28 = false := by kernel_rfl
theorem ty_f28_0 : fieldT Try.prog 28 0 = some (0, 1, false) := by kernel_rfl
theorem ty_f28_1 : fieldT Try.prog 28 1 = some (1, 1, false) := by kernel_rfl
theorem ty_f28_2 : fieldT Try.prog 28 2 = some (2, 1, false) := by kernel_rfl
theorem ty_f28_3 : fieldT Try.prog 28 3 = some (3, 1, false) := by kernel_rfl
theorem ty_f28_4 : fieldT Try.prog 28 4 = some (4, 1, false) := by kernel_rfl
theorem ty_pl28 : placeT Try.prog 28 = some (fun i => #[(0, 1), (1, 1), (2, 1), (3, 1), (4, 1)][i]?) := by kernel_rfl
theorem ty_z28 : zeroT Try.prog 28 = some [.int .u8 (0), .int .u8 (0), .bool false, .bool false, .int .u8 (0)] := by kernel_rfl
theorem ty_ag29 : aggT Try.prog 29 = some true := by kernel_rfl
theorem ty_sz29 : szT Try.prog 29 = some 5 := by kernel_rfl
theorem ty_int29 : intT Try.prog 29 = none := by kernel_rfl
theorem ty_eq29 : eqT Try.prog 29 = some [true, true, false, false, true] := by kernel_rfl
theorem ty_ifc29 : ifaceT Try.prog 29 = false := by kernel_rfl
theorem ty_bool29 : boolT Try.prog 29 = false := by kernel_rfl
theorem ty_f29_0 : fieldT Try.prog 29 0 = some (0, 1, false) := by kernel_rfl
theorem ty_f29_1 : fieldT Try.prog 29 1 = some (1, 1, false) := by kernel_rfl
theorem ty_f29_2 : fieldT Try.prog 29 2 = some (2, 1, false) := by kernel_rfl
theorem ty_f29_3 : fieldT Try.prog 29 3 = some (3, 1, false) := by kernel_rfl
theorem ty_f29_4 : fieldT Try.prog 29 4 = some (4, 1, false) := by kernel_rfl
theorem ty_pl29 : placeT Try.prog 29 = some (fun i => #[(0, 1), (1, 1), (2, 1), (3, 1), (4, 1)][i]?) := by kernel_rfl
theorem ty_z29 : zeroT Try.prog 29 = some [.int .u8 (0), .int .u8 (0), .bool false, .bool false, .int .u8 (0)] := by kernel_rfl
theorem ty_ag30 : aggT Try.prog 30 = some true := by kernel_rfl
theorem ty_sz30 : szT Try.prog 30 = some 10 := by kernel_rfl
theorem ty_int30 : intT Try.prog 30 = none := by kernel_rfl
theorem ty_ifc30 : ifaceT Try.prog 30 = false := by kernel_rfl
theorem ty_bool30 : boolT Try.prog 30 = false := by kernel_rfl
theorem ty_f30_0 : fieldT Try.prog 30 0 = some (0, 1, false) := by kernel_rfl
theorem ty_f30_1 : fieldT Try.prog 30 1 = some (1, 1, false) := by kernel_rfl
theorem ty_f30_2 : fieldT Try.prog 30 2 = some (2, 1, false) := by kernel_rfl
theorem ty_f30_3 : fieldT Try.prog 30 3 = some (3, 1, false) := by kernel_rfl
theorem ty_f30_4 : fieldT Try.prog 30 4 = some (4, 5, true) := by kernel_rfl
theorem ty_f30_5 : fieldT Try.prog 30 5 = some (9, 1, false) := by kernel_rfl
theorem ty_pl30 : placeT Try.prog 30 = some (fun i => #[(0, 1), (1, 1), (2, 1), (3, 1), (4, 5), (9, 1)][i]?) := by kernel_rfl
theorem ty_z30 : zeroT Try.prog 30 = some [.int .u8 (0), .int .u8 (0), .int .u8 (0), .int .u16 (0), .int .u8 (0), .int .u8 (0), .bool false, .bool false, .int .u8 (0), .slice none 0 0] := by kernel_rfl
theorem ty_ag31 : aggT Try.prog 31 = some true := by kernel_rfl
theorem ty_sz31 : szT Try.prog 31 = some 10 := by kernel_rfl
theorem ty_int31 : intT Try.prog 31 = none := by kernel_rfl
theorem ty_ifc31 : ifaceT Try.prog 31 = false := by kernel_rfl
theorem ty_bool31 : boolT Try.prog 31 = false := by kernel_rfl
theorem ty_f31_0 : fieldT Try.prog 31 0 = some (0, 1, false) := by kernel_rfl
theorem ty_f31_1 : fieldT Try.prog 31 1 = some (1, 1, false) := by kernel_rfl
theorem ty_f31_2 : fieldT Try.prog 31 2 = some (2, 1, false) := by kernel_rfl
theorem ty_f31_3 : fieldT Try.prog 31 3 = some (3, 1, false) := by kernel_rfl
theorem ty_f31_4 : fieldT Try.prog 31 4 = some (4, 5, true) := by kernel_rfl
theorem ty_f31_5 : fieldT Try.prog 31 5 = some (9, 1, false) := by kernel_rfl
theorem ty_pl31 : placeT Try.prog 31 = some (fun i => #[(0, 1), (1, 1), (2, 1), (3, 1), (4, 5), (9, 1)][i]?) := by kernel_rfl
theorem ty_z31 : zeroT Try.prog 31 = some [.int .u8 (0), .int .u8 (0), .int .u8 (0), .int .u16 (0), .int .u8 (0), .int .u8 (0), .bool false, .bool false, .int .u8 (0), .slice none 0 0] := by kernel_rfl
theorem ty_ag32 : aggT Try.prog 32 = some false := by kernel_rfl
theorem ty_sz32 : szT Try.prog 32 = some 1 := by kernel_rfl
theorem ty_int32 : intT Try.prog 32 = none := by kernel_rfl
theorem ty_ifc32 : ifaceT Try.prog 32 = false := by kernel_rfl
theorem ty_bool32 : boolT Try.prog 32 = false := by kernel_rfl
theorem ty_z32 : zeroT Try.prog 32 = some [.nilFunc] := by kernel_rfl
theorem ty_ag33 : aggT Try.prog 33 = some false := by kernel_rfl
theorem ty_sz33 : szT Try.prog 33 = some 1 := by kernel_rfl
theorem ty_int33 : intT Try.prog 33 = none := by kernel_rfl
theorem ty_ifc33 : ifaceT Try.prog 33 = false := by kernel_rfl
theorem ty_bool33 : boolT Try.prog 33 = false := by kernel_rfl
theorem ty_elem33 : elemT Try.prog 33 = some (31, 10, true) := by kernel_rfl
theorem ty_app33 : appT Try.prog 33 = some (31, 10, 40) := by kernel_rfl
theorem ty_z33 : zeroT Try.prog 33 = some [.slice none 0 0] := by kernel_rfl
theorem ty_ag34 : aggT Try.prog 34 = some false := by kernel_rfl
theorem ty_sz34 : szT Try.prog 34 = some 1 := by kernel_rfl
theorem ty_int34 : intT Try.prog 34 = none := by kernel_rfl
theorem ty_ifc34 : ifaceT Try.prog 34 = false := by kernel_rfl
theorem ty_bool34 : boolT Try.prog 34 = false := by kernel_rfl
theorem ty_elem34 : elemT Try.prog 34 = some (95, 1, false) := by kernel_rfl
theorem ty_app34 : appT Try.prog 34 = some (95, 1, 1) := by kernel_rfl
theorem ty_z34 : zeroT Try.prog 34 = some [.slice none 0 0] := by kernel_rfl
theorem ty_ag35 : aggT Try.prog 35 = some false := by kernel_rfl
theorem ty_sz35 : szT Try.prog 35 = some 1 := by kernel_rfl
theorem ty_int35 : intT Try.prog 35 = some .i64 := by kernel_rfl
theorem ty_ifc35 : ifaceT Try.prog 35 = false := by kernel_rfl
theorem ty_bool35 : boolT Try.prog 35 = false := by kernel_rfl
theorem ty_z35 : zeroT Try.prog 35 = some [.int .i64 (0)] := by kernel_rfl
theorem ty_ag37 : aggT Try.prog 37 = some false := by kernel_rfl
theorem ty_sz37 : szT Try.prog 37 = some 1 := by kernel_rfl
theorem ty_int37 : intT Try.prog 37 = none := by kernel_rfl
theorem ty_ifc37 : ifaceT Try.prog 37 = false := by kernel_rfl
theorem ty_bool37 : boolT Try.prog 37 = false := by kernel_rfl
theorem ty_z37 : zeroT Try.prog 37 = some [.nilFunc] := by kernel_rfl
theorem ty_ag39 : aggT Try.prog 39 = some false := by kernel_rfl
theorem ty_sz39 : szT Try.prog 39 = some 1 := by kernel_rfl
theorem ty_int39 : intT Try.prog 39 = none := by kernel_rfl
theorem ty_ifc39 : ifaceT Try.prog 39 = false := by kernel_rfl
theorem ty_bool39 : boolT Try.prog 39 = false := by kernel_rfl
theorem ty_z39 : zeroT Try.prog 39 = some [.nilFunc] := by kernel_rfl
theorem ty_ag40 : aggT Try.prog 40 = some false := by kernel_rfl
theorem ty_sz40 : szT Try.prog 40 = some 1 := by kernel_rfl
theorem ty_int40 : intT Try.prog 40 = some .u8 := by kernel_rfl
theorem ty_ifc40 : ifaceT Try.prog 40 = false := by kernel_rfl
theorem ty_bool40 : boolT Try.prog 40 = false := by kernel_rfl
theorem ty_z40 : zeroT Try.prog 40 = some [.int .u8 (0)] := by kernel_rfl
theorem ty_ag41 : aggT Try.prog 41 = some false := by kernel_rfl
theorem ty_sz41 : szT Try.prog 41 = some 1 := by kernel_rfl
theorem ty_int41 : intT Try.prog 41 = none := by kernel_rfl
theorem ty_ifc41 : ifaceT Try.prog 41 = false := by kernel_rfl
theorem ty_bool41 : boolT Try.prog 41 = false := by kernel_rfl
theorem ty_z41 : zeroT Try.prog 41 = some [.nilFunc] := by kernel_rfl
theorem ty_ag42 : aggT Try.prog 42 = some false := by kernel_rfl
theorem ty_sz42 : szT Try.prog 42 = some 1 := by kernel_rfl
theorem ty_int42 : intT Try.prog 42 = none := by kernel_rfl
theorem ty_ifc42 : ifaceT Try.prog 42 = false := by kernel_rfl
theorem ty_bool42 : boolT Try.prog 42 = false := by kernel_rfl
theorem ty_z42 : zeroT Try.prog 42 = some [.nilFunc] := by kernel_rfl
theorem ty_ag43 : aggT Try.prog 43 = some false := by kernel_rfl
theorem ty_sz43 : szT Try.prog 43 = some 1 := by kernel_rfl
theorem ty_int43 : intT Try.prog 43 = none := by kernel_rfl
theorem ty_ifc43 : ifaceT Try.prog 43 = false := by kernel_rfl
theorem ty_bool43 : boolT Try.prog 43 = false := by kernel_rfl
theorem ty_elem43 : elemT Try.prog 43 = some (5, 1, false) := by kernel_rfl
theorem ty_app43 : appT Try.prog 43 = some (5, 1, 1) := by kernel_rfl
theorem ty_z43 : zeroT Try.prog 43 = some [.slice none 0 0] := by kernel_rfl
theorem ty_ag44 : aggT Try.prog 44 = some true := by kernel_rfl
theorem ty_sz44 : szT Try.prog 44 = some 2 := by kernel_rfl
theorem ty_int44 : intT Try.prog 44 = none := by kernel_rfl
theorem ty_ifc44 : ifaceT Try.prog 44 = false := by kernel_rfl
theorem ty_bool44 : boolT Try.prog 44 = false := by kernel_rfl
theorem ty_f44_0 : fieldT Try.prog 44 0 = some (0, 1, false) := by kernel_rfl
theorem ty_f44_1 : fieldT Try.prog 44 1 = some (1, 1, false) := by kernel_rfl
theorem ty_pl44 : placeT Try.prog 44 = some (fun i => #[(0, 1), (1, 1)][i]?) := by kernel_rfl
theorem ty_z44 : zeroT Try.prog 44 = some [.slice none 0 0, .slice none 0 0] := by kernel_rfl
theorem ty_ag45 : aggT Try.prog 45 = some true := by kernel_rfl
theorem ty_sz45 : szT Try.prog 45 = some 2 := by kernel_rfl
theorem ty_int45 : intT Try.prog 45 = none := by kernel_rfl
theorem ty_ifc45 : ifaceT Try.prog 45 = false := by kernel_rfl
theorem ty_bool45 : boolT Try.prog 45 = false := by kernel_rfl
theorem ty_f45_0 : fieldT Try.prog 45 0 = some (0, 1, false) := by kernel_rfl
theorem ty_f45_1 : fieldT Try.prog 45 1 = some (1, 1, false) := by kernel_rfl
theorem ty_pl45 : placeT Try.prog 45 = some (fun i => #[(0, 1), (1, 1)][i]?) := by kernel_rfl
theorem ty_z45 : zeroT Try.prog 45 = some [.slice none 0 0, .slice none 0 0] := by kernel_rfl
theorem ty_ag46 : aggT Try.prog 46 = some false := by kernel_rfl
theorem ty_sz46 : szT Try.prog 46 = some 1 := by kernel_rfl
theorem ty_int46 : intT Try.prog 46 = none := by kernel_rfl
theorem ty_ifc46 : ifaceT Try.prog 46 = false := by kernel_rfl
theorem ty_bool46 : boolT Try.prog 46 = false := by kernel_rfl
theorem ty_z46 : zeroT Try.prog 46 = some [.nilFunc] := by kernel_rfl
theorem ty_ag47 : aggT Try.prog 47 = some false := by kernel_rfl
theorem ty_sz47 : szT Try.prog 47 = some 1 := by kernel_rfl
theorem ty_int47 : intT Try.prog 47 = none := by kernel_rfl
theorem ty_ifc47 : ifaceT Try.prog 47 = false := by kernel_rfl
theorem ty_m47_0 : methA Try.prog 47 "Hear" = some 120 := by kernel_rfl
theorem ty_k47_0 : nilOk Try.prog 47 "Hear" = true := by kernel_rfl
theorem ty_bool47 : boolT Try.prog 47 = false := by kernel_rfl
theorem ty_z47 : zeroT Try.prog 47 = some [.pointer none] := by kernel_rfl
theorem ty_ag48 : aggT Try.prog 48 = some true := by kernel_rfl
theorem ty_sz48 : szT Try.prog 48 = some 2 := by kernel_rfl
theorem ty_int48 : intT Try.prog 48 = none := by kernel_rfl
theorem ty_ifc48 : ifaceT Try.prog 48 = false := by kernel_rfl
theorem ty_bool48 : boolT Try.prog 48 = false := by kernel_rfl
theorem ty_f48_0 : fieldT Try.prog 48 0 = some (0, 1, false) := by kernel_rfl
theorem ty_f48_1 : fieldT Try.prog 48 1 = some (1, 1, false) := by kernel_rfl
theorem ty_pl48 : placeT Try.prog 48 = some (fun i => #[(0, 1), (1, 1)][i]?) := by kernel_rfl
theorem ty_z48 : zeroT Try.prog 48 = some [.slice none 0 0, .slice none 0 0] := by kernel_rfl
theorem ty_ag49 : aggT Try.prog 49 = some true := by kernel_rfl
theorem ty_sz49 : szT Try.prog 49 = some 2 := by kernel_rfl
theorem ty_int49 : intT Try.prog 49 = none := by kernel_rfl
theorem ty_ifc49 : ifaceT Try.prog 49 = false := by kernel_rfl
theorem ty_bool49 : boolT Try.prog 49 = false := by kernel_rfl
theorem ty_f49_0 : fieldT Try.prog 49 0 = some (0, 1, false) := by kernel_rfl
theorem ty_f49_1 : fieldT Try.prog 49 1 = some (1, 1, false) := by kernel_rfl
theorem ty_pl49 : placeT Try.prog 49 = some (fun i => #[(0, 1), (1, 1)][i]?) := by kernel_rfl
theorem ty_z49 : zeroT Try.prog 49 = some [.slice none 0 0, .slice none 0 0] := by kernel_rfl
theorem ty_ag50 : aggT Try.prog 50 = some false := by kernel_rfl
theorem ty_sz50 : szT Try.prog 50 = some 1 := by kernel_rfl
theorem ty_int50 : intT Try.prog 50 = none := by kernel_rfl
theorem ty_ifc50 : ifaceT Try.prog 50 = false := by kernel_rfl
theorem ty_bool50 : boolT Try.prog 50 = false := by kernel_rfl
theorem ty_elem50 : elemT Try.prog 50 = some (111, 12, true) := by kernel_rfl
theorem ty_app50 : appT Try.prog 50 = some (111, 12, 48) := by kernel_rfl
theorem ty_z50 : zeroT Try.prog 50 = some [.slice none 0 0] := by kernel_rfl
theorem ty_ag52 : aggT Try.prog 52 = some false := by kernel_rfl
theorem ty_sz52 : szT Try.prog 52 = some 1 := by kernel_rfl
theorem ty_int52 : intT Try.prog 52 = none := by kernel_rfl
theorem ty_ifc52 : ifaceT Try.prog 52 = false := by kernel_rfl
theorem ty_bool52 : boolT Try.prog 52 = false := by kernel_rfl
theorem ty_z52 : zeroT Try.prog 52 = some [.nilFunc] := by kernel_rfl
theorem ty_ag53 : aggT Try.prog 53 = some false := by kernel_rfl
theorem ty_sz53 : szT Try.prog 53 = some 1 := by kernel_rfl
theorem ty_int53 : intT Try.prog 53 = none := by kernel_rfl
theorem ty_ifc53 : ifaceT Try.prog 53 = false := by kernel_rfl
theorem ty_m53_0 : methA Try.prog 53 "Left" = some 26 := by kernel_rfl
theorem ty_k53_0 : nilOk Try.prog 53 "Left" = true := by kernel_rfl
theorem ty_m53_1 : methA Try.prog 53 "Next" = some 27 := by kernel_rfl
theorem ty_k53_1 : nilOk Try.prog 53 "Next" = true := by kernel_rfl
theorem ty_bool53 : boolT Try.prog 53 = false := by kernel_rfl
theorem ty_z53 : zeroT Try.prog 53 = some [.pointer none] := by kernel_rfl
theorem ty_ag54 : aggT Try.prog 54 = some false := by kernel_rfl
theorem ty_sz54 : szT Try.prog 54 = some 1 := by kernel_rfl
theorem ty_int54 : intT Try.prog 54 = none := by kernel_rfl
theorem ty_ifc54 : ifaceT Try.prog 54 = false := by kernel_rfl
theorem ty_bool54 : boolT Try.prog 54 = false := by kernel_rfl
theorem ty_z54 : zeroT Try.prog 54 = some [.nilFunc] := by kernel_rfl
theorem ty_ag55 : aggT Try.prog 55 = some false := by kernel_rfl
theorem ty_sz55 : szT Try.prog 55 = some 1 := by kernel_rfl
theorem ty_int55 : intT Try.prog 55 = none := by kernel_rfl
theorem ty_ifc55 : ifaceT Try.prog 55 = false := by kernel_rfl
theorem ty_bool55 : boolT Try.prog 55 = false := by kernel_rfl
theorem ty_elem55 : elemT Try.prog 55 = some (77, 1, false) := by kernel_rfl
theorem ty_app55 : appT Try.prog 55 = some (77, 1, 1) := by kernel_rfl
theorem ty_z55 : zeroT Try.prog 55 = some [.slice none 0 0] := by kernel_rfl
theorem ty_ag56 : aggT Try.prog 56 = some true := by kernel_rfl
theorem ty_sz56 : szT Try.prog 56 = some 4 := by kernel_rfl
theorem ty_int56 : intT Try.prog 56 = none := by kernel_rfl
theorem ty_ifc56 : ifaceT Try.prog 56 = false := by kernel_rfl
theorem ty_bool56 : boolT Try.prog 56 = false := by kernel_rfl
theorem ty_f56_0 : fieldT Try.prog 56 0 = some (0, 1, false) := by kernel_rfl
theorem ty_f56_1 : fieldT Try.prog 56 1 = some (1, 1, false) := by kernel_rfl
theorem ty_f56_2 : fieldT Try.prog 56 2 = some (2, 1, false) := by kernel_rfl
theorem ty_f56_3 : fieldT Try.prog 56 3 = some (3, 1, false) := by kernel_rfl
theorem ty_pl56 : placeT Try.prog 56 = some (fun i => #[(0, 1), (1, 1), (2, 1), (3, 1)][i]?) := by kernel_rfl
theorem ty_z56 : zeroT Try.prog 56 = some [.slice none 0 0, .slice none 0 0, .slice none 0 0, .slice none 0 0] := by kernel_rfl
theorem ty_ag57 : aggT Try.prog 57 = some true := by kernel_rfl
theorem ty_sz57 : szT Try.prog 57 = some 4 := by kernel_rfl
theorem ty_int57 : intT Try.prog 57 = none := by kernel_rfl
theorem ty_ifc57 : ifaceT Try.prog 57 = false := by kernel_rfl
theorem ty_bool57 : boolT Try.prog 57 = false := by kernel_rfl
theorem ty_f57_0 : fieldT Try.prog 57 0 = some (0, 1, false) := by kernel_rfl
theorem ty_f57_1 : fieldT Try.prog 57 1 = some (1, 1, false) := by kernel_rfl
theorem ty_f57_2 : fieldT Try.prog 57 2 = some (2, 1, false) := by kernel_rfl
theorem ty_f57_3 : fieldT Try.prog 57 3 = some (3, 1, false) := by kernel_rfl
theorem ty_pl57 : placeT Try.prog 57 = some (fun i => #[(0, 1), (1, 1), (2, 1), (3, 1)][i]?) := by kernel_rfl
theorem ty_z57 : zeroT Try.prog 57 = some [.slice none 0 0, .slice none 0 0, .slice none 0 0, .slice none 0 0] := by kernel_rfl
theorem ty_ag59 : aggT Try.prog 59 = some false := by kernel_rfl
theorem ty_sz59 : szT Try.prog 59 = some 1 := by kernel_rfl
theorem ty_int59 : intT Try.prog 59 = none := by kernel_rfl
theorem ty_ifc59 : ifaceT Try.prog 59 = false := by kernel_rfl
theorem ty_bool59 : boolT Try.prog 59 = false := by kernel_rfl
theorem ty_z59 : zeroT Try.prog 59 = some [.nilFunc] := by kernel_rfl
theorem ty_ag60 : aggT Try.prog 60 = some false := by kernel_rfl
theorem ty_sz60 : szT Try.prog 60 = some 1 := by kernel_rfl
theorem ty_int60 : intT Try.prog 60 = none := by kernel_rfl
theorem ty_ifc60 : ifaceT Try.prog 60 = false := by kernel_rfl
theorem ty_bool60 : boolT Try.prog 60 = false := by kernel_rfl
theorem ty_z60 : zeroT Try.prog 60 = some [.nilFunc] := by kernel_rfl
theorem ty_ag61 : aggT Try.prog 61 = some false := by kernel_rfl
theorem ty_sz61 : szT Try.prog 61 = some 1 := by kernel_rfl
theorem ty_int61 : intT Try.prog 61 = none := by kernel_rfl
theorem ty_ifc61 : ifaceT Try.prog 61 = false := by kernel_rfl
theorem ty_bool61 : boolT Try.prog 61 = false := by kernel_rfl
theorem ty_z61 : zeroT Try.prog 61 = some [.nilFunc] := by kernel_rfl
theorem ty_ag62 : aggT Try.prog 62 = some false := by kernel_rfl
theorem ty_sz62 : szT Try.prog 62 = some 1 := by kernel_rfl
theorem ty_int62 : intT Try.prog 62 = none := by kernel_rfl
theorem ty_ifc62 : ifaceT Try.prog 62 = false := by kernel_rfl
theorem ty_bool62 : boolT Try.prog 62 = false := by kernel_rfl
theorem ty_z62 : zeroT Try.prog 62 = some [.nilFunc] := by kernel_rfl
theorem ty_ag63 : aggT Try.prog 63 = some false := by kernel_rfl
theorem ty_sz63 : szT Try.prog 63 = some 1 := by kernel_rfl
theorem ty_int63 : intT Try.prog 63 = none := by kernel_rfl
theorem ty_ifc63 : ifaceT Try.prog 63 = false := by kernel_rfl
theorem ty_bool63 : boolT Try.prog 63 = false := by kernel_rfl
theorem ty_z63 : zeroT Try.prog 63 = some [.nilFunc] := by kernel_rfl
theorem ty_ag64 : aggT Try.prog 64 = some false := by kernel_rfl
theorem ty_sz64 : szT Try.prog 64 = some 1 := by kernel_rfl
theorem ty_int64 : intT Try.prog 64 = none := by kernel_rfl
theorem ty_ifc64 : ifaceT Try.prog 64 = false := by kernel_rfl
theorem ty_bool64 : boolT Try.prog 64 = false := by kernel_rfl
theorem ty_z64 : zeroT Try.prog 64 = some [.nilFunc] := by kernel_rfl
theorem ty_ag65 : aggT Try.prog 65 = some false := by kernel_rfl
theorem ty_sz65 : szT Try.prog 65 = some 1 := by kernel_rfl
theorem ty_int65 : intT Try.prog 65 = none := by kernel_rfl
theorem ty_ifc65 : ifaceT Try.prog 65 = false := by kernel_rfl
theorem ty_bool65 : boolT Try.prog 65 = false := by kernel_rfl
theorem ty_z65 : zeroT Try.prog 65 = some [.nilFunc] := by kernel_rfl
theorem ty_ag66 : aggT Try.prog 66 = some true := by kernel_rfl
theorem ty_sz66 : szT Try.prog 66 = some 7 := by kernel_rfl
theorem ty_int66 : intT Try.prog 66 = none := by kernel_rfl
theorem ty_ifc66 : ifaceT Try.prog 66 = false := by kernel_rfl
theorem ty_bool66 : boolT Try.prog 66 = false := by kernel_rfl
theorem ty_f66_0 : fieldT Try.prog 66 0 = some (0, 1, false) := by kernel_rfl
theorem ty_f66_1 : fieldT Try.prog 66 1 = some (1, 1, false) := by kernel_rfl
theorem ty_f66_2 : fieldT Try.prog 66 2 = some (2, 1, false) := by kernel_rfl
theorem ty_f66_3 : fieldT Try.prog 66 3 = some (3, 1, false) := by kernel_rfl
theorem ty_f66_4 : fieldT Try.prog 66 4 = some (4, 1, false) := by kernel_rfl
theorem ty_f66_5 : fieldT Try.prog 66 5 = some (5, 1, false) := by kernel_rfl
theorem ty_f66_6 : fieldT Try.prog 66 6 = some (6, 1, false) := by kernel_rfl
theorem ty_pl66 : placeT Try.prog 66 = some (fun i => #[(0, 1), (1, 1), (2, 1), (3, 1), (4, 1), (5, 1), (6, 1)][i]?) := by kernel_rfl
theorem ty_z66 : zeroT Try.prog 66 = some [.int .u8 (0), .int .u8 (0), .int .u8 (0), .bool false, .bool false, .int .i64 (0), .slice none 0 0] := by kernel_rfl
theorem ty_ag67 : aggT Try.prog 67 = some true := by kernel_rfl
theorem ty_sz67 : szT Try.prog 67 = some 7 := by kernel_rfl
theorem ty_int67 : intT Try.prog 67 = none := by kernel_rfl
theorem ty_ifc67 : ifaceT Try.prog 67 = false := by kernel_rfl
theorem ty_bool67 : boolT Try.prog 67 = false := by kernel_rfl
theorem ty_f67_0 : fieldT Try.prog 67 0 = some (0, 1, false) := by kernel_rfl
theorem ty_f67_1 : fieldT Try.prog 67 1 = some (1, 1, false) := by kernel_rfl
theorem ty_f67_2 : fieldT Try.prog 67 2 = some (2, 1, false) := by kernel_rfl
theorem ty_f67_3 : fieldT Try.prog 67 3 = some (3, 1, false) := by kernel_rfl
theorem ty_f67_4 : fieldT Try.prog 67 4 = some (4, 1, false) := by kernel_rfl
theorem ty_f67_5 : fieldT Try.prog 67 5 = some (5, 1, false) := by kernel_rfl
theorem ty_f67_6 : fieldT Try.prog 67 6 = some (6, 1, false) := by kernel_rfl
theorem ty_pl67 : placeT Try.prog 67 = some (fun i => #[(0, 1), (1, 1), (2, 1), (3, 1), (4, 1), (5, 1), (6, 1)][i]?) := by kernel_rfl
theorem ty_z67 : zeroT Try.prog 67 = some [.int .u8 (0), .int .u8 (0), .int .u8 (0), .bool false, .bool false, .int .i64 (0), .slice none 0 0] := by kernel_rfl
theorem ty_ag68 : aggT Try.prog 68 = some false := by kernel_rfl
theorem ty_sz68 : szT Try.prog 68 = some 1 := by kernel_rfl
theorem ty_int68 : intT Try.prog 68 = none := by kernel_rfl
theorem ty_ifc68 : ifaceT Try.prog 68 = false := by kernel_rfl
theorem ty_bool68 : boolT Try.prog 68 = false := by kernel_rfl
theorem ty_z68 : zeroT Try.prog 68 = some [.nilFunc] := by kernel_rfl
theorem ty_ag69 : aggT Try.prog 69 = some false := by kernel_rfl
theorem ty_sz69 : szT Try.prog 69 = some 1 := by kernel_rfl
theorem ty_int69 : intT Try.prog 69 = some .u8 := by kernel_rfl
theorem ty_ifc69 : ifaceT Try.prog 69 = false := by kernel_rfl
theorem ty_bool69 : boolT Try.prog 69 = false := by kernel_rfl
theorem ty_z69 : zeroT Try.prog 69 = some [.int .u8 (0)] := by kernel_rfl
theorem ty_ag70 : aggT Try.prog 70 = some true := by kernel_rfl
theorem ty_sz70 : szT Try.prog 70 = some 2 := by kernel_rfl
theorem ty_int70 : intT Try.prog 70 = none := by kernel_rfl
theorem ty_ifc70 : ifaceT Try.prog 70 = false := by kernel_rfl
theorem ty_bool70 : boolT Try.prog 70 = false := by kernel_rfl
theorem ty_f70_0 : fieldT Try.prog 70 0 = some (0, 1, false) := by kernel_rfl
theorem ty_f70_1 : fieldT Try.prog 70 1 = some (1, 1, false) := by kernel_rfl
theorem ty_pl70 : placeT Try.prog 70 = some (fun i => #[(0, 1), (1, 1)][i]?) := by kernel_rfl
theorem ty_z70 : zeroT Try.prog 70 = some [.int .u8 (0), .slice none 0 0] := by kernel_rfl
theorem ty_ag71 : aggT Try.prog 71 = some true := by kernel_rfl
theorem ty_sz71 : szT Try.prog 71 = some 2 := by kernel_rfl
theorem ty_int71 : intT Try.prog 71 = none := by kernel_rfl
theorem ty_ifc71 : ifaceT Try.prog 71 = false := by kernel_rfl
theorem ty_bool71 : boolT Try.prog 71 = false := by kernel_rfl
theorem ty_f71_0 : fieldT Try.prog 71 0 = some (0, 1, false) := by kernel_rfl
theorem ty_f71_1 : fieldT Try.prog 71 1 = some (1, 1, false) := by kernel_rfl
theorem ty_pl71 : placeT Try.prog 71 = some (fun i => #[(0, 1), (1, 1)][i]?) := by kernel_rfl
theorem ty_z71 : zeroT Try.prog 71 = some [.int .u8 (0), .slice none 0 0] := by kernel_rfl
theorem ty_ag73 : aggT Try.prog 73 = some false := by kernel_rfl
theorem ty_sz73 : szT Try.prog 73 = some 1 := by kernel_rfl
theorem ty_int73 : intT Try.prog 73 = none := by kernel_rfl
theorem ty_ifc73 : ifaceT Try.prog 73 = false := by kernel_rfl
theorem ty_bool73 : boolT Try.prog 73 = false := by kernel_rfl
theorem ty_z73 : zeroT Try.prog 73 = some [.nilFunc] := by kernel_rfl
theorem ty_ag75 : aggT Try.prog 75 = some false := by kernel_rfl
theorem ty_sz75 : szT Try.prog 75 = some 1 := by kernel_rfl
theorem ty_int75 : intT Try.prog 75 = none := by kernel_rfl
theorem ty_ifc75 : ifaceT Try.prog 75 = false := by kernel_rfl
theorem ty_bool75 : boolT Try.prog 75 = false := by kernel_rfl
theorem ty_z75 : zeroT Try.prog 75 = some [.nilFunc] := by kernel_rfl
theorem ty_ag76 : aggT Try.prog 76 = some false := by kernel_rfl
theorem ty_sz76 : szT Try.prog 76 = some 1 := by kernel_rfl
theorem ty_int76 : intT Try.prog 76 = none := by kernel_rfl
theorem ty_ifc76 : ifaceT Try.prog 76 = false := by kernel_rfl
theorem ty_bool76 : boolT Try.prog 76 = false := by kernel_rfl
theorem ty_z76 : zeroT Try.prog 76 = some [.nilFunc] := by kernel_rfl
theorem ty_ag77 : aggT Try.prog 77 = some false := by kernel_rfl
theorem ty_sz77 : szT Try.prog 77 = some 1 := by kernel_rfl
theorem ty_int77 : intT Try.prog 77 = some .u8 := by kernel_rfl
theorem ty_ifc77 : ifaceT Try.prog 77 = false := by kernel_rfl
theorem ty_bool77 : boolT Try.prog 77 = false := by kernel_rfl
theorem ty_z77 : zeroT Try.prog 77 = some [.int .u8 (0)] := by kernel_rfl
theorem ty_ag78 : aggT Try.prog 78 = some false := by kernel_rfl
theorem ty_sz78 : szT Try.prog 78 = some 1 := by kernel_rfl
theorem ty_int78 : intT Try.prog 78 = none := by kernel_rfl
theorem ty_ifc78 : ifaceT Try.prog 78 = false := by kernel_rfl
theorem ty_bool78 : boolT Try.prog 78 = false := by kernel_rfl
theorem ty_z78 : zeroT Try.prog 78 = some [.nilFunc] := by kernel_rfl
theorem ty_ag79 : aggT Try.prog 79 = some false := by kernel_rfl
theorem ty_sz79 : szT Try.prog 79 = some 1 := by kernel_rfl
theorem ty_int79 : intT Try.prog 79 = none := by kernel_rfl
theorem ty_ifc79 : ifaceT Try.prog 79 = false := by kernel_rfl
theorem ty_bool79 : boolT Try.prog 79 = false := by kernel_rfl
theorem ty_z79 : zeroT Try.prog 79 = some [.nilFunc] := by kernel_rfl
theorem ty_ag80 : aggT Try.prog 80 = some false := by kernel_rfl
theorem ty_sz80 : szT Try.prog 80 = some 1 := by kernel_rfl
theorem ty_int80 : intT Try.prog 80 = none := by kernel_rfl
theorem ty_ifc80 : ifaceT Try.prog 80 = false := by kernel_rfl
theorem ty_bool80 : boolT Try.prog 80 = false := by kernel_rfl
theorem ty_z80 : zeroT Try.prog 80 = some [.nilFunc] := by kernel_rfl
theorem ty_ag81 : aggT Try.prog 81 = some true := by kernel_rfl
theorem ty_sz81 : szT Try.prog 81 = some 1 := by kernel_rfl
theorem ty_int81 : intT Try.prog 81 = none := by kernel_rfl
theorem ty_ifc81 : ifaceT Try.prog 81 = false := by kernel_rfl
theorem ty_bool81 : boolT Try.prog 81 = false := by kernel_rfl
theorem ty_f81_0 : fieldT Try.prog 81 0 = some (0, 1, false) := by kernel_rfl
theorem ty_pl81 : placeT Try.prog 81 = some (fun i => #[(0, 1)][i]?) := by kernel_rfl
theorem ty_z81 : zeroT Try.prog 81 = some [.slice none 0 0] := by kernel_rfl
theorem ty_ag82 : aggT Try.prog 82 = some true := by kernel_rfl
theorem ty_sz82 : szT Try.prog 82 = some 1 := by kernel_rfl
theorem ty_int82 : intT Try.prog 82 = none := by kernel_rfl
theorem ty_ifc82 : ifaceT Try.prog 82 = false := by kernel_rfl
theorem ty_bool82 : boolT Try.prog 82 = false := by kernel_rfl
theorem ty_f82_0 : fieldT Try.prog 82 0 = some (0, 1, false) := by kernel_rfl
theorem ty_pl82 : placeT Try.prog 82 = some (fun i => #[(0, 1)][i]?) := by kernel_rfl
theorem ty_z82 : zeroT Try.prog 82 = some [.slice none 0 0] := by kernel_rfl
theorem ty_ag83 : aggT Try.prog 83 = some false := by kernel_rfl
theorem ty_sz83 : szT Try.prog 83 = some 1 := by kernel_rfl
theorem ty_int83 : intT Try.prog 83 = none := by kernel_rfl
theorem ty_ifc83 : ifaceT Try.prog 83 = false := by kernel_rfl
theorem ty_bool83 : boolT Try.prog 83 = false := by kernel_rfl
theorem ty_z83 : zeroT Try.prog 83 = some [.nilFunc] := by kernel_rfl
theorem ty_ag84 : aggT Try.prog 84 = some false := by kernel_rfl
theorem ty_sz84 : szT Try.prog 84 = some 1 := by kernel_rfl
theorem ty_int84 : intT Try.prog 84 = none := by kernel_rfl
theorem ty_ifc84 : ifaceT Try.prog 84 = false := by kernel_rfl
theorem ty_m84_0 : methA Try.prog 84 "Hear" = some 28 := by kernel_rfl
theorem ty_k84_0 : nilOk Try.prog 84 "Hear" = true := by kernel_rfl
theorem ty_bool84 : boolT Try.prog 84 = false := by kernel_rfl
theorem ty_z84 : zeroT Try.prog 84 = some [.nilFunc] := by kernel_rfl
theorem ty_ag86 : aggT Try.prog 86 = some false := by kernel_rfl
theorem ty_sz86 : szT Try.prog 86 = some 1 := by kernel_rfl
theorem ty_int86 : intT Try.prog 86 = none := by kernel_rfl
theorem ty_ifc86 : ifaceT Try.prog 86 = false := by kernel_rfl
theorem ty_bool86 : boolT Try.prog 86 = false := by kernel_rfl
theorem ty_z86 : zeroT Try.prog 86 = some [.nilFunc] := by kernel_rfl
theorem ty_ag87 : aggT Try.prog 87 = some false := by kernel_rfl
theorem ty_sz87 : szT Try.prog 87 = some 1 := by kernel_rfl
theorem ty_int87 : intT Try.prog 87 = none := by kernel_rfl
theorem ty_ifc87 : ifaceT Try.prog 87 = false := by kernel_rfl
theorem ty_bool87 : boolT Try.prog 87 = false := by kernel_rfl
theorem ty_z87 : zeroT Try.prog 87 = some [.nilFunc] := by kernel_rfl
theorem ty_ag88 : aggT Try.prog 88 = some false := by kernel_rfl
theorem ty_sz88 : szT Try.prog 88 = some 1 := by kernel_rfl
theorem ty_int88 : intT Try.prog 88 = none := by kernel_rfl
theorem ty_ifc88 : ifaceT Try.prog 88 = false := by kernel_rfl
theorem ty_bool88 : boolT Try.prog 88 = false := by kernel_rfl
theorem ty_z88 : zeroT Try.prog 88 = some [.nilFunc] := by kernel_rfl
theorem ty_ag89 : aggT Try.prog 89 = some false := by kernel_rfl
theorem ty_sz89 : szT Try.prog 89 = some 1 := by kernel_rfl
theorem ty_int89 : intT Try.prog 89 = none := by kernel_rfl
theorem ty_ifc89 : ifaceT Try.prog 89 = false := by kernel_rfl
theorem ty_bool89 : boolT Try.prog 89 = false := by kernel_rfl
theorem ty_elem89 : elemT Try.prog 89 = some (26, 1, false) := by kernel_rfl
theorem ty_app89 : appT Try.prog 89 = some (26, 1, 1) := by kernel_rfl
theorem ty_z89 : zeroT Try.prog 89 = some [.slice none 0 0] := by kernel_rfl
theorem ty_ag90 : aggT Try.prog 90 = some false := by kernel_rfl
theorem ty_sz90 : szT Try.prog 90 = some 1 := by kernel_rfl
theorem ty_int90 : intT Try.prog 90 = some .u64 := by kernel_rfl
theorem ty_ifc90 : ifaceT Try.prog 90 = false := by kernel_rfl
theorem ty_bool90 : boolT Try.prog 90 = false := by kernel_rfl
theorem ty_z90 : zeroT Try.prog 90 = some [.int .u64 (0)] := by kernel_rfl
theorem ty_ag92 : aggT Try.prog 92 = some false := by kernel_rfl
theorem ty_sz92 : szT Try.prog 92 = some 1 := by kernel_rfl
theorem ty_int92 : intT Try.prog 92 = none := by kernel_rfl
theorem ty_ifc92 : ifaceT Try.prog 92 = false := by kernel_rfl
theorem ty_bool92 : boolT Try.prog 92 = false := by kernel_rfl
theorem ty_z92 : zeroT Try.prog 92 = some [.nilFunc] := by kernel_rfl
theorem ty_ag93 : aggT Try.prog 93 = some false := by kernel_rfl
theorem ty_sz93 : szT Try.prog 93 = some 1 := by kernel_rfl
theorem ty_int93 : intT Try.prog 93 = none := by kernel_rfl
theorem ty_ifc93 : ifaceT Try.prog 93 = false := by kernel_rfl
theorem ty_bool93 : boolT Try.prog 93 = false := by kernel_rfl
theorem ty_z93 : zeroT Try.prog 93 = some [.nilFunc] := by kernel_rfl
theorem ty_ag94 : aggT Try.prog 94 = some false := by kernel_rfl
theorem ty_sz94 : szT Try.prog 94 = some 1 := by kernel_rfl
theorem ty_int94 : intT Try.prog 94 = none := by kernel_rfl
theorem ty_ifc94 : ifaceT Try.prog 94 = false := by kernel_rfl
theorem ty_bool94 : boolT Try.prog 94 = false := by kernel_rfl
theorem ty_z94 : zeroT Try.prog 94 = some [.nilFunc] := by kernel_rfl
theorem ty_ag95 : aggT Try.prog 95 = some false := by kernel_rfl
theorem ty_sz95 : szT Try.prog 95 = some 1 := by kernel_rfl
theorem ty_int95 : intT Try.prog 95 = some .u8 := by kernel_rfl
theorem ty_ifc95 : ifaceT Try.prog 95 = false := by kernel_rfl
theorem ty_bool95 : boolT Try.prog 95 = false := by kernel_rfl
theorem ty_z95 : zeroT Try.prog 95 = some [.int .u8 (0)] := by kernel_rfl
theorem ty_ag96 : aggT Try.prog 96 = some false := by kernel_rfl
theorem ty_sz96 : szT Try.prog 96 = some 1 := by kernel_rfl
theorem ty_int96 : intT Try.prog 96 = none := by kernel_rfl
theorem ty_ifc96 : ifaceT Try.prog 96 = false := by kernel_rfl
theorem ty_bool96 : boolT Try.prog 96 = false := by kernel_rfl
theorem ty_z96 : zeroT Try.prog 96 = some [.nilFunc] := by kernel_rfl
theorem ty_ag97 : aggT Try.prog 97 = some false := by kernel_rfl
theorem ty_sz97 : szT Try.prog 97 = some 1 := by kernel_rfl
theorem ty_int97 : intT Try.prog 97 = none := by kernel_rfl
theorem ty_ifc97 : ifaceT Try.prog 97 = false := by kernel_rfl
theorem ty_bool97 : boolT Try.prog 97 = false := by kernel_rfl
theorem ty_z97 : zeroT Try.prog 97 = some [.nilFunc] := by kernel_rfl
theorem ty_ag98 : aggT Try.prog 98 = some false := by kernel_rfl
theorem ty_sz98 : szT Try.prog 98 = some 1 := by kernel_rfl
theorem ty_int98 : intT Try.prog 98 = none := by kernel_rfl
theorem ty_ifc98 : ifaceT Try.prog 98 = false := by kernel_rfl
theorem ty_bool98 : boolT Try.prog 98 = false := by kernel_rfl
theorem ty_z98 : zeroT Try.prog 98 = some [.nilFunc] := by kernel_rfl
theorem ty_ag99 : aggT Try.prog 99 = some false := by kernel_rfl
theorem ty_sz99 : szT Try.prog 99 = some 1 := by kernel_rfl
theorem ty_int99 : intT Try.prog 99 = none := by kernel_rfl
theorem ty_ifc99 : ifaceT Try.prog 99 = false := by kernel_rfl
theorem ty_bool99 : boolT Try.prog 99 = false := by kernel_rfl
theorem ty_z99 : zeroT Try.prog 99 = some [.nilFunc] := by kernel_rfl
theorem ty_ag100 : aggT Try.prog 100 = some false := by kernel_rfl
theorem ty_sz100 : szT Try.prog 100 = some 1 := by kernel_rfl
theorem ty_int100 : intT Try.prog 100 = none := by kernel_rfl
theorem ty_ifc100 : ifaceT Try.prog 100 = false := by kernel_rfl
theorem ty_bool100 : boolT Try.prog 100 = false := by kernel_rfl
theorem ty_z100 : zeroT Try.prog 100 = some [.nilFunc] := by kernel_rfl
theorem ty_ag101 : aggT Try.prog 101 = some false := by kernel_rfl
theorem ty_sz101 : szT Try.prog 101 = some 1 := by kernel_rfl
theorem ty_int101 : intT Try.prog 101 = none := by kernel_rfl
theorem ty_ifc101 : ifaceT Try.prog 101 = false := by kernel_rfl
theorem ty_bool101 : boolT Try.prog 101 = false := by kernel_rfl
theorem ty_z101 : zeroT Try.prog 101 = some [.nilFunc] := by kernel_rfl
theorem ty_ag102 : aggT Try.prog 102 = some false := by kernel_rfl
theorem ty_sz102 : szT Try.prog 102 = some 1 := by kernel_rfl
theorem ty_int102 : intT Try.prog 102 = none := by kernel_rfl
theorem ty_ifc102 : ifaceT Try.prog 102 = false := by kernel_rfl
theorem ty_bool102 : boolT Try.prog 102 = false := by kernel_rfl
theorem ty_z102 : zeroT Try.prog 102 = some [.nilFunc] := by kernel_rfl
theorem ty_ag103 : aggT Try.prog 103 = some false := by kernel_rfl
theorem ty_sz103 : szT Try.prog 103 = some 1 := by kernel_rfl
theorem ty_int103 : intT Try.prog 103 = none := by kernel_rfl
theorem ty_ifc103 : ifaceT Try.prog 103 = true := by kernel_rfl
theorem ty_bool103 : boolT Try.prog 103 = false := by kernel_rfl
theorem ty_z103 : zeroT Try.prog 103 = some [.nilIface] := by kernel_rfl
theorem ty_ag104 : aggT Try.prog 104 = some false := by kernel_rfl
theorem ty_sz104 : szT Try.prog 104 = some 1 := by kernel_rfl
theorem ty_int104 : intT Try.prog 104 = none := by kernel_rfl
theorem ty_ifc104 : ifaceT Try.prog 104 = true := by kernel_rfl
theorem ty_bool104 : boolT Try.prog 104 = false := by kernel_rfl
theorem ty_z104 : zeroT Try.prog 104 = some [.nilIface] := by kernel_rfl
theorem ty_ag105 : aggT Try.prog 105 = some false := by kernel_rfl
theorem ty_sz105 : szT Try.prog 105 = some 1 := by kernel_rfl
theorem ty_int105 : intT Try.prog 105 = none := by kernel_rfl
theorem ty_ifc105 : ifaceT Try.prog 105 = true := by kernel_rfl
theorem ty_bool105 : boolT Try.prog 105 = false := by kernel_rfl
theorem ty_z105 : zeroT Try.prog 105 = some [.nilIface] := by kernel_rfl
theorem ty_ag106 : aggT Try.prog 106 = some false := by kernel_rfl
theorem ty_sz106 : szT Try.prog 106 = some 1 := by kernel_rfl
theorem ty_int106 : intT Try.prog 106 = none := by kernel_rfl
theorem ty_ifc106 : ifaceT Try.prog 106 = true := by kernel_rfl
theorem ty_bool106 : boolT Try.prog 106 = false := by kernel_rfl
theorem ty_z106 : zeroT Try.prog 106 = some [.nilIface] := by kernel_rfl
theorem ty_ag107 : aggT Try.prog 107 = some false := by kernel_rfl
theorem ty_sz107 : szT Try.prog 107 = some 1 := by kernel_rfl
theorem ty_int107 : intT Try.prog 107 = none := by kernel_rfl
theorem ty_ifc107 : ifaceT Try.prog 107 = false := by kernel_rfl
theorem ty_bool107 : boolT Try.prog 107 = false := by kernel_rfl
theorem ty_z107 : zeroT Try.prog 107 = some [.nilFunc] := by kernel_rfl
theorem ty_ag108 : aggT Try.prog 108 = some false := by kernel_rfl
theorem ty_sz108 : szT Try.prog 108 = some 1 := by kernel_rfl
theorem ty_int108 : intT Try.prog 108 = none := by kernel_rfl
theorem ty_ifc108 : ifaceT Try.prog 108 = false := by kernel_rfl
theorem ty_bool108 : boolT Try.prog 108 = false := by kernel_rfl
theorem ty_z108 : zeroT Try.prog 108 = some [.nilFunc] := by kernel_rfl
theorem ty_ag109 : aggT Try.prog 109 = some false := by kernel_rfl
theorem ty_sz109 : szT Try.prog 109 = some 1 := by kernel_rfl
theorem ty_int109 : intT Try.prog 109 = none := by kernel_rfl
theorem ty_ifc109 : ifaceT Try.prog 109 = false := by kernel_rfl
theorem ty_bool109 : boolT Try.prog 109 = false := by kernel_rfl
theorem ty_z109 : zeroT Try.prog 109 = some [.nilFunc] := by kernel_rfl
theorem ty_ag110 : aggT Try.prog 110 = some true := by kernel_rfl
theorem ty_sz110 : szT Try.prog 110 = some 12 := by kernel_rfl
theorem ty_int110 : intT Try.prog 110 = none := by kernel_rfl
theorem ty_ifc110 : ifaceT Try.prog 110 = false := by kernel_rfl
theorem ty_bool110 : boolT Try.prog 110 = false := by kernel_rfl
theorem ty_f110_0 : fieldT Try.prog 110 0 = some (0, 10, true) := by kernel_rfl
theorem ty_f110_1 : fieldT Try.prog 110 1 = some (10, 1, false) := by kernel_rfl
theorem ty_f110_2 : fieldT Try.prog 110 2 = some (11, 1, false) := by kernel_rfl
theorem ty_pl110 : placeT Try.prog 110 = some (fun i => #[(0, 10), (10, 1), (11, 1)][i]?) := by kernel_rfl
theorem ty_z110 : zeroT Try.prog 110 = some [.int .u8 (0), .int .u8 (0), .int .u8 (0), .int .u16 (0), .int .u8 (0), .int .u8 (0), .bool false, .bool false, .int .u8 (0), .slice none 0 0, .bool false, .int .u8 (0)] := by kernel_rfl
theorem ty_ag111 : aggT Try.prog 111 = some true := by kernel_rfl
theorem ty_sz111 : szT Try.prog 111 = some 12 := by kernel_rfl
theorem ty_int111 : intT Try.prog 111 = none := by kernel_rfl
theorem ty_ifc111 : ifaceT Try.prog 111 = false := by kernel_rfl
theorem ty_bool111 : boolT Try.prog 111 = false := by kernel_rfl
theorem ty_f111_0 : fieldT Try.prog 111 0 = some (0, 10, true) := by kernel_rfl
theorem ty_f111_1 : fieldT Try.prog 111 1 = some (10, 1, false) := by kernel_rfl
theorem ty_f111_2 : fieldT Try.prog 111 2 = some (11, 1, false) := by kernel_rfl
theorem ty_pl111 : placeT Try.prog 111 = some (fun i => #[(0, 10), (10, 1), (11, 1)][i]?) := by kernel_rfl
theorem ty_z111 : zeroT Try.prog 111 = some [.int .u8 (0), .int .u8 (0), .int .u8 (0), .int .u16 (0), .int .u8 (0), .int .u8 (0), .bool false, .bool false, .int .u8 (0), .slice none 0 0, .bool false, .int .u8 (0)] := by kernel_rfl
theorem ty_ag112 : aggT Try.prog 112 = some false := by kernel_rfl
theorem ty_sz112 : szT Try.prog 112 = some 1 := by kernel_rfl
theorem ty_int112 : intT Try.prog 112 = none := by kernel_rfl
theorem ty_ifc112 : ifaceT Try.prog 112 = false := by kernel_rfl
theorem ty_bool112 : boolT Try.prog 112 = false := by kernel_rfl
theorem ty_z112 : zeroT Try.prog 112 = some [.nilFunc] := by kernel_rfl
theorem ty_ag113 : aggT Try.prog 113 = some false := by kernel_rfl
theorem ty_sz113 : szT Try.prog 113 = some 1 := by kernel_rfl
theorem ty_int113 : intT Try.prog 113 = none := by kernel_rfl
theorem ty_ifc113 : ifaceT Try.prog 113 = false := by kernel_rfl
theorem ty_bool113 : boolT Try.prog 113 = false := by kernel_rfl
theorem ty_z113 : zeroT Try.prog 113 = some [.nilFunc] := by kernel_rfl
theorem ty_ag115 : aggT Try.prog 115 = some false := by kernel_rfl
theorem ty_sz115 : szT Try.prog 115 = some 1 := by kernel_rfl
theorem ty_int115 : intT Try.prog 115 = none := by kernel_rfl
theorem ty_ifc115 : ifaceT Try.prog 115 = false := by kernel_rfl
theorem ty_bool115 : boolT Try.prog 115 = false := by kernel_rfl
theorem ty_z115 : zeroT Try.prog 115 = some [.nilFunc] := by kernel_rfl
theorem ty_ag116 : aggT Try.prog 116 = some false := by kernel_rfl
theorem ty_sz116 : szT Try.prog 116 = some 1 := by kernel_rfl
theorem ty_int116 : intT Try.prog 116 = none := by kernel_rfl
theorem ty_ifc116 : ifaceT Try.prog 116 = false := by kernel_rfl
theorem ty_bool116 : boolT Try.prog 116 = false := by kernel_rfl
theorem ty_z116 : zeroT Try.prog 116 = some [.nilFunc] := by kernel_rfl
theorem ty_ag117 : aggT Try.prog 117 = some false := by kernel_rfl
theorem ty_sz117 : szT Try.prog 117 = some 1 := by kernel_rfl
theorem ty_int117 : intT Try.prog 117 = none := by kernel_rfl
theorem ty_ifc117 : ifaceT Try.prog 117 = false := by kernel_rfl
theorem ty_bool117 : boolT Try.prog 117 = false := by kernel_rfl
theorem ty_z117 : zeroT Try.prog 117 = some [.nilFunc] := by kernel_rfl
theorem ty_ag118 : aggT Try.prog 118 = some false := by kernel_rfl
theorem ty_sz118 : szT Try.prog 118 = some 1 := by kernel_rfl
theorem ty_int118 : intT Try.prog 118 = none := by kernel_rfl
theorem ty_ifc118 : ifaceT Try.prog 118 = false := by kernel_rfl
theorem ty_bool118 : boolT Try.prog 118 = false := by kernel_rfl
theorem ty_z118 : zeroT Try.prog 118 = some [.nilFunc] := by kernel_rfl
theorem ty_ag119 : aggT Try.prog 119 = some false := by kernel_rfl
theorem ty_sz119 : szT Try.prog 119 = some 1 := by kernel_rfl
theorem ty_int119 : intT Try.prog 119 = none := by kernel_rfl
theorem ty_ifc119 : ifaceT Try.prog 119 = false := by kernel_rfl
theorem ty_bool119 : boolT Try.prog 119 = false := by kernel_rfl
theorem ty_z119 : zeroT Try.prog 119 = some [.nilFunc] := by kernel_rfl
theorem ty_ag120 : aggT Try.prog 120 = some false := by kernel_rfl
theorem ty_sz120 : szT Try.prog 120 = some 1 := by kernel_rfl
theorem ty_int120 : intT Try.prog 120 = some .u8 := by kernel_rfl
theorem ty_ifc120 : ifaceT Try.prog 120 = false := by kernel_rfl
theorem ty_bool120 : boolT Try.prog 120 = false := by kernel_rfl
theorem ty_z120 : zeroT Try.prog 120 = some [.int .u8 (0)] := by kernel_rfl
theorem ty_ag121 : aggT Try.prog 121 = some false := by kernel_rfl
theorem ty_sz121 : szT Try.prog 121 = some 1 := by kernel_rfl
theorem ty_int121 : intT Try.prog 121 = none := by kernel_rfl
theorem ty_ifc121 : ifaceT Try.prog 121 = false := by kernel_rfl
theorem ty_bool121 : boolT Try.prog 121 = false := by kernel_rfl
theorem ty_z121 : zeroT Try.prog 121 = some [.nilFunc] := by kernel_rfl
theorem ty_ag122 : aggT Try.prog 122 = some false := by kernel_rfl
theorem ty_sz122 : szT Try.prog 122 = some 1 := by kernel_rfl
theorem ty_int122 : intT Try.prog 122 = none := by kernel_rfl
theorem ty_ifc122 : ifaceT Try.prog 122 = false := by kernel_rfl
theorem ty_bool122 : boolT Try.prog 122 = false := by kernel_rfl
theorem ty_z122 : zeroT Try.prog 122 = some [.nilFunc] := by kernel_rfl
theorem ty_ag123 : aggT Try.prog 123 = some false := by kernel_rfl
theorem ty_sz123 : szT Try.prog 123 = some 1 := by kernel_rfl
theorem ty_int123 : intT Try.prog 123 = none := by kernel_rfl
theorem ty_ifc123 : ifaceT Try.prog 123 = false := by kernel_rfl
theorem ty_bool123 : boolT Try.prog 123 = false := by kernel_rfl
theorem ty_z123 : zeroT Try.prog 123 = some [.nilFunc] := by kernel_rfl
theorem ty_ag124 : aggT Try.prog 124 = some false := by kernel_rfl
theorem ty_sz124 : szT Try.prog 124 = some 1 := by kernel_rfl
theorem ty_int124 : intT Try.prog 124 = some .u32 := by kernel_rfl
theorem ty_ifc124 : ifaceT Try.prog 124 = false := by kernel_rfl
theorem ty_bool124 : boolT Try.prog 124 = false := by kernel_rfl
theorem ty_z124 : zeroT Try.prog 124 = some [.int .u32 (0)] := by kernel_rfl
theorem ty_ag126 : aggT Try.prog 126 = some false := by kernel_rfl
theorem ty_sz126 : szT Try.prog 126 = some 1 := by kernel_rfl
theorem ty_int126 : intT Try.prog 126 = none := by kernel_rfl
theorem ty_ifc126 : ifaceT Try.prog 126 = false := by kernel_rfl
theorem ty_bool126 : boolT Try.prog 126 = false := by kernel_rfl
theorem ty_z126 : zeroT Try.prog 126 = some [.nilFunc] := by kernel_rfl
theorem ty_ag127 : aggT Try.prog 127 = some false := by kernel_rfl
theorem ty_sz127 : szT Try.prog 127 = some 1 := by kernel_rfl
theorem ty_int127 : intT Try.prog 127 = none := by kernel_rfl
theorem ty_ifc127 : ifaceT Try.prog 127 = false := by kernel_rfl
theorem ty_bool127 : boolT Try.prog 127 = false := by kernel_rfl
theorem ty_elem127 : elemT Try.prog 127 = some (142, 3, true) := by kernel_rfl
theorem ty_app127 : appT Try.prog 127 = some (142, 3, 24) := by kernel_rfl
theorem ty_z127 : zeroT Try.prog 127 = some [.slice none 0 0] := by kernel_rfl
theorem ty_ag128 : aggT Try.prog 128 = some false := by kernel_rfl
theorem ty_sz128 : szT Try.prog 128 = some 1 := by kernel_rfl
theorem ty_int128 : intT Try.prog 128 = none := by kernel_rfl
theorem ty_ifc128 : ifaceT Try.prog 128 = false := by kernel_rfl
theorem ty_bool128 : boolT Try.prog 128 = false := by kernel_rfl
theorem ty_z128 : zeroT Try.prog 128 = some [.nilFunc] := by kernel_rfl
theorem ty_ag130 : aggT Try.prog 130 = some false := by kernel_rfl
theorem ty_sz130 : szT Try.prog 130 = some 1 := by kernel_rfl
theorem ty_int130 : intT Try.prog 130 = none := by kernel_rfl
theorem ty_ifc130 : ifaceT Try.prog 130 = false := by kernel_rfl
theorem ty_bool130 : boolT Try.prog 130 = false := by kernel_rfl
theorem ty_z130 : zeroT Try.prog 130 = some [.nilFunc] := by kernel_rfl
theorem ty_ag131 : aggT Try.prog 131 = some true := by kernel_rfl
theorem ty_sz131 : szT Try.prog 131 = some 8 := by kernel_rfl
theorem ty_int131 : intT Try.prog 131 = none := by kernel_rfl
theorem ty_ifc131 : ifaceT Try.prog 131 = false := by kernel_rfl
theorem ty_bool131 : boolT Try.prog 131 = false := by kernel_rfl
theorem ty_arr131 : arrT Try.prog 131 = some (8, 5, 1, false) := by kernel_rfl
theorem ty_pl131 : placeT Try.prog 131 = some (fun i => some (i * 1, 1)) := by kernel_rfl
theorem ty_z131 : zeroT Try.prog 131 = some [.int .u8 (0), .int .u8 (0), .int .u8 (0), .int .u8 (0), .int .u8 (0), .int .u8 (0), .int .u8 (0), .int .u8 (0)] := by kernel_rfl
theorem ty_ag132 : aggT Try.prog 132 = some false := by kernel_rfl
theorem ty_sz132 : szT Try.prog 132 = some 1 := by kernel_rfl
theorem ty_int132 : intT Try.prog 132 = none := by kernel_rfl
theorem ty_ifc132 : ifaceT Try.prog 132 = false := by kernel_rfl
theorem ty_bool132 : boolT Try.prog 132 = false := by kernel_rfl
theorem ty_z132 : zeroT Try.prog 132 = some [.nilFunc] := by kernel_rfl
theorem ty_ag133 : aggT Try.prog 133 = some false := by kernel_rfl
theorem ty_sz133 : szT Try.prog 133 = some 1 := by kernel_rfl
theorem ty_int133 : intT Try.prog 133 = none := by kernel_rfl
theorem ty_ifc133 : ifaceT Try.prog 133 = false := by kernel_rfl
theorem ty_bool133 : boolT Try.prog 133 = false := by kernel_rfl
theorem ty_z133 : zeroT Try.prog 133 = some [.nilFunc] := by kernel_rfl
theorem ty_ag134 : aggT Try.prog 134 = some false := by kernel_rfl
theorem ty_sz134 : szT Try.prog 134 = some 1 := by kernel_rfl
theorem ty_int134 : intT Try.prog 134 = none := by kernel_rfl
theorem ty_ifc134 : ifaceT Try.prog 134 = false := by kernel_rfl
theorem ty_bool134 : boolT Try.prog 134 = false := by kernel_rfl
theorem ty_elem134 : elemT Try.prog 134 = some (3, 1, false) := by kernel_rfl
theorem ty_app134 : appT Try.prog 134 = some (3, 1, 8) := by kernel_rfl
theorem ty_z134 : zeroT Try.prog 134 = some [.slice none 0 0] := by kernel_rfl
theorem ty_ag135 : aggT Try.prog 135 = some false := by kernel_rfl
theorem ty_sz135 : szT Try.prog 135 = some 1 := by kernel_rfl
theorem ty_int135 : intT Try.prog 135 = none := by kernel_rfl
theorem ty_ifc135 : ifaceT Try.prog 135 = false := by kernel_rfl
theorem ty_bool135 : boolT Try.prog 135 = false := by kernel_rfl
theorem ty_z135 : zeroT Try.prog 135 = some [.nilFunc] := by kernel_rfl
theorem ty_ag136 : aggT Try.prog 136 = some false := by kernel_rfl
theorem ty_sz136 : szT Try.prog 136 = some 1 := by kernel_rfl
theorem ty_int136 : intT Try.prog 136 = none := by kernel_rfl
theorem ty_ifc136 : ifaceT Try.prog 136 = false := by kernel_rfl
theorem ty_bool136 : boolT Try.prog 136 = false := by kernel_rfl
theorem ty_z136 : zeroT Try.prog 136 = some [.nilFunc] := by kernel_rfl
theorem ty_ag137 : aggT Try.prog 137 = some false := by kernel_rfl
theorem ty_sz137 : szT Try.prog 137 = some 1 := by kernel_rfl
theorem ty_int137 : intT Try.prog 137 = none := by kernel_rfl
theorem ty_ifc137 : ifaceT Try.prog 137 = false := by kernel_rfl
theorem ty_bool137 : boolT Try.prog 137 = false := by kernel_rfl
theorem ty_z137 : zeroT Try.prog 137 = some [.nilFunc] := by kernel_rfl
theorem ty_ag138 : aggT Try.prog 138 = some false := by kernel_rfl
theorem ty_sz138 : szT Try.prog 138 = some 1 := by kernel_rfl
theorem ty_int138 : intT Try.prog 138 = none := by kernel_rfl
theorem ty_ifc138 : ifaceT Try.prog 138 = false := by kernel_rfl
theorem ty_bool138 : boolT Try.prog 138 = false := by kernel_rfl
theorem ty_z138 : zeroT Try.prog 138 = some [.nilFunc] := by kernel_rfl
theorem ty_ag139 : aggT Try.prog 139 = some false := by kernel_rfl
theorem ty_sz139 : szT Try.prog 139 = some 1 := by kernel_rfl
theorem ty_int139 : intT Try.prog 139 = none := by kernel_rfl
theorem ty_ifc139 : ifaceT Try.prog 139 = false := by kernel_rfl
theorem ty_bool139 : boolT Try.prog 139 = false := by kernel_rfl
theorem ty_z139 : zeroT Try.prog 139 = some [.nilFunc] := by kernel_rfl
theorem ty_ag140 : aggT Try.prog 140 = some false := by kernel_rfl
theorem ty_sz140 : szT Try.prog 140 = some 1 := by kernel_rfl
theorem ty_int140 : intT Try.prog 140 = none := by kernel_rfl
theorem ty_ifc140 : ifaceT Try.prog 140 = false := by kernel_rfl
theorem ty_bool140 : boolT Try.prog 140 = false := by kernel_rfl
theorem ty_z140 : zeroT Try.prog 140 = some [.nilFunc] := by kernel_rfl
theorem ty_ag141 : aggT Try.prog 141 = some true := by kernel_rfl
theorem ty_sz141 : szT Try.prog 141 = some 3 := by kernel_rfl
theorem ty_int141 : intT Try.prog 141 = none := by kernel_rfl
theorem ty_ifc141 : ifaceT Try.prog 141 = false := by kernel_rfl
theorem ty_bool141 : boolT Try.prog 141 = false := by kernel_rfl
theorem ty_f141_0 : fieldT Try.prog 141 0 = some (0, 1, false) := by kernel_rfl
theorem ty_f141_1 : fieldT Try.prog 141 1 = some (1, 1, false) := by kernel_rfl
theorem ty_f141_2 : fieldT Try.prog 141 2 = some (2, 1, false) := by kernel_rfl
theorem ty_pl141 : placeT Try.prog 141 = some (fun i => #[(0, 1), (1, 1), (2, 1)][i]?) := by kernel_rfl
theorem ty_z141 : zeroT Try.prog 141 = some [.int .i64 (0), .nilFunc, .nilFunc] := by kernel_rfl
theorem ty_ag142 : aggT Try.prog 142 = some true := by kernel_rfl
theorem ty_sz142 : szT Try.prog 142 = some 3 := by kernel_rfl
theorem ty_int142 : intT Try.prog 142 = none := by kernel_rfl
theorem ty_ifc142 : ifaceT Try.prog 142 = false := by kernel_rfl
theorem ty_bool142 : boolT Try.prog 142 = false := by kernel_rfl
theorem ty_f142_0 : fieldT Try.prog 142 0 = some (0, 1, false) := by kernel_rfl
theorem ty_f142_1 : fieldT Try.prog 142 1 = some (1, 1, false) := by kernel_rfl
theorem ty_f142_2 : fieldT Try.prog 142 2 = some (2, 1, false) := by kernel_rfl
theorem ty_pl142 : placeT Try.prog 142 = some (fun i => #[(0, 1), (1, 1), (2, 1)][i]?) := by kernel_rfl
theorem ty_z142 : zeroT Try.prog 142 = some [.int .i64 (0), .nilFunc, .nilFunc] := by kernel_rfl
theorem ty_ag143 : aggT Try.prog 143 = some false := by kernel_rfl
theorem ty_sz143 : szT Try.prog 143 = some 1 := by kernel_rfl
theorem ty_int143 : intT Try.prog 143 = none := by kernel_rfl
theorem ty_ifc143 : ifaceT Try.prog 143 = false := by kernel_rfl
theorem ty_m143_0 : methA Try.prog 143 "plugboard/packets.from" = some 71 := by kernel_rfl
theorem ty_k143_0 : nilOk Try.prog 143 "plugboard/packets.from" = true := by kernel_rfl
theorem ty_m143_1 : methA Try.prog 143 "plugboard/packets.number" = some 60 := by kernel_rfl
theorem ty_k143_1 : nilOk Try.prog 143 "plugboard/packets.number" = true := by kernel_rfl
theorem ty_bool143 : boolT Try.prog 143 = false := by kernel_rfl
theorem ty_z143 : zeroT Try.prog 143 = some [.pointer none] := by kernel_rfl
theorem ty_ag144 : aggT Try.prog 144 = some false := by kernel_rfl
theorem ty_sz144 : szT Try.prog 144 = some 1 := by kernel_rfl
theorem ty_int144 : intT Try.prog 144 = none := by kernel_rfl
theorem ty_ifc144 : ifaceT Try.prog 144 = false := by kernel_rfl
theorem ty_bool144 : boolT Try.prog 144 = false := by kernel_rfl
theorem ty_z144 : zeroT Try.prog 144 = some [.nilFunc] := by kernel_rfl
theorem ty_ag145 : aggT Try.prog 145 = some false := by kernel_rfl
theorem ty_sz145 : szT Try.prog 145 = some 1 := by kernel_rfl
theorem ty_int145 : intT Try.prog 145 = none := by kernel_rfl
theorem ty_ifc145 : ifaceT Try.prog 145 = false := by kernel_rfl
theorem ty_bool145 : boolT Try.prog 145 = false := by kernel_rfl
theorem ty_z145 : zeroT Try.prog 145 = some [.nilFunc] := by kernel_rfl
theorem ty_ag146 : aggT Try.prog 146 = some false := by kernel_rfl
theorem ty_sz146 : szT Try.prog 146 = some 1 := by kernel_rfl
theorem ty_int146 : intT Try.prog 146 = none := by kernel_rfl
theorem ty_ifc146 : ifaceT Try.prog 146 = false := by kernel_rfl
theorem ty_bool146 : boolT Try.prog 146 = false := by kernel_rfl
theorem ty_z146 : zeroT Try.prog 146 = some [.nilFunc] := by kernel_rfl
theorem ty_ag147 : aggT Try.prog 147 = some false := by kernel_rfl
theorem ty_sz147 : szT Try.prog 147 = some 1 := by kernel_rfl
theorem ty_int147 : intT Try.prog 147 = none := by kernel_rfl
theorem ty_ifc147 : ifaceT Try.prog 147 = false := by kernel_rfl
theorem ty_bool147 : boolT Try.prog 147 = false := by kernel_rfl
theorem ty_z147 : zeroT Try.prog 147 = some [.nilFunc] := by kernel_rfl
theorem ty_ag148 : aggT Try.prog 148 = some false := by kernel_rfl
theorem ty_sz148 : szT Try.prog 148 = some 1 := by kernel_rfl
theorem ty_int148 : intT Try.prog 148 = none := by kernel_rfl
theorem ty_ifc148 : ifaceT Try.prog 148 = false := by kernel_rfl
theorem ty_bool148 : boolT Try.prog 148 = false := by kernel_rfl
theorem ty_z148 : zeroT Try.prog 148 = some [.nilFunc] := by kernel_rfl
theorem ty_ag149 : aggT Try.prog 149 = some false := by kernel_rfl
theorem ty_sz149 : szT Try.prog 149 = some 1 := by kernel_rfl
theorem ty_int149 : intT Try.prog 149 = none := by kernel_rfl
theorem ty_ifc149 : ifaceT Try.prog 149 = false := by kernel_rfl
theorem ty_bool149 : boolT Try.prog 149 = false := by kernel_rfl
theorem ty_z149 : zeroT Try.prog 149 = some [.nilFunc] := by kernel_rfl
theorem ty_ag150 : aggT Try.prog 150 = some false := by kernel_rfl
theorem ty_sz150 : szT Try.prog 150 = some 1 := by kernel_rfl
theorem ty_int150 : intT Try.prog 150 = none := by kernel_rfl
theorem ty_ifc150 : ifaceT Try.prog 150 = false := by kernel_rfl
theorem ty_bool150 : boolT Try.prog 150 = false := by kernel_rfl
theorem ty_z150 : zeroT Try.prog 150 = some [.nilFunc] := by kernel_rfl
theorem ty_ag151 : aggT Try.prog 151 = some false := by kernel_rfl
theorem ty_sz151 : szT Try.prog 151 = some 1 := by kernel_rfl
theorem ty_int151 : intT Try.prog 151 = none := by kernel_rfl
theorem ty_ifc151 : ifaceT Try.prog 151 = false := by kernel_rfl
theorem ty_bool151 : boolT Try.prog 151 = false := by kernel_rfl
theorem ty_z151 : zeroT Try.prog 151 = some [.nilFunc] := by kernel_rfl
theorem ty_ag152 : aggT Try.prog 152 = some false := by kernel_rfl
theorem ty_sz152 : szT Try.prog 152 = some 1 := by kernel_rfl
theorem ty_int152 : intT Try.prog 152 = none := by kernel_rfl
theorem ty_ifc152 : ifaceT Try.prog 152 = false := by kernel_rfl
theorem ty_bool152 : boolT Try.prog 152 = false := by kernel_rfl
theorem ty_z152 : zeroT Try.prog 152 = some [.nilFunc] := by kernel_rfl
theorem ty_ag153 : aggT Try.prog 153 = some true := by kernel_rfl
theorem ty_sz153 : szT Try.prog 153 = some 16 := by kernel_rfl
theorem ty_int153 : intT Try.prog 153 = none := by kernel_rfl
theorem ty_ifc153 : ifaceT Try.prog 153 = false := by kernel_rfl
theorem ty_bool153 : boolT Try.prog 153 = false := by kernel_rfl
theorem ty_arr153 : arrT Try.prog 153 = some (16, 22, 1, false) := by kernel_rfl
theorem ty_pl153 : placeT Try.prog 153 = some (fun i => some (i * 1, 1)) := by kernel_rfl
theorem ty_z153 : zeroT Try.prog 153 = some [.int .u16 (0), .int .u16 (0), .int .u16 (0), .int .u16 (0), .int .u16 (0), .int .u16 (0), .int .u16 (0), .int .u16 (0), .int .u16 (0), .int .u16 (0), .int .u16 (0), .int .u16 (0), .int .u16 (0), .int .u16 (0), .int .u16 (0), .int .u16 (0)] := by kernel_rfl
theorem ty_ag154 : aggT Try.prog 154 = some false := by kernel_rfl
theorem ty_sz154 : szT Try.prog 154 = some 1 := by kernel_rfl
theorem ty_int154 : intT Try.prog 154 = none := by kernel_rfl
theorem ty_ifc154 : ifaceT Try.prog 154 = false := by kernel_rfl
theorem ty_bool154 : boolT Try.prog 154 = false := by kernel_rfl
theorem ty_z154 : zeroT Try.prog 154 = some [.nilFunc] := by kernel_rfl
theorem ty_ag155 : aggT Try.prog 155 = some false := by kernel_rfl
theorem ty_sz155 : szT Try.prog 155 = some 1 := by kernel_rfl
theorem ty_int155 : intT Try.prog 155 = none := by kernel_rfl
theorem ty_ifc155 : ifaceT Try.prog 155 = false := by kernel_rfl
theorem ty_bool155 : boolT Try.prog 155 = false := by kernel_rfl
theorem ty_z155 : zeroT Try.prog 155 = some [.nilFunc] := by kernel_rfl
theorem ty_ag156 : aggT Try.prog 156 = some false := by kernel_rfl
theorem ty_sz156 : szT Try.prog 156 = some 1 := by kernel_rfl
theorem ty_int156 : intT Try.prog 156 = none := by kernel_rfl
theorem ty_ifc156 : ifaceT Try.prog 156 = false := by kernel_rfl
theorem ty_bool156 : boolT Try.prog 156 = false := by kernel_rfl
theorem ty_z156 : zeroT Try.prog 156 = some [.nilFunc] := by kernel_rfl
theorem ty_ag157 : aggT Try.prog 157 = some false := by kernel_rfl
theorem ty_sz157 : szT Try.prog 157 = some 1 := by kernel_rfl
theorem ty_int157 : intT Try.prog 157 = none := by kernel_rfl
theorem ty_ifc157 : ifaceT Try.prog 157 = false := by kernel_rfl
theorem ty_bool157 : boolT Try.prog 157 = false := by kernel_rfl
theorem ty_z157 : zeroT Try.prog 157 = some [.nilFunc] := by kernel_rfl
theorem ty_ag158 : aggT Try.prog 158 = some false := by kernel_rfl
theorem ty_sz158 : szT Try.prog 158 = some 1 := by kernel_rfl
theorem ty_int158 : intT Try.prog 158 = none := by kernel_rfl
theorem ty_ifc158 : ifaceT Try.prog 158 = false := by kernel_rfl
theorem ty_bool158 : boolT Try.prog 158 = false := by kernel_rfl
theorem ty_z158 : zeroT Try.prog 158 = some [.nilFunc] := by kernel_rfl
theorem ty_ag159 : aggT Try.prog 159 = some true := by kernel_rfl
theorem ty_sz159 : szT Try.prog 159 = some 4 := by kernel_rfl
theorem ty_int159 : intT Try.prog 159 = none := by kernel_rfl
theorem ty_ifc159 : ifaceT Try.prog 159 = false := by kernel_rfl
theorem ty_bool159 : boolT Try.prog 159 = false := by kernel_rfl
theorem ty_f159_0 : fieldT Try.prog 159 0 = some (0, 1, false) := by kernel_rfl
theorem ty_f159_1 : fieldT Try.prog 159 1 = some (1, 1, false) := by kernel_rfl
theorem ty_f159_2 : fieldT Try.prog 159 2 = some (2, 1, false) := by kernel_rfl
theorem ty_f159_3 : fieldT Try.prog 159 3 = some (3, 1, false) := by kernel_rfl
theorem ty_pl159 : placeT Try.prog 159 = some (fun i => #[(0, 1), (1, 1), (2, 1), (3, 1)][i]?) := by kernel_rfl
theorem ty_z159 : zeroT Try.prog 159 = some [.pointer none, .pointer none, .pointer none, .string ⟨#[]⟩] := by kernel_rfl
theorem ty_ag160 : aggT Try.prog 160 = some true := by kernel_rfl
theorem ty_sz160 : szT Try.prog 160 = some 4 := by kernel_rfl
theorem ty_int160 : intT Try.prog 160 = none := by kernel_rfl
theorem ty_ifc160 : ifaceT Try.prog 160 = false := by kernel_rfl
theorem ty_bool160 : boolT Try.prog 160 = false := by kernel_rfl
theorem ty_f160_0 : fieldT Try.prog 160 0 = some (0, 1, false) := by kernel_rfl
theorem ty_f160_1 : fieldT Try.prog 160 1 = some (1, 1, false) := by kernel_rfl
theorem ty_f160_2 : fieldT Try.prog 160 2 = some (2, 1, false) := by kernel_rfl
theorem ty_f160_3 : fieldT Try.prog 160 3 = some (3, 1, false) := by kernel_rfl
theorem ty_pl160 : placeT Try.prog 160 = some (fun i => #[(0, 1), (1, 1), (2, 1), (3, 1)][i]?) := by kernel_rfl
theorem ty_z160 : zeroT Try.prog 160 = some [.pointer none, .pointer none, .pointer none, .string ⟨#[]⟩] := by kernel_rfl
theorem ty_ag161 : aggT Try.prog 161 = some true := by kernel_rfl
theorem ty_sz161 : szT Try.prog 161 = some 0 := by kernel_rfl
theorem ty_int161 : intT Try.prog 161 = none := by kernel_rfl
theorem ty_ifc161 : ifaceT Try.prog 161 = false := by kernel_rfl
theorem ty_bool161 : boolT Try.prog 161 = false := by kernel_rfl
theorem ty_arr161 : arrT Try.prog 161 = some (0, 16, 1, false) := by kernel_rfl
theorem ty_pl161 : placeT Try.prog 161 = some (fun i => some (i * 1, 1)) := by kernel_rfl
theorem ty_z161 : zeroT Try.prog 161 = some [] := by kernel_rfl
theorem ty_ag162 : aggT Try.prog 162 = some true := by kernel_rfl
theorem ty_sz162 : szT Try.prog 162 = some 0 := by kernel_rfl
theorem ty_int162 : intT Try.prog 162 = none := by kernel_rfl
theorem ty_ifc162 : ifaceT Try.prog 162 = false := by kernel_rfl
theorem ty_bool162 : boolT Try.prog 162 = false := by kernel_rfl
theorem ty_pl162 : placeT Try.prog 162 = some (fun i => #[(0, 0)][i]?) := by kernel_rfl
theorem ty_z162 : zeroT Try.prog 162 = some [] := by kernel_rfl
theorem ty_ag163 : aggT Try.prog 163 = some true := by kernel_rfl
theorem ty_sz163 : szT Try.prog 163 = some 0 := by kernel_rfl
theorem ty_int163 : intT Try.prog 163 = none := by kernel_rfl
theorem ty_ifc163 : ifaceT Try.prog 163 = false := by kernel_rfl
theorem ty_bool163 : boolT Try.prog 163 = false := by kernel_rfl
theorem ty_pl163 : placeT Try.prog 163 = some (fun i => #[(0, 0)][i]?) := by kernel_rfl
theorem ty_z163 : zeroT Try.prog 163 = some [] := by kernel_rfl
theorem ty_ag164 : aggT Try.prog 164 = some false := by kernel_rfl
theorem ty_sz164 : szT Try.prog 164 = some 1 := by kernel_rfl
theorem ty_int164 : intT Try.prog 164 = some .u8 := by kernel_rfl
theorem ty_ifc164 : ifaceT Try.prog 164 = false := by kernel_rfl
theorem ty_bool164 : boolT Try.prog 164 = false := by kernel_rfl
theorem ty_z164 : zeroT Try.prog 164 = some [.int .u8 (0)] := by kernel_rfl
theorem ty_ag165 : aggT Try.prog 165 = some false := by kernel_rfl
theorem ty_sz165 : szT Try.prog 165 = some 1 := by kernel_rfl
theorem ty_int165 : intT Try.prog 165 = some .u8 := by kernel_rfl
theorem ty_ifc165 : ifaceT Try.prog 165 = false := by kernel_rfl
theorem ty_m165_0 : methA Try.prog 165 "String" = some 121 := by kernel_rfl
theorem ty_k165_0 : nilOk Try.prog 165 "String" = true := by kernel_rfl
theorem ty_bool165 : boolT Try.prog 165 = false := by kernel_rfl
theorem ty_z165 : zeroT Try.prog 165 = some [.int .u8 (0)] := by kernel_rfl
theorem ty_ag166 : aggT Try.prog 166 = some false := by kernel_rfl
theorem ty_sz166 : szT Try.prog 166 = some 1 := by kernel_rfl
theorem ty_int166 : intT Try.prog 166 = none := by kernel_rfl
theorem ty_ifc166 : ifaceT Try.prog 166 = false := by kernel_rfl
theorem ty_bool166 : boolT Try.prog 166 = false := by kernel_rfl
theorem ty_z166 : zeroT Try.prog 166 = some [.nilFunc] := by kernel_rfl
theorem ty_ag167 : aggT Try.prog 167 = some false := by kernel_rfl
theorem ty_sz167 : szT Try.prog 167 = some 1 := by kernel_rfl
theorem ty_int167 : intT Try.prog 167 = none := by kernel_rfl
theorem ty_ifc167 : ifaceT Try.prog 167 = false := by kernel_rfl
theorem ty_bool167 : boolT Try.prog 167 = false := by kernel_rfl
theorem ty_z167 : zeroT Try.prog 167 = some [.pointer none] := by kernel_rfl
theorem ty_ag168 : aggT Try.prog 168 = some false := by kernel_rfl
theorem ty_sz168 : szT Try.prog 168 = some 1 := by kernel_rfl
theorem ty_int168 : intT Try.prog 168 = some .i32 := by kernel_rfl
theorem ty_ifc168 : ifaceT Try.prog 168 = false := by kernel_rfl
theorem ty_bool168 : boolT Try.prog 168 = false := by kernel_rfl
theorem ty_z168 : zeroT Try.prog 168 = some [.int .i32 (0)] := by kernel_rfl
theorem ty_ag169 : aggT Try.prog 169 = some false := by kernel_rfl
theorem ty_sz169 : szT Try.prog 169 = some 1 := by kernel_rfl
theorem ty_int169 : intT Try.prog 169 = some .i32 := by kernel_rfl
theorem ty_ifc169 : ifaceT Try.prog 169 = false := by kernel_rfl
theorem ty_bool169 : boolT Try.prog 169 = false := by kernel_rfl
theorem ty_z169 : zeroT Try.prog 169 = some [.int .i32 (0)] := by kernel_rfl
theorem ty_ag170 : aggT Try.prog 170 = some true := by kernel_rfl
theorem ty_sz170 : szT Try.prog 170 = some 11 := by kernel_rfl
theorem ty_int170 : intT Try.prog 170 = none := by kernel_rfl
theorem ty_ifc170 : ifaceT Try.prog 170 = false := by kernel_rfl
theorem ty_bool170 : boolT Try.prog 170 = false := by kernel_rfl
theorem ty_f170_0 : fieldT Try.prog 170 0 = some (0, 1, false) := by kernel_rfl
theorem ty_f170_1 : fieldT Try.prog 170 1 = some (1, 1, false) := by kernel_rfl
theorem ty_f170_2 : fieldT Try.prog 170 2 = some (2, 1, false) := by kernel_rfl
theorem ty_f170_3 : fieldT Try.prog 170 3 = some (3, 1, false) := by kernel_rfl
theorem ty_f170_4 : fieldT Try.prog 170 4 = some (4, 1, false) := by kernel_rfl
theorem ty_f170_5 : fieldT Try.prog 170 5 = some (5, 1, false) := by kernel_rfl
theorem ty_f170_6 : fieldT Try.prog 170 6 = some (6, 1, false) := by kernel_rfl
theorem ty_f170_7 : fieldT Try.prog 170 7 = some (7, 1, false) := by kernel_rfl
theorem ty_f170_8 : fieldT Try.prog 170 8 = some (8, 1, false) := by kernel_rfl
theorem ty_f170_9 : fieldT Try.prog 170 9 = some (9, 1, false) := by kernel_rfl
theorem ty_f170_10 : fieldT Try.prog 170 10 = some (10, 1, false) := by kernel_rfl
theorem ty_pl170 : placeT Try.prog 170 = some (fun i => #[(0, 1), (1, 1), (2, 1), (3, 1), (4, 1), (5, 1), (6, 1), (7, 1), (8, 1), (9, 1), (10, 1)][i]?) := by kernel_rfl
theorem ty_z170 : zeroT Try.prog 170 = some [.int .u64 (0), .int .u64 (0), .int .u32 (0), .int .u8 (0), .int .u8 (0), .int .u8 (0), .int .u8 (0), .nilFunc, .pointer none, .int .i32 (0), .int .i32 (0)] := by kernel_rfl
theorem ty_ag171 : aggT Try.prog 171 = some true := by kernel_rfl
theorem ty_sz171 : szT Try.prog 171 = some 11 := by kernel_rfl
theorem ty_int171 : intT Try.prog 171 = none := by kernel_rfl
theorem ty_ifc171 : ifaceT Try.prog 171 = false := by kernel_rfl
theorem ty_bool171 : boolT Try.prog 171 = false := by kernel_rfl
theorem ty_f171_0 : fieldT Try.prog 171 0 = some (0, 1, false) := by kernel_rfl
theorem ty_f171_1 : fieldT Try.prog 171 1 = some (1, 1, false) := by kernel_rfl
theorem ty_f171_2 : fieldT Try.prog 171 2 = some (2, 1, false) := by kernel_rfl
theorem ty_f171_3 : fieldT Try.prog 171 3 = some (3, 1, false) := by kernel_rfl
theorem ty_f171_4 : fieldT Try.prog 171 4 = some (4, 1, false) := by kernel_rfl
theorem ty_f171_5 : fieldT Try.prog 171 5 = some (5, 1, false) := by kernel_rfl
theorem ty_f171_6 : fieldT Try.prog 171 6 = some (6, 1, false) := by kernel_rfl
theorem ty_f171_7 : fieldT Try.prog 171 7 = some (7, 1, false) := by kernel_rfl
theorem ty_f171_8 : fieldT Try.prog 171 8 = some (8, 1, false) := by kernel_rfl
theorem ty_f171_9 : fieldT Try.prog 171 9 = some (9, 1, false) := by kernel_rfl
theorem ty_f171_10 : fieldT Try.prog 171 10 = some (10, 1, false) := by kernel_rfl
theorem ty_pl171 : placeT Try.prog 171 = some (fun i => #[(0, 1), (1, 1), (2, 1), (3, 1), (4, 1), (5, 1), (6, 1), (7, 1), (8, 1), (9, 1), (10, 1)][i]?) := by kernel_rfl
theorem ty_z171 : zeroT Try.prog 171 = some [.int .u64 (0), .int .u64 (0), .int .u32 (0), .int .u8 (0), .int .u8 (0), .int .u8 (0), .int .u8 (0), .nilFunc, .pointer none, .int .i32 (0), .int .i32 (0)] := by kernel_rfl
theorem ty_mixed : Try.prog.follows .mixedOrders = true := by kernel_rfl
theorem fok2 : fnOk Try.f2 = true := by kernel_rfl
theorem fok3 : fnOk Try.f3 = true := by kernel_rfl
theorem fok4 : fnOk Try.f4 = true := by kernel_rfl
theorem fok5 : fnOk Try.f5 = true := by kernel_rfl
theorem fok6 : fnOk Try.f6 = true := by kernel_rfl
theorem fok7 : fnOk Try.f7 = true := by kernel_rfl
theorem fok8 : fnOk Try.f8 = true := by kernel_rfl
theorem fok9 : fnOk Try.f9 = true := by kernel_rfl
theorem fok10 : fnOk Try.f10 = true := by kernel_rfl
theorem fok11 : fnOk Try.f11 = true := by kernel_rfl
theorem fok12 : fnOk Try.f12 = true := by kernel_rfl
theorem fok13 : fnOk Try.f13 = true := by kernel_rfl
theorem fok14 : fnOk Try.f14 = true := by kernel_rfl
theorem fok15 : fnOk Try.f15 = true := by kernel_rfl
theorem fok16 : fnOk Try.f16 = true := by kernel_rfl
theorem fok17 : fnOk Try.f17 = true := by kernel_rfl
theorem fok18 : fnOk Try.f18 = true := by kernel_rfl
theorem fok19 : fnOk Try.f19 = true := by kernel_rfl
theorem fok20 : fnOk Try.f20 = true := by kernel_rfl
theorem fok21 : fnOk Try.f21 = true := by kernel_rfl
theorem fok22 : fnOk Try.f22 = true := by kernel_rfl
theorem fok23 : fnOk Try.f23 = true := by kernel_rfl
theorem fok24 : fnOk Try.f24 = true := by kernel_rfl
theorem fok25 : fnOk Try.f25 = true := by kernel_rfl
theorem fok26 : fnOk Try.f26 = true := by kernel_rfl
theorem fok27 : fnOk Try.f27 = true := by kernel_rfl
theorem fok28 : fnOk Try.f28 = true := by kernel_rfl
theorem fok29 : fnOk Try.f29 = true := by kernel_rfl
theorem fok30 : fnOk Try.f30 = true := by kernel_rfl
theorem fok31 : fnOk Try.f31 = true := by kernel_rfl
theorem fok32 : fnOk Try.f32 = true := by kernel_rfl
theorem fok33 : fnOk Try.f33 = true := by kernel_rfl
theorem fok34 : fnOk Try.f34 = true := by kernel_rfl
theorem fok35 : fnOk Try.f35 = true := by kernel_rfl
theorem fok36 : fnOk Try.f36 = true := by kernel_rfl
theorem fok37 : fnOk Try.f37 = true := by kernel_rfl
theorem fok38 : fnOk Try.f38 = true := by kernel_rfl
theorem fok39 : fnOk Try.f39 = true := by kernel_rfl
theorem fok40 : fnOk Try.f40 = true := by kernel_rfl
theorem fok41 : fnOk Try.f41 = true := by kernel_rfl
theorem fok42 : fnOk Try.f42 = true := by kernel_rfl
theorem fok43 : fnOk Try.f43 = true := by kernel_rfl
theorem fok44 : fnOk Try.f44 = true := by kernel_rfl
theorem fok45 : fnOk Try.f45 = true := by kernel_rfl
theorem fok46 : fnOk Try.f46 = true := by kernel_rfl
theorem fok47 : fnOk Try.f47 = true := by kernel_rfl
theorem fok48 : fnOk Try.f48 = true := by kernel_rfl
theorem fok49 : fnOk Try.f49 = true := by kernel_rfl
theorem fok50 : fnOk Try.f50 = true := by kernel_rfl
theorem fok51 : fnOk Try.f51 = true := by kernel_rfl
theorem fok52 : fnOk Try.f52 = true := by kernel_rfl
theorem fok53 : fnOk Try.f53 = true := by kernel_rfl
theorem fok54 : fnOk Try.f54 = true := by kernel_rfl
theorem fok55 : fnOk Try.f55 = true := by kernel_rfl
theorem fok56 : fnOk Try.f56 = true := by kernel_rfl
theorem fok57 : fnOk Try.f57 = true := by kernel_rfl
theorem fok58 : fnOk Try.f58 = true := by kernel_rfl
theorem fok59 : fnOk Try.f59 = true := by kernel_rfl
theorem fok60 : fnOk Try.f60 = true := by kernel_rfl
theorem fok61 : fnOk Try.f61 = true := by kernel_rfl
theorem fok62 : fnOk Try.f62 = true := by kernel_rfl
theorem fok63 : fnOk Try.f63 = true := by kernel_rfl
theorem fok64 : fnOk Try.f64 = true := by kernel_rfl
theorem fok65 : fnOk Try.f65 = true := by kernel_rfl
theorem fok66 : fnOk Try.f66 = true := by kernel_rfl
theorem fok67 : fnOk Try.f67 = true := by kernel_rfl
theorem fok68 : fnOk Try.f68 = true := by kernel_rfl
theorem fok69 : fnOk Try.f69 = true := by kernel_rfl
theorem fok70 : fnOk Try.f70 = true := by kernel_rfl
theorem fok71 : fnOk Try.f71 = true := by kernel_rfl
theorem fok72 : fnOk Try.f72 = true := by kernel_rfl
theorem fok73 : fnOk Try.f73 = true := by kernel_rfl
theorem fok74 : fnOk Try.f74 = true := by kernel_rfl
theorem fok75 : fnOk Try.f75 = true := by kernel_rfl
theorem fok76 : fnOk Try.f76 = true := by kernel_rfl
theorem fok77 : fnOk Try.f77 = true := by kernel_rfl
theorem fok78 : fnOk Try.f78 = true := by kernel_rfl
theorem fok79 : fnOk Try.f79 = true := by kernel_rfl
theorem fok80 : fnOk Try.f80 = true := by kernel_rfl
theorem fok81 : fnOk Try.f81 = true := by kernel_rfl
theorem fok82 : fnOk Try.f82 = true := by kernel_rfl
theorem fok83 : fnOk Try.f83 = true := by kernel_rfl
theorem fok84 : fnOk Try.f84 = true := by kernel_rfl
theorem fok85 : fnOk Try.f85 = true := by kernel_rfl
theorem fok86 : fnOk Try.f86 = true := by kernel_rfl
theorem fok87 : fnOk Try.f87 = true := by kernel_rfl
theorem fok88 : fnOk Try.f88 = true := by kernel_rfl
theorem fok89 : fnOk Try.f89 = true := by kernel_rfl
theorem fok90 : fnOk Try.f90 = true := by kernel_rfl
theorem fok91 : fnOk Try.f91 = true := by kernel_rfl
theorem fok92 : fnOk Try.f92 = true := by kernel_rfl
theorem fok93 : fnOk Try.f93 = true := by kernel_rfl
theorem fok94 : fnOk Try.f94 = true := by kernel_rfl
theorem fok95 : fnOk Try.f95 = true := by kernel_rfl
theorem fok96 : fnOk Try.f96 = true := by kernel_rfl
theorem fok97 : fnOk Try.f97 = true := by kernel_rfl
theorem fok98 : fnOk Try.f98 = true := by kernel_rfl
theorem fok99 : fnOk Try.f99 = true := by kernel_rfl
theorem fok100 : fnOk Try.f100 = true := by kernel_rfl
theorem fok101 : fnOk Try.f101 = true := by kernel_rfl
theorem fok102 : fnOk Try.f102 = true := by kernel_rfl
theorem fok103 : fnOk Try.f103 = true := by kernel_rfl
theorem fok104 : fnOk Try.f104 = true := by kernel_rfl
theorem fok120 : fnOk Try.f120 = true := by kernel_rfl

attribute [push_cast] ty_ag1 ty_sz1 ty_int1 ty_ifc1 ty_bool1 ty_z1 Try.underlying1 ty_ag2 ty_sz2 ty_int2 ty_ifc2 ty_bool2 ty_z2 Try.underlying2 ty_ag3 ty_sz3 ty_int3 ty_ifc3 ty_bool3 ty_z3 Try.underlying3 ty_ag4 ty_sz4 ty_int4 ty_ifc4 ty_bool4 ty_z4 Try.underlying4 ty_ag5 ty_sz5 ty_int5 ty_ifc5 ty_bool5 ty_z5 Try.underlying5 ty_ag6 ty_sz6 ty_int6 ty_ifc6 ty_bool6 ty_z6 Try.underlying6 ty_ag7 ty_sz7 ty_int7 ty_eq7 ty_ifc7 ty_bool7 ty_f7_0 ty_f7_1 ty_f7_2 ty_f7_3 ty_pl7 ty_z7 Try.underlying7 ty_ag8 ty_sz8 ty_int8 ty_eq8 ty_ifc8 ty_m8_0 ty_k8_0 ty_m8_1 ty_k8_1 ty_bool8 ty_f8_0 ty_f8_1 ty_f8_2 ty_f8_3 ty_pl8 ty_z8 Try.underlying8 ty_ag9 ty_sz9 ty_int9 ty_ifc9 ty_bool9 ty_z9 Try.underlying9 ty_ag10 ty_sz10 ty_int10 ty_ifc10 ty_m10_0 ty_k10_0 ty_m10_1 ty_k10_1 ty_bool10 ty_z10 Try.underlying10 ty_ag11 ty_sz11 ty_int11 ty_ifc11 ty_m11_0 ty_k11_0 ty_m11_1 ty_k11_1 ty_bool11 ty_z11 Try.underlying11 ty_ag12 ty_sz12 ty_int12 ty_ifc12 ty_bool12 ty_z12 Try.underlying12 ty_ag13 ty_sz13 ty_int13 ty_ifc13 ty_bool13 ty_f13_0 ty_f13_1 ty_pl13 ty_z13 Try.underlying13 ty_ag14 ty_sz14 ty_int14 ty_ifc14 ty_m14_0 ty_k14_0 ty_m14_1 ty_k14_1 ty_bool14 ty_f14_0 ty_f14_1 ty_pl14 ty_z14 Try.underlying14 ty_ag15 ty_sz15 ty_int15 ty_ifc15 ty_m15_0 ty_k15_0 ty_m15_1 ty_k15_1 ty_bool15 ty_z15 Try.underlying15 ty_ag16 ty_sz16 ty_int16 ty_ifc16 ty_m16_0 ty_k16_0 ty_m16_1 ty_k16_1 ty_bool16 ty_z16 Try.underlying16 ty_ag17 ty_sz17 ty_int17 ty_ifc17 ty_m17_0 ty_k17_0 ty_bool17 ty_z17 Try.underlying17 ty_ag18 ty_sz18 ty_int18 ty_ifc18 ty_bool18 ty_f18_0 ty_pl18 ty_z18 Try.underlying18 ty_ag19 ty_sz19 ty_int19 ty_ifc19 ty_m19_0 ty_k19_0 ty_m19_1 ty_k19_1 ty_bool19 ty_f19_0 ty_pl19 ty_z19 Try.underlying19 ty_ag20 ty_sz20 ty_int20 ty_ifc20 ty_bool20 ty_z20 ty_ag21 ty_sz21 ty_int21 ty_ifc21 ty_bool21 ty_z21 Try.underlying21 ty_ag22 ty_sz22 ty_int22 ty_ifc22 ty_bool22 ty_z22 Try.underlying22 ty_ag23 ty_sz23 ty_int23 ty_ifc23 ty_bool23 ty_elem23 ty_app23 ty_z23 Try.underlying23 ty_ag24 ty_sz24 ty_int24 ty_ifc24 ty_bool24 ty_f24_0 ty_f24_1 ty_f24_2 ty_f24_3 ty_f24_4 ty_f24_5 ty_pl24 ty_z24 Try.underlying24 ty_ag25 ty_sz25 ty_int25 ty_ifc25 ty_bool25 ty_f25_0 ty_f25_1 ty_f25_2 ty_f25_3 ty_f25_4 ty_f25_5 ty_pl25 ty_z25 Try.underlying25 ty_ag26 ty_sz26 ty_int26 ty_ifc26 ty_bool26 ty_z26 Try.underlying26 ty_ag27 ty_sz27 ty_int27 ty_ifc27 ty_bool27 ty_z27 Try.underlying27 ty_ag28 ty_sz28 ty_int28 ty_eq28 ty_ifc28 ty_bool28 ty_f28_0 ty_f28_1 ty_f28_2 ty_f28_3 ty_f28_4 ty_pl28 ty_z28 Try.underlying28 ty_ag29 ty_sz29 ty_int29 ty_eq29 ty_ifc29 ty_bool29 ty_f29_0 ty_f29_1 ty_f29_2 ty_f29_3 ty_f29_4 ty_pl29 ty_z29 Try.underlying29 ty_ag30 ty_sz30 ty_int30 ty_ifc30 ty_bool30 ty_f30_0 ty_f30_1 ty_f30_2 ty_f30_3 ty_f30_4 ty_f30_5 ty_pl30 ty_z30 Try.underlying30 ty_ag31 ty_sz31 ty_int31 ty_ifc31 ty_bool31 ty_f31_0 ty_f31_1 ty_f31_2 ty_f31_3 ty_f31_4 ty_f31_5 ty_pl31 ty_z31 Try.underlying31 ty_ag32 ty_sz32 ty_int32 ty_ifc32 ty_bool32 ty_z32 Try.underlying32 ty_ag33 ty_sz33 ty_int33 ty_ifc33 ty_bool33 ty_elem33 ty_app33 ty_z33 Try.underlying33 ty_ag34 ty_sz34 ty_int34 ty_ifc34 ty_bool34 ty_elem34 ty_app34 ty_z34 Try.underlying34 ty_ag35 ty_sz35 ty_int35 ty_ifc35 ty_bool35 ty_z35 Try.underlying35 ty_ag37 ty_sz37 ty_int37 ty_ifc37 ty_bool37 ty_z37 Try.underlying37 ty_ag39 ty_sz39 ty_int39 ty_ifc39 ty_bool39 ty_z39 Try.underlying39 ty_ag40 ty_sz40 ty_int40 ty_ifc40 ty_bool40 ty_z40 Try.underlying40 ty_ag41 ty_sz41 ty_int41 ty_ifc41 ty_bool41 ty_z41 Try.underlying41 ty_ag42 ty_sz42 ty_int42 ty_ifc42 ty_bool42 ty_z42 Try.underlying42 ty_ag43 ty_sz43 ty_int43 ty_ifc43 ty_bool43 ty_elem43 ty_app43 ty_z43 Try.underlying43 ty_ag44 ty_sz44 ty_int44 ty_ifc44 ty_bool44 ty_f44_0 ty_f44_1 ty_pl44 ty_z44 Try.underlying44 ty_ag45 ty_sz45 ty_int45 ty_ifc45 ty_bool45 ty_f45_0 ty_f45_1 ty_pl45 ty_z45 Try.underlying45 ty_ag46 ty_sz46 ty_int46 ty_ifc46 ty_bool46 ty_z46 Try.underlying46 ty_ag47 ty_sz47 ty_int47 ty_ifc47 ty_m47_0 ty_k47_0 ty_bool47 ty_z47 Try.underlying47 ty_ag48 ty_sz48 ty_int48 ty_ifc48 ty_bool48 ty_f48_0 ty_f48_1 ty_pl48 ty_z48 Try.underlying48 ty_ag49 ty_sz49 ty_int49 ty_ifc49 ty_bool49 ty_f49_0 ty_f49_1 ty_pl49 ty_z49 Try.underlying49 ty_ag50 ty_sz50 ty_int50 ty_ifc50 ty_bool50 ty_elem50 ty_app50 ty_z50 Try.underlying50 ty_ag52 ty_sz52 ty_int52 ty_ifc52 ty_bool52 ty_z52 Try.underlying52 ty_ag53 ty_sz53 ty_int53 ty_ifc53 ty_m53_0 ty_k53_0 ty_m53_1 ty_k53_1 ty_bool53 ty_z53 Try.underlying53 ty_ag54 ty_sz54 ty_int54 ty_ifc54 ty_bool54 ty_z54 Try.underlying54 ty_ag55 ty_sz55 ty_int55 ty_ifc55 ty_bool55 ty_elem55 ty_app55 ty_z55 Try.underlying55 ty_ag56 ty_sz56 ty_int56 ty_ifc56 ty_bool56 ty_f56_0 ty_f56_1 ty_f56_2 ty_f56_3 ty_pl56 ty_z56 Try.underlying56 ty_ag57 ty_sz57 ty_int57 ty_ifc57 ty_bool57 ty_f57_0 ty_f57_1 ty_f57_2 ty_f57_3 ty_pl57 ty_z57 Try.underlying57 ty_ag59 ty_sz59 ty_int59 ty_ifc59 ty_bool59 ty_z59 Try.underlying59 ty_ag60 ty_sz60 ty_int60 ty_ifc60 ty_bool60 ty_z60 Try.underlying60 ty_ag61 ty_sz61 ty_int61 ty_ifc61 ty_bool61 ty_z61 Try.underlying61 ty_ag62 ty_sz62 ty_int62 ty_ifc62 ty_bool62 ty_z62 Try.underlying62 ty_ag63 ty_sz63 ty_int63 ty_ifc63 ty_bool63 ty_z63 Try.underlying63 ty_ag64 ty_sz64 ty_int64 ty_ifc64 ty_bool64 ty_z64 Try.underlying64 ty_ag65 ty_sz65 ty_int65 ty_ifc65 ty_bool65 ty_z65 Try.underlying65 ty_ag66 ty_sz66 ty_int66 ty_ifc66 ty_bool66 ty_f66_0 ty_f66_1 ty_f66_2 ty_f66_3 ty_f66_4 ty_f66_5 ty_f66_6 ty_pl66 ty_z66 Try.underlying66 ty_ag67 ty_sz67 ty_int67 ty_ifc67 ty_bool67 ty_f67_0 ty_f67_1 ty_f67_2 ty_f67_3 ty_f67_4 ty_f67_5 ty_f67_6 ty_pl67 ty_z67 Try.underlying67 ty_ag68 ty_sz68 ty_int68 ty_ifc68 ty_bool68 ty_z68 Try.underlying68 ty_ag69 ty_sz69 ty_int69 ty_ifc69 ty_bool69 ty_z69 Try.underlying69 ty_ag70 ty_sz70 ty_int70 ty_ifc70 ty_bool70 ty_f70_0 ty_f70_1 ty_pl70 ty_z70 Try.underlying70 ty_ag71 ty_sz71 ty_int71 ty_ifc71 ty_bool71 ty_f71_0 ty_f71_1 ty_pl71 ty_z71 Try.underlying71 ty_ag73 ty_sz73 ty_int73 ty_ifc73 ty_bool73 ty_z73 Try.underlying73 ty_ag75 ty_sz75 ty_int75 ty_ifc75 ty_bool75 ty_z75 Try.underlying75 ty_ag76 ty_sz76 ty_int76 ty_ifc76 ty_bool76 ty_z76 Try.underlying76 ty_ag77 ty_sz77 ty_int77 ty_ifc77 ty_bool77 ty_z77 Try.underlying77 ty_ag78 ty_sz78 ty_int78 ty_ifc78 ty_bool78 ty_z78 Try.underlying78 ty_ag79 ty_sz79 ty_int79 ty_ifc79 ty_bool79 ty_z79 Try.underlying79 ty_ag80 ty_sz80 ty_int80 ty_ifc80 ty_bool80 ty_z80 Try.underlying80 ty_ag81 ty_sz81 ty_int81 ty_ifc81 ty_bool81 ty_f81_0 ty_pl81 ty_z81 Try.underlying81 ty_ag82 ty_sz82 ty_int82 ty_ifc82 ty_bool82 ty_f82_0 ty_pl82 ty_z82 Try.underlying82 ty_ag83 ty_sz83 ty_int83 ty_ifc83 ty_bool83 ty_z83 Try.underlying83 ty_ag84 ty_sz84 ty_int84 ty_ifc84 ty_m84_0 ty_k84_0 ty_bool84 ty_z84 Try.underlying84 ty_ag86 ty_sz86 ty_int86 ty_ifc86 ty_bool86 ty_z86 Try.underlying86 ty_ag87 ty_sz87 ty_int87 ty_ifc87 ty_bool87 ty_z87 Try.underlying87 ty_ag88 ty_sz88 ty_int88 ty_ifc88 ty_bool88 ty_z88 Try.underlying88 ty_ag89 ty_sz89 ty_int89 ty_ifc89 ty_bool89 ty_elem89 ty_app89 ty_z89 Try.underlying89 ty_ag90 ty_sz90 ty_int90 ty_ifc90 ty_bool90 ty_z90 Try.underlying90 ty_ag92 ty_sz92 ty_int92 ty_ifc92 ty_bool92 ty_z92 Try.underlying92 ty_ag93 ty_sz93 ty_int93 ty_ifc93 ty_bool93 ty_z93 Try.underlying93 ty_ag94 ty_sz94 ty_int94 ty_ifc94 ty_bool94 ty_z94 Try.underlying94 ty_ag95 ty_sz95 ty_int95 ty_ifc95 ty_bool95 ty_z95 Try.underlying95 ty_ag96 ty_sz96 ty_int96 ty_ifc96 ty_bool96 ty_z96 Try.underlying96 ty_ag97 ty_sz97 ty_int97 ty_ifc97 ty_bool97 ty_z97 Try.underlying97 ty_ag98 ty_sz98 ty_int98 ty_ifc98 ty_bool98 ty_z98 Try.underlying98 ty_ag99 ty_sz99 ty_int99 ty_ifc99 ty_bool99 ty_z99 Try.underlying99 ty_ag100 ty_sz100 ty_int100 ty_ifc100 ty_bool100 ty_z100 Try.underlying100 ty_ag101 ty_sz101 ty_int101 ty_ifc101 ty_bool101 ty_z101 Try.underlying101 ty_ag102 ty_sz102 ty_int102 ty_ifc102 ty_bool102 ty_z102 Try.underlying102 ty_ag103 ty_sz103 ty_int103 ty_ifc103 ty_bool103 ty_z103 ty_ag104 ty_sz104 ty_int104 ty_ifc104 ty_bool104 ty_z104 ty_ag105 ty_sz105 ty_int105 ty_ifc105 ty_bool105 ty_z105 ty_ag106 ty_sz106 ty_int106 ty_ifc106 ty_bool106 ty_z106 ty_ag107 ty_sz107 ty_int107 ty_ifc107 ty_bool107 ty_z107 Try.underlying107 ty_ag108 ty_sz108 ty_int108 ty_ifc108 ty_bool108 ty_z108 Try.underlying108 ty_ag109 ty_sz109 ty_int109 ty_ifc109 ty_bool109 ty_z109 Try.underlying109 ty_ag110 ty_sz110 ty_int110 ty_ifc110 ty_bool110 ty_f110_0 ty_f110_1 ty_f110_2 ty_pl110 ty_z110 Try.underlying110 ty_ag111 ty_sz111 ty_int111 ty_ifc111 ty_bool111 ty_f111_0 ty_f111_1 ty_f111_2 ty_pl111 ty_z111 Try.underlying111 ty_ag112 ty_sz112 ty_int112 ty_ifc112 ty_bool112 ty_z112 Try.underlying112 ty_ag113 ty_sz113 ty_int113 ty_ifc113 ty_bool113 ty_z113 Try.underlying113 ty_ag115 ty_sz115 ty_int115 ty_ifc115 ty_bool115 ty_z115 Try.underlying115 ty_ag116 ty_sz116 ty_int116 ty_ifc116 ty_bool116 ty_z116 Try.underlying116 ty_ag117 ty_sz117 ty_int117 ty_ifc117 ty_bool117 ty_z117 Try.underlying117 ty_ag118 ty_sz118 ty_int118 ty_ifc118 ty_bool118 ty_z118 Try.underlying118 ty_ag119 ty_sz119 ty_int119 ty_ifc119 ty_bool119 ty_z119 Try.underlying119 ty_ag120 ty_sz120 ty_int120 ty_ifc120 ty_bool120 ty_z120 Try.underlying120 ty_ag121 ty_sz121 ty_int121 ty_ifc121 ty_bool121 ty_z121 Try.underlying121 ty_ag122 ty_sz122 ty_int122 ty_ifc122 ty_bool122 ty_z122 Try.underlying122 ty_ag123 ty_sz123 ty_int123 ty_ifc123 ty_bool123 ty_z123 Try.underlying123 ty_ag124 ty_sz124 ty_int124 ty_ifc124 ty_bool124 ty_z124 Try.underlying124 ty_ag126 ty_sz126 ty_int126 ty_ifc126 ty_bool126 ty_z126 Try.underlying126 ty_ag127 ty_sz127 ty_int127 ty_ifc127 ty_bool127 ty_elem127 ty_app127 ty_z127 Try.underlying127 ty_ag128 ty_sz128 ty_int128 ty_ifc128 ty_bool128 ty_z128 Try.underlying128 ty_ag130 ty_sz130 ty_int130 ty_ifc130 ty_bool130 ty_z130 Try.underlying130 ty_ag131 ty_sz131 ty_int131 ty_ifc131 ty_bool131 ty_arr131 ty_pl131 ty_z131 ty_ag132 ty_sz132 ty_int132 ty_ifc132 ty_bool132 ty_z132 Try.underlying132 ty_ag133 ty_sz133 ty_int133 ty_ifc133 ty_bool133 ty_z133 Try.underlying133 ty_ag134 ty_sz134 ty_int134 ty_ifc134 ty_bool134 ty_elem134 ty_app134 ty_z134 Try.underlying134 ty_ag135 ty_sz135 ty_int135 ty_ifc135 ty_bool135 ty_z135 Try.underlying135 ty_ag136 ty_sz136 ty_int136 ty_ifc136 ty_bool136 ty_z136 Try.underlying136 ty_ag137 ty_sz137 ty_int137 ty_ifc137 ty_bool137 ty_z137 Try.underlying137 ty_ag138 ty_sz138 ty_int138 ty_ifc138 ty_bool138 ty_z138 Try.underlying138 ty_ag139 ty_sz139 ty_int139 ty_ifc139 ty_bool139 ty_z139 Try.underlying139 ty_ag140 ty_sz140 ty_int140 ty_ifc140 ty_bool140 ty_z140 Try.underlying140 ty_ag141 ty_sz141 ty_int141 ty_ifc141 ty_bool141 ty_f141_0 ty_f141_1 ty_f141_2 ty_pl141 ty_z141 Try.underlying141 ty_ag142 ty_sz142 ty_int142 ty_ifc142 ty_bool142 ty_f142_0 ty_f142_1 ty_f142_2 ty_pl142 ty_z142 Try.underlying142 ty_ag143 ty_sz143 ty_int143 ty_ifc143 ty_m143_0 ty_k143_0 ty_m143_1 ty_k143_1 ty_bool143 ty_z143 Try.underlying143 ty_ag144 ty_sz144 ty_int144 ty_ifc144 ty_bool144 ty_z144 Try.underlying144 ty_ag145 ty_sz145 ty_int145 ty_ifc145 ty_bool145 ty_z145 Try.underlying145 ty_ag146 ty_sz146 ty_int146 ty_ifc146 ty_bool146 ty_z146 Try.underlying146 ty_ag147 ty_sz147 ty_int147 ty_ifc147 ty_bool147 ty_z147 Try.underlying147 ty_ag148 ty_sz148 ty_int148 ty_ifc148 ty_bool148 ty_z148 Try.underlying148 ty_ag149 ty_sz149 ty_int149 ty_ifc149 ty_bool149 ty_z149 Try.underlying149 ty_ag150 ty_sz150 ty_int150 ty_ifc150 ty_bool150 ty_z150 Try.underlying150 ty_ag151 ty_sz151 ty_int151 ty_ifc151 ty_bool151 ty_z151 Try.underlying151 ty_ag152 ty_sz152 ty_int152 ty_ifc152 ty_bool152 ty_z152 Try.underlying152 ty_ag153 ty_sz153 ty_int153 ty_ifc153 ty_bool153 ty_arr153 ty_pl153 ty_z153 ty_ag154 ty_sz154 ty_int154 ty_ifc154 ty_bool154 ty_z154 Try.underlying154 ty_ag155 ty_sz155 ty_int155 ty_ifc155 ty_bool155 ty_z155 Try.underlying155 ty_ag156 ty_sz156 ty_int156 ty_ifc156 ty_bool156 ty_z156 Try.underlying156 ty_ag157 ty_sz157 ty_int157 ty_ifc157 ty_bool157 ty_z157 Try.underlying157 ty_ag158 ty_sz158 ty_int158 ty_ifc158 ty_bool158 ty_z158 Try.underlying158 ty_ag159 ty_sz159 ty_int159 ty_ifc159 ty_bool159 ty_f159_0 ty_f159_1 ty_f159_2 ty_f159_3 ty_pl159 ty_z159 Try.underlying159 ty_ag160 ty_sz160 ty_int160 ty_ifc160 ty_bool160 ty_f160_0 ty_f160_1 ty_f160_2 ty_f160_3 ty_pl160 ty_z160 Try.underlying160 ty_ag161 ty_sz161 ty_int161 ty_ifc161 ty_bool161 ty_arr161 ty_pl161 ty_z161 ty_ag162 ty_sz162 ty_int162 ty_ifc162 ty_bool162 ty_pl162 ty_z162 Try.underlying162 ty_ag163 ty_sz163 ty_int163 ty_ifc163 ty_bool163 ty_pl163 ty_z163 Try.underlying163 ty_ag164 ty_sz164 ty_int164 ty_ifc164 ty_bool164 ty_z164 Try.underlying164 ty_ag165 ty_sz165 ty_int165 ty_ifc165 ty_m165_0 ty_k165_0 ty_bool165 ty_z165 Try.underlying165 ty_ag166 ty_sz166 ty_int166 ty_ifc166 ty_bool166 ty_z166 Try.underlying166 ty_ag167 ty_sz167 ty_int167 ty_ifc167 ty_bool167 ty_z167 Try.underlying167 ty_ag168 ty_sz168 ty_int168 ty_ifc168 ty_bool168 ty_z168 Try.underlying168 ty_ag169 ty_sz169 ty_int169 ty_ifc169 ty_bool169 ty_z169 Try.underlying169 ty_ag170 ty_sz170 ty_int170 ty_ifc170 ty_bool170 ty_f170_0 ty_f170_1 ty_f170_2 ty_f170_3 ty_f170_4 ty_f170_5 ty_f170_6 ty_f170_7 ty_f170_8 ty_f170_9 ty_f170_10 ty_pl170 ty_z170 Try.underlying170 ty_ag171 ty_sz171 ty_int171 ty_ifc171 ty_bool171 ty_f171_0 ty_f171_1 ty_f171_2 ty_f171_3 ty_f171_4 ty_f171_5 ty_f171_6 ty_f171_7 ty_f171_8 ty_f171_9 ty_f171_10 ty_pl171 ty_z171 Try.underlying171 Try.params2 fok2 Try.func2 Try.params3 fok3 Try.func3 Try.params4 fok4 Try.func4 Try.params5 fok5 Try.func5 Try.params6 fok6 Try.func6 Try.params7 fok7 Try.func7 Try.params8 fok8 Try.func8 Try.params9 fok9 Try.func9 Try.params10 fok10 Try.func10 Try.params11 fok11 Try.func11 Try.params12 fok12 Try.func12 Try.params13 fok13 Try.func13 Try.params14 fok14 Try.func14 Try.params15 fok15 Try.func15 Try.params16 fok16 Try.func16 Try.params17 fok17 Try.func17 Try.params18 fok18 Try.func18 Try.params19 fok19 Try.func19 Try.params20 fok20 Try.func20 Try.params21 fok21 Try.func21 Try.params22 fok22 Try.func22 Try.params23 fok23 Try.func23 Try.params24 fok24 Try.func24 Try.params25 fok25 Try.func25 Try.params26 fok26 Try.func26 Try.params27 fok27 Try.func27 Try.params28 fok28 Try.func28 Try.params29 fok29 Try.func29 Try.params30 fok30 Try.func30 Try.params31 fok31 Try.func31 Try.params32 fok32 Try.func32 Try.params33 fok33 Try.func33 Try.params34 fok34 Try.func34 Try.params35 fok35 Try.func35 Try.params36 fok36 Try.func36 Try.params37 fok37 Try.func37 Try.params38 fok38 Try.func38 Try.params39 fok39 Try.func39 Try.params40 fok40 Try.func40 Try.params41 fok41 Try.func41 Try.params42 fok42 Try.func42 Try.params43 fok43 Try.func43 Try.params44 fok44 Try.func44 Try.params45 fok45 Try.func45 Try.params46 fok46 Try.func46 Try.params47 fok47 Try.func47 Try.params48 fok48 Try.func48 Try.params49 fok49 Try.func49 Try.params50 fok50 Try.func50 Try.params51 fok51 Try.func51 Try.params52 fok52 Try.func52 Try.params53 fok53 Try.func53 Try.params54 fok54 Try.func54 Try.params55 fok55 Try.func55 Try.params56 fok56 Try.func56 Try.params57 fok57 Try.func57 Try.params58 fok58 Try.func58 Try.params59 fok59 Try.func59 Try.params60 fok60 Try.func60 Try.params61 fok61 Try.func61 Try.params62 fok62 Try.func62 Try.params63 fok63 Try.func63 Try.params64 fok64 Try.func64 Try.params65 fok65 Try.func65 Try.params66 fok66 Try.func66 Try.params67 fok67 Try.func67 Try.params68 fok68 Try.func68 Try.params69 fok69 Try.func69 Try.params70 fok70 Try.func70 Try.params71 fok71 Try.func71 Try.params72 fok72 Try.func72 Try.params73 fok73 Try.func73 Try.params74 fok74 Try.func74 Try.params75 fok75 Try.func75 Try.params76 fok76 Try.func76 Try.params77 fok77 Try.func77 Try.params78 fok78 Try.func78 Try.params79 fok79 Try.func79 Try.params80 fok80 Try.func80 Try.params81 fok81 Try.func81 Try.params82 fok82 Try.func82 Try.params83 fok83 Try.func83 Try.params84 fok84 Try.func84 Try.params85 fok85 Try.func85 Try.params86 fok86 Try.func86 Try.params87 fok87 Try.func87 Try.params88 fok88 Try.func88 Try.params89 fok89 Try.func89 Try.params90 fok90 Try.func90 Try.params91 fok91 Try.func91 Try.params92 fok92 Try.func92 Try.params93 fok93 Try.func93 Try.params94 fok94 Try.func94 Try.params95 fok95 Try.func95 Try.params96 fok96 Try.func96 Try.params97 fok97 Try.func97 Try.params98 fok98 Try.func98 Try.params99 fok99 Try.func99 Try.params100 fok100 Try.func100 Try.params101 fok101 Try.func101 Try.params102 fok102 Try.func102 Try.params103 fok103 Try.func103 Try.params104 fok104 Try.func104 Try.params120 fok120 Try.func120

end Go.Proofs.Ytpdbekbobkjfgaa

