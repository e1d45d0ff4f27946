/-
  The types of this seat, as the abstract view asks for them.
  Conditions: none.
-/
import Derived.Test.YtpdbekbobkjfgaaDoorProg
import Derived.Test.YtpdbekbobkjfgaaDoorKC2
import Derived.KernelRfl
namespace Go.Proofs.YtpdbekbobkjfgaaDoor
set_option linter.unusedVariables false

theorem ty_ag1 : aggT Tryd.prog 1 = some false := by kernel_rfl
theorem ty_sz1 : szT Tryd.prog 1 = some 1 := by kernel_rfl
theorem ty_int1 : intT Tryd.prog 1 = none := by kernel_rfl
theorem ty_ifc1 : ifaceT Tryd.prog 1 = false := by kernel_rfl
theorem ty_bool1 : boolT Tryd.prog 1 = false := by kernel_rfl
theorem ty_z1 : zeroT Tryd.prog 1 = some [.nilFunc] := by kernel_rfl
theorem ty_ag2 : aggT Tryd.prog 2 = some false := by kernel_rfl
theorem ty_sz2 : szT Tryd.prog 2 = some 1 := by kernel_rfl
theorem ty_int2 : intT Tryd.prog 2 = some .i64 := by kernel_rfl
theorem ty_ifc2 : ifaceT Tryd.prog 2 = false := by kernel_rfl
theorem ty_bool2 : boolT Tryd.prog 2 = false := by kernel_rfl
theorem ty_z2 : zeroT Tryd.prog 2 = some [.int .i64 (0)] := by kernel_rfl
theorem ty_ag3 : aggT Tryd.prog 3 = some false := by kernel_rfl
theorem ty_sz3 : szT Tryd.prog 3 = some 1 := by kernel_rfl
theorem ty_int3 : intT Tryd.prog 3 = some .i64 := by kernel_rfl
theorem ty_ifc3 : ifaceT Tryd.prog 3 = false := by kernel_rfl
theorem ty_bool3 : boolT Tryd.prog 3 = false := by kernel_rfl
theorem ty_z3 : zeroT Tryd.prog 3 = some [.int .i64 (0)] := by kernel_rfl
theorem ty_ag4 : aggT Tryd.prog 4 = some false := by kernel_rfl
theorem ty_sz4 : szT Tryd.prog 4 = some 1 := by kernel_rfl
theorem ty_int4 : intT Tryd.prog 4 = none := by kernel_rfl
theorem ty_ifc4 : ifaceT Tryd.prog 4 = false := by kernel_rfl
theorem ty_bool4 : boolT Tryd.prog 4 = true := by kernel_rfl
theorem ty_z4 : zeroT Tryd.prog 4 = some [.bool false] := by kernel_rfl
theorem ty_ag5 : aggT Tryd.prog 5 = some false := by kernel_rfl
theorem ty_sz5 : szT Tryd.prog 5 = some 1 := by kernel_rfl
theorem ty_int5 : intT Tryd.prog 5 = some .u8 := by kernel_rfl
theorem ty_ifc5 : ifaceT Tryd.prog 5 = false := by kernel_rfl
theorem ty_bool5 : boolT Tryd.prog 5 = false := by kernel_rfl
theorem ty_z5 : zeroT Tryd.prog 5 = some [.int .u8 (0)] := by kernel_rfl
theorem ty_ag6 : aggT Tryd.prog 6 = some false := by kernel_rfl
theorem ty_sz6 : szT Tryd.prog 6 = some 1 := by kernel_rfl
theorem ty_int6 : intT Tryd.prog 6 = some .u8 := by kernel_rfl
theorem ty_ifc6 : ifaceT Tryd.prog 6 = false := by kernel_rfl
theorem ty_bool6 : boolT Tryd.prog 6 = false := by kernel_rfl
theorem ty_z6 : zeroT Tryd.prog 6 = some [.int .u8 (0)] := by kernel_rfl
theorem ty_ag7 : aggT Tryd.prog 7 = some true := by kernel_rfl
theorem ty_sz7 : szT Tryd.prog 7 = some 4 := by kernel_rfl
theorem ty_int7 : intT Tryd.prog 7 = none := by kernel_rfl
theorem ty_eq7 : eqT Tryd.prog 7 = some [true, true, false, true] := by kernel_rfl
theorem ty_ifc7 : ifaceT Tryd.prog 7 = false := by kernel_rfl
theorem ty_bool7 : boolT Tryd.prog 7 = false := by kernel_rfl
theorem ty_f7_0 : fieldT Tryd.prog 7 0 = some (0, 1, false) := by kernel_rfl
theorem ty_f7_1 : fieldT Tryd.prog 7 1 = some (1, 1, false) := by kernel_rfl
theorem ty_f7_2 : fieldT Tryd.prog 7 2 = some (2, 1, false) := by kernel_rfl
theorem ty_f7_3 : fieldT Tryd.prog 7 3 = some (3, 1, false) := by kernel_rfl
theorem ty_pl7 : placeT Tryd.prog 7 = some (fun i => #[(0, 1), (1, 1), (2, 1), (3, 1)][i]?) := by kernel_rfl
theorem ty_z7 : zeroT Tryd.prog 7 = some [.int .i64 (0), .int .i64 (0), .bool false, .int .u8 (0)] := by kernel_rfl
theorem ty_ag8 : aggT Tryd.prog 8 = some true := by kernel_rfl
theorem ty_sz8 : szT Tryd.prog 8 = some 4 := by kernel_rfl
theorem ty_int8 : intT Tryd.prog 8 = none := by kernel_rfl
theorem ty_eq8 : eqT Tryd.prog 8 = some [true, true, false, true] := by kernel_rfl
theorem ty_ifc8 : ifaceT Tryd.prog 8 = false := by kernel_rfl
theorem ty_m8_0 : methA Tryd.prog 8 "Error" = some 109 := by kernel_rfl
theorem ty_k8_0 : nilOk Tryd.prog 8 "Error" = true := by kernel_rfl
theorem ty_m8_1 : methA Tryd.prog 8 "RuntimeError" = some 110 := by kernel_rfl
theorem ty_k8_1 : nilOk Tryd.prog 8 "RuntimeError" = true := by kernel_rfl
theorem ty_bool8 : boolT Tryd.prog 8 = false := by kernel_rfl
theorem ty_f8_0 : fieldT Tryd.prog 8 0 = some (0, 1, false) := by kernel_rfl
theorem ty_f8_1 : fieldT Tryd.prog 8 1 = some (1, 1, false) := by kernel_rfl
theorem ty_f8_2 : fieldT Tryd.prog 8 2 = some (2, 1, false) := by kernel_rfl
theorem ty_f8_3 : fieldT Tryd.prog 8 3 = some (3, 1, false) := by kernel_rfl
theorem ty_pl8 : placeT Tryd.prog 8 = some (fun i => #[(0, 1), (1, 1), (2, 1), (3, 1)][i]?) := by kernel_rfl
theorem ty_z8 : zeroT Tryd.prog 8 = some [.int .i64 (0), .int .i64 (0), .bool false, .int .u8 (0)] := by kernel_rfl
theorem ty_ag9 : aggT Tryd.prog 9 = some false := by kernel_rfl
theorem ty_sz9 : szT Tryd.prog 9 = some 1 := by kernel_rfl
theorem ty_int9 : intT Tryd.prog 9 = none := by kernel_rfl
theorem ty_ifc9 : ifaceT Tryd.prog 9 = false := by kernel_rfl
theorem ty_bool9 : boolT Tryd.prog 9 = false := by kernel_rfl
theorem ty_z9 : zeroT Tryd.prog 9 = some [.string ⟨#[]⟩] := by kernel_rfl
theorem ty_ag10 : aggT Tryd.prog 10 = some false := by kernel_rfl
theorem ty_sz10 : szT Tryd.prog 10 = some 1 := by kernel_rfl
theorem ty_int10 : intT Tryd.prog 10 = none := by kernel_rfl
theorem ty_ifc10 : ifaceT Tryd.prog 10 = false := by kernel_rfl
theorem ty_m10_0 : methA Tryd.prog 10 "Error" = some 111 := by kernel_rfl
theorem ty_k10_0 : nilOk Tryd.prog 10 "Error" = true := by kernel_rfl
theorem ty_m10_1 : methA Tryd.prog 10 "RuntimeError" = some 112 := by kernel_rfl
theorem ty_k10_1 : nilOk Tryd.prog 10 "RuntimeError" = true := by kernel_rfl
theorem ty_bool10 : boolT Tryd.prog 10 = false := by kernel_rfl
theorem ty_z10 : zeroT Tryd.prog 10 = some [.string ⟨#[]⟩] := by kernel_rfl
theorem ty_ag11 : aggT Tryd.prog 11 = some false := by kernel_rfl
theorem ty_sz11 : szT Tryd.prog 11 = some 1 := by kernel_rfl
theorem ty_int11 : intT Tryd.prog 11 = none := by kernel_rfl
theorem ty_ifc11 : ifaceT Tryd.prog 11 = false := by kernel_rfl
theorem ty_m11_0 : methA Tryd.prog 11 "Error" = some 113 := by kernel_rfl
theorem ty_k11_0 : nilOk Tryd.prog 11 "Error" = true := by kernel_rfl
theorem ty_m11_1 : methA Tryd.prog 11 "RuntimeError" = some 114 := by kernel_rfl
theorem ty_k11_1 : nilOk Tryd.prog 11 "RuntimeError" = true := by kernel_rfl
theorem ty_bool11 : boolT Tryd.prog 11 = false := by kernel_rfl
theorem ty_z11 : zeroT Tryd.prog 11 = some [.string ⟨#[]⟩] := by kernel_rfl
theorem ty_ag12 : aggT Tryd.prog 12 = some false := by kernel_rfl
theorem ty_sz12 : szT Tryd.prog 12 = some 1 := by kernel_rfl
theorem ty_int12 : intT Tryd.prog 12 = some .u64 := by kernel_rfl
theorem ty_ifc12 : ifaceT Tryd.prog 12 = false := by kernel_rfl
theorem ty_bool12 : boolT Tryd.prog 12 = false := by kernel_rfl
theorem ty_z12 : zeroT Tryd.prog 12 = some [.int .u64 (0)] := by kernel_rfl
theorem ty_ag13 : aggT Tryd.prog 13 = some true := by kernel_rfl
theorem ty_sz13 : szT Tryd.prog 13 = some 2 := by kernel_rfl
theorem ty_int13 : intT Tryd.prog 13 = none := by kernel_rfl
theorem ty_ifc13 : ifaceT Tryd.prog 13 = false := by kernel_rfl
theorem ty_bool13 : boolT Tryd.prog 13 = false := by kernel_rfl
theorem ty_f13_0 : fieldT Tryd.prog 13 0 = some (0, 1, false) := by kernel_rfl
theorem ty_f13_1 : fieldT Tryd.prog 13 1 = some (1, 1, false) := by kernel_rfl
theorem ty_pl13 : placeT Tryd.prog 13 = some (fun i => #[(0, 1), (1, 1)][i]?) := by kernel_rfl
theorem ty_z13 : zeroT Tryd.prog 13 = some [.string ⟨#[]⟩, .int .u64 (0)] := by kernel_rfl
theorem ty_ag14 : aggT Tryd.prog 14 = some true := by kernel_rfl
theorem ty_sz14 : szT Tryd.prog 14 = some 2 := by kernel_rfl
theorem ty_int14 : intT Tryd.prog 14 = none := by kernel_rfl
theorem ty_ifc14 : ifaceT Tryd.prog 14 = false := by kernel_rfl
theorem ty_m14_0 : methA Tryd.prog 14 "Error" = some 115 := by kernel_rfl
theorem ty_k14_0 : nilOk Tryd.prog 14 "Error" = true := by kernel_rfl
theorem ty_m14_1 : methA Tryd.prog 14 "RuntimeError" = some 116 := by kernel_rfl
theorem ty_k14_1 : nilOk Tryd.prog 14 "RuntimeError" = true := by kernel_rfl
theorem ty_bool14 : boolT Tryd.prog 14 = false := by kernel_rfl
theorem ty_f14_0 : fieldT Tryd.prog 14 0 = some (0, 1, false) := by kernel_rfl
theorem ty_f14_1 : fieldT Tryd.prog 14 1 = some (1, 1, false) := by kernel_rfl
theorem ty_pl14 : placeT Tryd.prog 14 = some (fun i => #[(0, 1), (1, 1)][i]?) := by kernel_rfl
theorem ty_z14 : zeroT Tryd.prog 14 = some [.string ⟨#[]⟩, .int .u64 (0)] := by kernel_rfl
theorem ty_ag15 : aggT Tryd.prog 15 = some false := by kernel_rfl
theorem ty_sz15 : szT Tryd.prog 15 = some 1 := by kernel_rfl
theorem ty_int15 : intT Tryd.prog 15 = none := by kernel_rfl
theorem ty_ifc15 : ifaceT Tryd.prog 15 = false := by kernel_rfl
theorem ty_m15_0 : methA Tryd.prog 15 "Error" = some 117 := by kernel_rfl
theorem ty_k15_0 : nilOk Tryd.prog 15 "Error" = true := by kernel_rfl
theorem ty_m15_1 : methA Tryd.prog 15 "RuntimeError" = some 118 := by kernel_rfl
theorem ty_k15_1 : nilOk Tryd.prog 15 "RuntimeError" = true := by kernel_rfl
theorem ty_bool15 : boolT Tryd.prog 15 = false := by kernel_rfl
theorem ty_z15 : zeroT Tryd.prog 15 = some [.pointer none] := by kernel_rfl
theorem ty_ag16 : aggT Tryd.prog 16 = some false := by kernel_rfl
theorem ty_sz16 : szT Tryd.prog 16 = some 1 := by kernel_rfl
theorem ty_int16 : intT Tryd.prog 16 = none := by kernel_rfl
theorem ty_ifc16 : ifaceT Tryd.prog 16 = false := by kernel_rfl
theorem ty_m16_0 : methA Tryd.prog 16 "Error" = some 119 := by kernel_rfl
theorem ty_k16_0 : nilOk Tryd.prog 16 "Error" = true := by kernel_rfl
theorem ty_m16_1 : methA Tryd.prog 16 "RuntimeError" = some 120 := by kernel_rfl
theorem ty_k16_1 : nilOk Tryd.prog 16 "RuntimeError" = true := by kernel_rfl
theorem ty_bool16 : boolT Tryd.prog 16 = false := by kernel_rfl
theorem ty_z16 : zeroT Tryd.prog 16 = some [.pointer none] := by kernel_rfl
theorem ty_ag17 : aggT Tryd.prog 17 = some false := by kernel_rfl
theorem ty_sz17 : szT Tryd.prog 17 = some 1 := by kernel_rfl
theorem ty_int17 : intT Tryd.prog 17 = none := by kernel_rfl
theorem ty_ifc17 : ifaceT Tryd.prog 17 = false := by kernel_rfl
theorem ty_m17_0 : methA Tryd.prog 17 "Align" = some 121 := by kernel_rfl
theorem ty_k17_0 : nilOk Tryd.prog 17 "Align" = true := by kernel_rfl
theorem ty_bool17 : boolT Tryd.prog 17 = false := by kernel_rfl
theorem ty_z17 : zeroT Tryd.prog 17 = some [.pointer none] := by kernel_rfl
theorem ty_ag18 : aggT Tryd.prog 18 = some true := by kernel_rfl
theorem ty_sz18 : szT Tryd.prog 18 = some 1 := by kernel_rfl
theorem ty_int18 : intT Tryd.prog 18 = none := by kernel_rfl
theorem ty_ifc18 : ifaceT Tryd.prog 18 = false := by kernel_rfl
theorem ty_bool18 : boolT Tryd.prog 18 = false := by kernel_rfl
theorem ty_f18_0 : fieldT Tryd.prog 18 0 = some (0, 1, false) := by kernel_rfl
theorem ty_pl18 : placeT Tryd.prog 18 = some (fun i => #[(0, 1)][i]?) := by kernel_rfl
theorem ty_z18 : zeroT Tryd.prog 18 = some [.pointer none] := by kernel_rfl
theorem ty_ag19 : aggT Tryd.prog 19 = some true := by kernel_rfl
theorem ty_sz19 : szT Tryd.prog 19 = some 1 := by kernel_rfl
theorem ty_int19 : intT Tryd.prog 19 = none := by kernel_rfl
theorem ty_ifc19 : ifaceT Tryd.prog 19 = false := by kernel_rfl
theorem ty_m19_0 : methA Tryd.prog 19 "Error" = some 122 := by kernel_rfl
theorem ty_k19_0 : nilOk Tryd.prog 19 "Error" = true := by kernel_rfl
theorem ty_m19_1 : methA Tryd.prog 19 "RuntimeError" = some 123 := by kernel_rfl
theorem ty_k19_1 : nilOk Tryd.prog 19 "RuntimeError" = true := by kernel_rfl
theorem ty_bool19 : boolT Tryd.prog 19 = false := by kernel_rfl
theorem ty_f19_0 : fieldT Tryd.prog 19 0 = some (0, 1, false) := by kernel_rfl
theorem ty_pl19 : placeT Tryd.prog 19 = some (fun i => #[(0, 1)][i]?) := by kernel_rfl
theorem ty_z19 : zeroT Tryd.prog 19 = some [.pointer none] := by kernel_rfl
theorem ty_ag20 : aggT Tryd.prog 20 = some false := by kernel_rfl
theorem ty_sz20 : szT Tryd.prog 20 = some 1 := by kernel_rfl
theorem ty_int20 : intT Tryd.prog 20 = none := by kernel_rfl
theorem ty_ifc20 : ifaceT Tryd.prog 20 = true := by kernel_rfl
theorem ty_bool20 : boolT Tryd.prog 20 = false := by kernel_rfl
theorem ty_z20 : zeroT Tryd.prog 20 = some [.nilIface] := by kernel_rfl
theorem ty_ag21 : aggT Tryd.prog 21 = some false := by kernel_rfl
theorem ty_sz21 : szT Tryd.prog 21 = some 1 := by kernel_rfl
theorem ty_int21 : intT Tryd.prog 21 = some .i32 := by kernel_rfl
theorem ty_ifc21 : ifaceT Tryd.prog 21 = false := by kernel_rfl
theorem ty_bool21 : boolT Tryd.prog 21 = false := by kernel_rfl
theorem ty_z21 : zeroT Tryd.prog 21 = some [.int .i32 (0)] := by kernel_rfl
theorem ty_ag22 : aggT Tryd.prog 22 = some false := by kernel_rfl
theorem ty_sz22 : szT Tryd.prog 22 = some 1 := by kernel_rfl
theorem ty_int22 : intT Tryd.prog 22 = some .u8 := by kernel_rfl
theorem ty_ifc22 : ifaceT Tryd.prog 22 = false := by kernel_rfl
theorem ty_bool22 : boolT Tryd.prog 22 = false := by kernel_rfl
theorem ty_z22 : zeroT Tryd.prog 22 = some [.int .u8 (0)] := by kernel_rfl
theorem ty_ag23 : aggT Tryd.prog 23 = some false := by kernel_rfl
theorem ty_sz23 : szT Tryd.prog 23 = some 1 := by kernel_rfl
theorem ty_int23 : intT Tryd.prog 23 = some .u16 := by kernel_rfl
theorem ty_ifc23 : ifaceT Tryd.prog 23 = false := by kernel_rfl
theorem ty_bool23 : boolT Tryd.prog 23 = false := by kernel_rfl
theorem ty_z23 : zeroT Tryd.prog 23 = some [.int .u16 (0)] := by kernel_rfl
theorem ty_ag24 : aggT Tryd.prog 24 = some false := by kernel_rfl
theorem ty_sz24 : szT Tryd.prog 24 = some 1 := by kernel_rfl
theorem ty_int24 : intT Tryd.prog 24 = some .u8 := by kernel_rfl
theorem ty_ifc24 : ifaceT Tryd.prog 24 = false := by kernel_rfl
theorem ty_bool24 : boolT Tryd.prog 24 = false := by kernel_rfl
theorem ty_z24 : zeroT Tryd.prog 24 = some [.int .u8 (0)] := by kernel_rfl
theorem ty_ag25 : aggT Tryd.prog 25 = some true := by kernel_rfl
theorem ty_sz25 : szT Tryd.prog 25 = some 5 := by kernel_rfl
theorem ty_int25 : intT Tryd.prog 25 = none := by kernel_rfl
theorem ty_eq25 : eqT Tryd.prog 25 = some [true, true, false, false, true] := by kernel_rfl
theorem ty_ifc25 : ifaceT Tryd.prog 25 = false := by kernel_rfl
theorem ty_bool25 : boolT Tryd.prog 25 = false := by kernel_rfl
theorem ty_f25_0 : fieldT Tryd.prog 25 0 = some (0, 1, false) := by kernel_rfl
theorem ty_f25_1 : fieldT Tryd.prog 25 1 = some (1, 1, false) := by kernel_rfl
theorem ty_f25_2 : fieldT Tryd.prog 25 2 = some (2, 1, false) := by kernel_rfl
theorem ty_f25_3 : fieldT Tryd.prog 25 3 = some (3, 1, false) := by kernel_rfl
theorem ty_f25_4 : fieldT Tryd.prog 25 4 = some (4, 1, false) := by kernel_rfl
theorem ty_pl25 : placeT Tryd.prog 25 = some (fun i => #[(0, 1), (1, 1), (2, 1), (3, 1), (4, 1)][i]?) := by kernel_rfl
theorem ty_z25 : zeroT Tryd.prog 25 = some [.int .u8 (0), .int .u8 (0), .bool false, .bool false, .int .u8 (0)] := by kernel_rfl
theorem ty_ag26 : aggT Tryd.prog 26 = some true := by kernel_rfl
theorem ty_sz26 : szT Tryd.prog 26 = some 5 := by kernel_rfl
theorem ty_int26 : intT Tryd.prog 26 = none := by kernel_rfl
theorem ty_eq26 : eqT Tryd.prog 26 = some [true, true, false, false, true] := by kernel_rfl
theorem ty_ifc26 : ifaceT Tryd.prog 26 = false := by kernel_rfl
theorem ty_bool26 : boolT Tryd.prog 26 = false := by kernel_rfl
theorem ty_f26_0 : fieldT Tryd.prog 26 0 = some (0, 1, false) := by kernel_rfl
theorem ty_f26_1 : fieldT Tryd.prog 26 1 = some (1, 1, false) := by kernel_rfl
theorem ty_f26_2 : fieldT Tryd.prog 26 2 = some (2, 1, false) := by kernel_rfl
theorem ty_f26_3 : fieldT Tryd.prog 26 3 = some (3, 1, false) := by kernel_rfl
theorem ty_f26_4 : fieldT Tryd.prog 26 4 = some (4, 1, false) := by kernel_rfl
theorem ty_pl26 : placeT Tryd.prog 26 = some (fun i => #[(0, 1), (1, 1), (2, 1), (3, 1), (4, 1)][i]?) := by kernel_rfl
theorem ty_z26 : zeroT Tryd.prog 26 = some [.int .u8 (0), .int .u8 (0), .bool false, .bool false, .int .u8 (0)] := by kernel_rfl
theorem ty_ag27 : aggT Tryd.prog 27 = some false := by kernel_rfl
theorem ty_sz27 : szT Tryd.prog 27 = some 1 := by kernel_rfl
theorem ty_int27 : intT Tryd.prog 27 = none := by kernel_rfl
theorem ty_ifc27 : ifaceT Tryd.prog 27 = false := by kernel_rfl
theorem ty_bool27 : boolT Tryd.prog 27 = false := by kernel_rfl
theorem ty_elem27 : elemT Tryd.prog 27 = some (5, 1, false) := by kernel_rfl
theorem ty_app27 : appT Tryd.prog 27 = some (5, 1, 1) := by kernel_rfl
theorem ty_z27 : zeroT Tryd.prog 27 = some [.slice none 0 0] := by kernel_rfl
theorem ty_ag28 : aggT Tryd.prog 28 = some true := by kernel_rfl
theorem ty_sz28 : szT Tryd.prog 28 = some 10 := by kernel_rfl
theorem ty_int28 : intT Tryd.prog 28 = none := by kernel_rfl
theorem ty_ifc28 : ifaceT Tryd.prog 28 = false := by kernel_rfl
theorem ty_bool28 : boolT Tryd.prog 28 = false := by kernel_rfl
theorem ty_f28_0 : fieldT Tryd.prog 28 0 = some (0, 1, false) := by kernel_rfl
theorem ty_f28_1 : fieldT Tryd.prog 28 1 = some (1, 1, false) := by kernel_rfl
theorem ty_f28_2 : fieldT Tryd.prog 28 2 = some (2, 1, false) := by kernel_rfl
theorem ty_f28_3 : fieldT Tryd.prog 28 3 = some (3, 1, false) := by kernel_rfl
theorem ty_f28_4 : fieldT Tryd.prog 28 4 = some (4, 5, true) := by kernel_rfl
theorem ty_f28_5 : fieldT Tryd.prog 28 5 = some (9, 1, false) := by kernel_rfl
theorem ty_pl28 : placeT Tryd.prog 28 = some (fun i => #[(0, 1), (1, 1), (2, 1), (3, 1), (4, 5), (9, 1)][i]?) := by kernel_rfl
theorem ty_z28 : zeroT Tryd.prog 28 = some [.int .u8 (0), .int .u8 (0), .int .u8 (0), .int .u16 (0), .int .u8 (0), .int .u8 (0), .bool false, .bool false, .int .u8 (0), .slice none 0 0] := by kernel_rfl
theorem ty_ag29 : aggT Tryd.prog 29 = some true := by kernel_rfl
theorem ty_sz29 : szT Tryd.prog 29 = some 10 := by kernel_rfl
theorem ty_int29 : intT Tryd.prog 29 = none := by kernel_rfl
theorem ty_ifc29 : ifaceT Tryd.prog 29 = false := by kernel_rfl
theorem ty_bool29 : boolT Tryd.prog 29 = false := by kernel_rfl
theorem ty_f29_0 : fieldT Tryd.prog 29 0 = some (0, 1, false) := by kernel_rfl
theorem ty_f29_1 : fieldT Tryd.prog 29 1 = some (1, 1, false) := by kernel_rfl
theorem ty_f29_2 : fieldT Tryd.prog 29 2 = some (2, 1, false) := by kernel_rfl
theorem ty_f29_3 : fieldT Tryd.prog 29 3 = some (3, 1, false) := by kernel_rfl
theorem ty_f29_4 : fieldT Tryd.prog 29 4 = some (4, 5, true) := by kernel_rfl
theorem ty_f29_5 : fieldT Tryd.prog 29 5 = some (9, 1, false) := by kernel_rfl
theorem ty_pl29 : placeT Tryd.prog 29 = some (fun i => #[(0, 1), (1, 1), (2, 1), (3, 1), (4, 5), (9, 1)][i]?) := by kernel_rfl
theorem ty_z29 : zeroT Tryd.prog 29 = some [.int .u8 (0), .int .u8 (0), .int .u8 (0), .int .u16 (0), .int .u8 (0), .int .u8 (0), .bool false, .bool false, .int .u8 (0), .slice none 0 0] := by kernel_rfl
theorem ty_ag30 : aggT Tryd.prog 30 = some false := by kernel_rfl
theorem ty_sz30 : szT Tryd.prog 30 = some 1 := by kernel_rfl
theorem ty_int30 : intT Tryd.prog 30 = none := by kernel_rfl
theorem ty_ifc30 : ifaceT Tryd.prog 30 = false := by kernel_rfl
theorem ty_bool30 : boolT Tryd.prog 30 = false := by kernel_rfl
theorem ty_z30 : zeroT Tryd.prog 30 = some [.nilFunc] := by kernel_rfl
theorem ty_ag31 : aggT Tryd.prog 31 = some false := by kernel_rfl
theorem ty_sz31 : szT Tryd.prog 31 = some 1 := by kernel_rfl
theorem ty_int31 : intT Tryd.prog 31 = some .i64 := by kernel_rfl
theorem ty_ifc31 : ifaceT Tryd.prog 31 = false := by kernel_rfl
theorem ty_bool31 : boolT Tryd.prog 31 = false := by kernel_rfl
theorem ty_z31 : zeroT Tryd.prog 31 = some [.int .i64 (0)] := by kernel_rfl
theorem ty_ag33 : aggT Tryd.prog 33 = some false := by kernel_rfl
theorem ty_sz33 : szT Tryd.prog 33 = some 1 := by kernel_rfl
theorem ty_int33 : intT Tryd.prog 33 = none := by kernel_rfl
theorem ty_ifc33 : ifaceT Tryd.prog 33 = false := by kernel_rfl
theorem ty_bool33 : boolT Tryd.prog 33 = false := by kernel_rfl
theorem ty_z33 : zeroT Tryd.prog 33 = some [.nilFunc] := by kernel_rfl
theorem ty_ag34 : aggT Tryd.prog 34 = some false := by kernel_rfl
theorem ty_sz34 : szT Tryd.prog 34 = some 1 := by kernel_rfl
theorem ty_int34 : intT Tryd.prog 34 = none := by kernel_rfl
theorem ty_ifc34 : ifaceT Tryd.prog 34 = false := by kernel_rfl
theorem ty_bool34 : boolT Tryd.prog 34 = false := by kernel_rfl
theorem ty_z34 : zeroT Tryd.prog 34 = some [.nilFunc] := by kernel_rfl
theorem ty_ag35 : aggT Tryd.prog 35 = some false := by kernel_rfl
theorem ty_sz35 : szT Tryd.prog 35 = some 1 := by kernel_rfl
theorem ty_int35 : intT Tryd.prog 35 = none := by kernel_rfl
theorem ty_ifc35 : ifaceT Tryd.prog 35 = false := by kernel_rfl
theorem ty_bool35 : boolT Tryd.prog 35 = false := by kernel_rfl
theorem ty_z35 : zeroT Tryd.prog 35 = some [.nilFunc] := by kernel_rfl
theorem ty_ag36 : aggT Tryd.prog 36 = some false := by kernel_rfl
theorem ty_sz36 : szT Tryd.prog 36 = some 1 := by kernel_rfl
theorem ty_int36 : intT Tryd.prog 36 = none := by kernel_rfl
theorem ty_ifc36 : ifaceT Tryd.prog 36 = false := by kernel_rfl
theorem ty_bool36 : boolT Tryd.prog 36 = false := by kernel_rfl
theorem ty_z36 : zeroT Tryd.prog 36 = some [.nilFunc] := by kernel_rfl
theorem ty_ag37 : aggT Tryd.prog 37 = some false := by kernel_rfl
theorem ty_sz37 : szT Tryd.prog 37 = some 1 := by kernel_rfl
theorem ty_int37 : intT Tryd.prog 37 = none := by kernel_rfl
theorem ty_ifc37 : ifaceT Tryd.prog 37 = false := by kernel_rfl
theorem ty_bool37 : boolT Tryd.prog 37 = false := by kernel_rfl
theorem ty_z37 : zeroT Tryd.prog 37 = some [.nilFunc] := by kernel_rfl
theorem ty_ag38 : aggT Tryd.prog 38 = some false := by kernel_rfl
theorem ty_sz38 : szT Tryd.prog 38 = some 1 := by kernel_rfl
theorem ty_int38 : intT Tryd.prog 38 = none := by kernel_rfl
theorem ty_ifc38 : ifaceT Tryd.prog 38 = false := by kernel_rfl
theorem ty_bool38 : boolT Tryd.prog 38 = false := by kernel_rfl
theorem ty_z38 : zeroT Tryd.prog 38 = some [.nilFunc] := by kernel_rfl
theorem ty_ag39 : aggT Tryd.prog 39 = some true := by kernel_rfl
theorem ty_sz39 : szT Tryd.prog 39 = some 6 := by kernel_rfl
theorem ty_int39 : intT Tryd.prog 39 = none := by kernel_rfl
theorem ty_ifc39 : ifaceT Tryd.prog 39 = false := by kernel_rfl
theorem ty_bool39 : boolT Tryd.prog 39 = false := by kernel_rfl
theorem ty_f39_0 : fieldT Tryd.prog 39 0 = some (0, 1, false) := by kernel_rfl
theorem ty_f39_1 : fieldT Tryd.prog 39 1 = some (1, 1, false) := by kernel_rfl
theorem ty_f39_2 : fieldT Tryd.prog 39 2 = some (2, 1, false) := by kernel_rfl
theorem ty_f39_3 : fieldT Tryd.prog 39 3 = some (3, 1, false) := by kernel_rfl
theorem ty_f39_4 : fieldT Tryd.prog 39 4 = some (4, 1, false) := by kernel_rfl
theorem ty_f39_5 : fieldT Tryd.prog 39 5 = some (5, 1, false) := by kernel_rfl
theorem ty_pl39 : placeT Tryd.prog 39 = some (fun i => #[(0, 1), (1, 1), (2, 1), (3, 1), (4, 1), (5, 1)][i]?) := by kernel_rfl
theorem ty_z39 : zeroT Tryd.prog 39 = some [.int .u8 (0), .int .u8 (0), .int .u8 (0), .int .u16 (0), .int .u8 (0), .slice none 0 0] := by kernel_rfl
theorem ty_ag40 : aggT Tryd.prog 40 = some true := by kernel_rfl
theorem ty_sz40 : szT Tryd.prog 40 = some 6 := by kernel_rfl
theorem ty_int40 : intT Tryd.prog 40 = none := by kernel_rfl
theorem ty_ifc40 : ifaceT Tryd.prog 40 = false := by kernel_rfl
theorem ty_bool40 : boolT Tryd.prog 40 = false := by kernel_rfl
theorem ty_f40_0 : fieldT Tryd.prog 40 0 = some (0, 1, false) := by kernel_rfl
theorem ty_f40_1 : fieldT Tryd.prog 40 1 = some (1, 1, false) := by kernel_rfl
theorem ty_f40_2 : fieldT Tryd.prog 40 2 = some (2, 1, false) := by kernel_rfl
theorem ty_f40_3 : fieldT Tryd.prog 40 3 = some (3, 1, false) := by kernel_rfl
theorem ty_f40_4 : fieldT Tryd.prog 40 4 = some (4, 1, false) := by kernel_rfl
theorem ty_f40_5 : fieldT Tryd.prog 40 5 = some (5, 1, false) := by kernel_rfl
theorem ty_pl40 : placeT Tryd.prog 40 = some (fun i => #[(0, 1), (1, 1), (2, 1), (3, 1), (4, 1), (5, 1)][i]?) := by kernel_rfl
theorem ty_z40 : zeroT Tryd.prog 40 = some [.int .u8 (0), .int .u8 (0), .int .u8 (0), .int .u16 (0), .int .u8 (0), .slice none 0 0] := by kernel_rfl
theorem ty_ag41 : aggT Tryd.prog 41 = some false := by kernel_rfl
theorem ty_sz41 : szT Tryd.prog 41 = some 1 := by kernel_rfl
theorem ty_int41 : intT Tryd.prog 41 = none := by kernel_rfl
theorem ty_ifc41 : ifaceT Tryd.prog 41 = false := by kernel_rfl
theorem ty_bool41 : boolT Tryd.prog 41 = false := by kernel_rfl
theorem ty_z41 : zeroT Tryd.prog 41 = some [.nilFunc] := by kernel_rfl
theorem ty_ag43 : aggT Tryd.prog 43 = some false := by kernel_rfl
theorem ty_sz43 : szT Tryd.prog 43 = some 1 := by kernel_rfl
theorem ty_int43 : intT Tryd.prog 43 = none := by kernel_rfl
theorem ty_ifc43 : ifaceT Tryd.prog 43 = false := by kernel_rfl
theorem ty_bool43 : boolT Tryd.prog 43 = false := by kernel_rfl
theorem ty_z43 : zeroT Tryd.prog 43 = some [.nilFunc] := by kernel_rfl
theorem ty_ag44 : aggT Tryd.prog 44 = some false := by kernel_rfl
theorem ty_sz44 : szT Tryd.prog 44 = some 1 := by kernel_rfl
theorem ty_int44 : intT Tryd.prog 44 = none := by kernel_rfl
theorem ty_ifc44 : ifaceT Tryd.prog 44 = false := by kernel_rfl
theorem ty_bool44 : boolT Tryd.prog 44 = false := by kernel_rfl
theorem ty_z44 : zeroT Tryd.prog 44 = some [.nilFunc] := by kernel_rfl
theorem ty_ag45 : aggT Tryd.prog 45 = some false := by kernel_rfl
theorem ty_sz45 : szT Tryd.prog 45 = some 1 := by kernel_rfl
theorem ty_int45 : intT Tryd.prog 45 = none := by kernel_rfl
theorem ty_ifc45 : ifaceT Tryd.prog 45 = false := by kernel_rfl
theorem ty_bool45 : boolT Tryd.prog 45 = false := by kernel_rfl
theorem ty_z45 : zeroT Tryd.prog 45 = some [.nilFunc] := by kernel_rfl
theorem ty_ag46 : aggT Tryd.prog 46 = some false := by kernel_rfl
theorem ty_sz46 : szT Tryd.prog 46 = some 1 := by kernel_rfl
theorem ty_int46 : intT Tryd.prog 46 = none := by kernel_rfl
theorem ty_ifc46 : ifaceT Tryd.prog 46 = false := by kernel_rfl
theorem ty_bool46 : boolT Tryd.prog 46 = false := by kernel_rfl
theorem ty_z46 : zeroT Tryd.prog 46 = some [.nilFunc] := by kernel_rfl
theorem ty_ag47 : aggT Tryd.prog 47 = some false := by kernel_rfl
theorem ty_sz47 : szT Tryd.prog 47 = some 1 := by kernel_rfl
theorem ty_int47 : intT Tryd.prog 47 = none := by kernel_rfl
theorem ty_ifc47 : ifaceT Tryd.prog 47 = false := by kernel_rfl
theorem ty_bool47 : boolT Tryd.prog 47 = false := by kernel_rfl
theorem ty_z47 : zeroT Tryd.prog 47 = some [.nilFunc] := by kernel_rfl
theorem ty_ag48 : aggT Tryd.prog 48 = some false := by kernel_rfl
theorem ty_sz48 : szT Tryd.prog 48 = some 1 := by kernel_rfl
theorem ty_int48 : intT Tryd.prog 48 = none := by kernel_rfl
theorem ty_ifc48 : ifaceT Tryd.prog 48 = false := by kernel_rfl
theorem ty_bool48 : boolT Tryd.prog 48 = false := by kernel_rfl
theorem ty_z48 : zeroT Tryd.prog 48 = some [.nilFunc] := by kernel_rfl
theorem ty_ag49 : aggT Tryd.prog 49 = some false := by kernel_rfl
theorem ty_sz49 : szT Tryd.prog 49 = some 1 := by kernel_rfl
theorem ty_int49 : intT Tryd.prog 49 = none := by kernel_rfl
theorem ty_ifc49 : ifaceT Tryd.prog 49 = false := by kernel_rfl
theorem ty_bool49 : boolT Tryd.prog 49 = false := by kernel_rfl
theorem ty_z49 : zeroT Tryd.prog 49 = some [.nilFunc] := by kernel_rfl
theorem ty_ag50 : aggT Tryd.prog 50 = some false := by kernel_rfl
theorem ty_sz50 : szT Tryd.prog 50 = some 1 := by kernel_rfl
theorem ty_int50 : intT Tryd.prog 50 = none := by kernel_rfl
theorem ty_ifc50 : ifaceT Tryd.prog 50 = false := by kernel_rfl
theorem ty_bool50 : boolT Tryd.prog 50 = false := by kernel_rfl
theorem ty_elem50 : elemT Tryd.prog 50 = some (53, 1, false) := by kernel_rfl
theorem ty_app50 : appT Tryd.prog 50 = some (53, 1, 1) := by kernel_rfl
theorem ty_z50 : zeroT Tryd.prog 50 = some [.slice none 0 0] := by kernel_rfl
theorem ty_ag52 : aggT Tryd.prog 52 = some false := by kernel_rfl
theorem ty_sz52 : szT Tryd.prog 52 = some 1 := by kernel_rfl
theorem ty_int52 : intT Tryd.prog 52 = none := by kernel_rfl
theorem ty_ifc52 : ifaceT Tryd.prog 52 = false := by kernel_rfl
theorem ty_bool52 : boolT Tryd.prog 52 = false := by kernel_rfl
theorem ty_z52 : zeroT Tryd.prog 52 = some [.nilFunc] := by kernel_rfl
theorem ty_ag53 : aggT Tryd.prog 53 = some false := by kernel_rfl
theorem ty_sz53 : szT Tryd.prog 53 = some 1 := by kernel_rfl
theorem ty_int53 : intT Tryd.prog 53 = some .u8 := by kernel_rfl
theorem ty_ifc53 : ifaceT Tryd.prog 53 = false := by kernel_rfl
theorem ty_bool53 : boolT Tryd.prog 53 = false := by kernel_rfl
theorem ty_z53 : zeroT Tryd.prog 53 = some [.int .u8 (0)] := by kernel_rfl
theorem ty_ag54 : aggT Tryd.prog 54 = some false := by kernel_rfl
theorem ty_sz54 : szT Tryd.prog 54 = some 1 := by kernel_rfl
theorem ty_int54 : intT Tryd.prog 54 = none := by kernel_rfl
theorem ty_ifc54 : ifaceT Tryd.prog 54 = false := by kernel_rfl
theorem ty_bool54 : boolT Tryd.prog 54 = false := by kernel_rfl
theorem ty_z54 : zeroT Tryd.prog 54 = some [.nilFunc] := by kernel_rfl
theorem ty_ag55 : aggT Tryd.prog 55 = some false := by kernel_rfl
theorem ty_sz55 : szT Tryd.prog 55 = some 1 := by kernel_rfl
theorem ty_int55 : intT Tryd.prog 55 = none := by kernel_rfl
theorem ty_ifc55 : ifaceT Tryd.prog 55 = false := by kernel_rfl
theorem ty_bool55 : boolT Tryd.prog 55 = false := by kernel_rfl
theorem ty_z55 : zeroT Tryd.prog 55 = some [.nilFunc] := by kernel_rfl
theorem ty_ag56 : aggT Tryd.prog 56 = some false := by kernel_rfl
theorem ty_sz56 : szT Tryd.prog 56 = some 1 := by kernel_rfl
theorem ty_int56 : intT Tryd.prog 56 = none := by kernel_rfl
theorem ty_ifc56 : ifaceT Tryd.prog 56 = false := by kernel_rfl
theorem ty_bool56 : boolT Tryd.prog 56 = false := by kernel_rfl
theorem ty_z56 : zeroT Tryd.prog 56 = some [.nilFunc] := by kernel_rfl
theorem ty_ag57 : aggT Tryd.prog 57 = some false := by kernel_rfl
theorem ty_sz57 : szT Tryd.prog 57 = some 1 := by kernel_rfl
theorem ty_int57 : intT Tryd.prog 57 = some .u8 := by kernel_rfl
theorem ty_ifc57 : ifaceT Tryd.prog 57 = false := by kernel_rfl
theorem ty_bool57 : boolT Tryd.prog 57 = false := by kernel_rfl
theorem ty_z57 : zeroT Tryd.prog 57 = some [.int .u8 (0)] := by kernel_rfl
theorem ty_ag58 : aggT Tryd.prog 58 = some false := by kernel_rfl
theorem ty_sz58 : szT Tryd.prog 58 = some 1 := by kernel_rfl
theorem ty_int58 : intT Tryd.prog 58 = none := by kernel_rfl
theorem ty_ifc58 : ifaceT Tryd.prog 58 = false := by kernel_rfl
theorem ty_bool58 : boolT Tryd.prog 58 = false := by kernel_rfl
theorem ty_z58 : zeroT Tryd.prog 58 = some [.nilFunc] := by kernel_rfl
theorem ty_ag59 : aggT Tryd.prog 59 = some false := by kernel_rfl
theorem ty_sz59 : szT Tryd.prog 59 = some 1 := by kernel_rfl
theorem ty_int59 : intT Tryd.prog 59 = none := by kernel_rfl
theorem ty_ifc59 : ifaceT Tryd.prog 59 = false := by kernel_rfl
theorem ty_bool59 : boolT Tryd.prog 59 = false := by kernel_rfl
theorem ty_z59 : zeroT Tryd.prog 59 = some [.nilFunc] := by kernel_rfl
theorem ty_ag60 : aggT Tryd.prog 60 = some false := by kernel_rfl
theorem ty_sz60 : szT Tryd.prog 60 = some 1 := by kernel_rfl
theorem ty_int60 : intT Tryd.prog 60 = none := by kernel_rfl
theorem ty_ifc60 : ifaceT Tryd.prog 60 = false := by kernel_rfl
theorem ty_bool60 : boolT Tryd.prog 60 = false := by kernel_rfl
theorem ty_z60 : zeroT Tryd.prog 60 = some [.nilFunc] := by kernel_rfl
theorem ty_ag61 : aggT Tryd.prog 61 = some false := by kernel_rfl
theorem ty_sz61 : szT Tryd.prog 61 = some 1 := by kernel_rfl
theorem ty_int61 : intT Tryd.prog 61 = some .u32 := by kernel_rfl
theorem ty_ifc61 : ifaceT Tryd.prog 61 = false := by kernel_rfl
theorem ty_bool61 : boolT Tryd.prog 61 = false := by kernel_rfl
theorem ty_z61 : zeroT Tryd.prog 61 = some [.int .u32 (0)] := by kernel_rfl
theorem ty_ag63 : aggT Tryd.prog 63 = some false := by kernel_rfl
theorem ty_sz63 : szT Tryd.prog 63 = some 1 := by kernel_rfl
theorem ty_int63 : intT Tryd.prog 63 = none := by kernel_rfl
theorem ty_ifc63 : ifaceT Tryd.prog 63 = false := by kernel_rfl
theorem ty_bool63 : boolT Tryd.prog 63 = false := by kernel_rfl
theorem ty_z63 : zeroT Tryd.prog 63 = some [.nilFunc] := by kernel_rfl
theorem ty_ag64 : aggT Tryd.prog 64 = some false := by kernel_rfl
theorem ty_sz64 : szT Tryd.prog 64 = some 1 := by kernel_rfl
theorem ty_int64 : intT Tryd.prog 64 = none := by kernel_rfl
theorem ty_ifc64 : ifaceT Tryd.prog 64 = false := by kernel_rfl
theorem ty_bool64 : boolT Tryd.prog 64 = false := by kernel_rfl
theorem ty_elem64 : elemT Tryd.prog 64 = some (71, 3, true) := by kernel_rfl
theorem ty_app64 : appT Tryd.prog 64 = some (71, 3, 24) := by kernel_rfl
theorem ty_z64 : zeroT Tryd.prog 64 = some [.slice none 0 0] := by kernel_rfl
theorem ty_ag65 : aggT Tryd.prog 65 = some false := by kernel_rfl
theorem ty_sz65 : szT Tryd.prog 65 = some 1 := by kernel_rfl
theorem ty_int65 : intT Tryd.prog 65 = none := by kernel_rfl
theorem ty_ifc65 : ifaceT Tryd.prog 65 = false := by kernel_rfl
theorem ty_bool65 : boolT Tryd.prog 65 = false := by kernel_rfl
theorem ty_z65 : zeroT Tryd.prog 65 = some [.nilFunc] := by kernel_rfl
theorem ty_ag67 : aggT Tryd.prog 67 = some false := by kernel_rfl
theorem ty_sz67 : szT Tryd.prog 67 = some 1 := by kernel_rfl
theorem ty_int67 : intT Tryd.prog 67 = none := by kernel_rfl
theorem ty_ifc67 : ifaceT Tryd.prog 67 = false := by kernel_rfl
theorem ty_bool67 : boolT Tryd.prog 67 = false := by kernel_rfl
theorem ty_z67 : zeroT Tryd.prog 67 = some [.nilFunc] := by kernel_rfl
theorem ty_ag68 : aggT Tryd.prog 68 = some false := by kernel_rfl
theorem ty_sz68 : szT Tryd.prog 68 = some 1 := by kernel_rfl
theorem ty_int68 : intT Tryd.prog 68 = none := by kernel_rfl
theorem ty_ifc68 : ifaceT Tryd.prog 68 = false := by kernel_rfl
theorem ty_bool68 : boolT Tryd.prog 68 = false := by kernel_rfl
theorem ty_z68 : zeroT Tryd.prog 68 = some [.nilFunc] := by kernel_rfl
theorem ty_ag69 : aggT Tryd.prog 69 = some false := by kernel_rfl
theorem ty_sz69 : szT Tryd.prog 69 = some 1 := by kernel_rfl
theorem ty_int69 : intT Tryd.prog 69 = none := by kernel_rfl
theorem ty_ifc69 : ifaceT Tryd.prog 69 = false := by kernel_rfl
theorem ty_bool69 : boolT Tryd.prog 69 = false := by kernel_rfl
theorem ty_z69 : zeroT Tryd.prog 69 = some [.nilFunc] := by kernel_rfl
theorem ty_ag70 : aggT Tryd.prog 70 = some true := by kernel_rfl
theorem ty_sz70 : szT Tryd.prog 70 = some 3 := by kernel_rfl
theorem ty_int70 : intT Tryd.prog 70 = none := by kernel_rfl
theorem ty_ifc70 : ifaceT Tryd.prog 70 = false := by kernel_rfl
theorem ty_bool70 : boolT Tryd.prog 70 = false := by kernel_rfl
theorem ty_f70_0 : fieldT Tryd.prog 70 0 = some (0, 1, false) := by kernel_rfl
theorem ty_f70_1 : fieldT Tryd.prog 70 1 = some (1, 1, false) := by kernel_rfl
theorem ty_f70_2 : fieldT Tryd.prog 70 2 = some (2, 1, false) := by kernel_rfl
theorem ty_pl70 : placeT Tryd.prog 70 = some (fun i => #[(0, 1), (1, 1), (2, 1)][i]?) := by kernel_rfl
theorem ty_z70 : zeroT Tryd.prog 70 = some [.int .i64 (0), .nilFunc, .nilFunc] := by kernel_rfl
theorem ty_ag71 : aggT Tryd.prog 71 = some true := by kernel_rfl
theorem ty_sz71 : szT Tryd.prog 71 = some 3 := by kernel_rfl
theorem ty_int71 : intT Tryd.prog 71 = none := by kernel_rfl
theorem ty_ifc71 : ifaceT Tryd.prog 71 = false := by kernel_rfl
theorem ty_bool71 : boolT Tryd.prog 71 = false := by kernel_rfl
theorem ty_f71_0 : fieldT Tryd.prog 71 0 = some (0, 1, false) := by kernel_rfl
theorem ty_f71_1 : fieldT Tryd.prog 71 1 = some (1, 1, false) := by kernel_rfl
theorem ty_f71_2 : fieldT Tryd.prog 71 2 = some (2, 1, false) := by kernel_rfl
theorem ty_pl71 : placeT Tryd.prog 71 = some (fun i => #[(0, 1), (1, 1), (2, 1)][i]?) := by kernel_rfl
theorem ty_z71 : zeroT Tryd.prog 71 = some [.int .i64 (0), .nilFunc, .nilFunc] := by kernel_rfl
theorem ty_ag72 : aggT Tryd.prog 72 = some false := by kernel_rfl
theorem ty_sz72 : szT Tryd.prog 72 = some 1 := by kernel_rfl
theorem ty_int72 : intT Tryd.prog 72 = none := by kernel_rfl
theorem ty_ifc72 : ifaceT Tryd.prog 72 = false := by kernel_rfl
theorem ty_m72_0 : methA Tryd.prog 72 "plugboard/packets.from" = some 32 := by kernel_rfl
theorem ty_k72_0 : nilOk Tryd.prog 72 "plugboard/packets.from" = true := by kernel_rfl
theorem ty_m72_1 : methA Tryd.prog 72 "plugboard/packets.number" = some 29 := by kernel_rfl
theorem ty_k72_1 : nilOk Tryd.prog 72 "plugboard/packets.number" = true := by kernel_rfl
theorem ty_bool72 : boolT Tryd.prog 72 = false := by kernel_rfl
theorem ty_z72 : zeroT Tryd.prog 72 = some [.pointer none] := by kernel_rfl
theorem ty_ag73 : aggT Tryd.prog 73 = some false := by kernel_rfl
theorem ty_sz73 : szT Tryd.prog 73 = some 1 := by kernel_rfl
theorem ty_int73 : intT Tryd.prog 73 = none := by kernel_rfl
theorem ty_ifc73 : ifaceT Tryd.prog 73 = false := by kernel_rfl
theorem ty_bool73 : boolT Tryd.prog 73 = false := by kernel_rfl
theorem ty_z73 : zeroT Tryd.prog 73 = some [.nilFunc] := by kernel_rfl
theorem ty_ag74 : aggT Tryd.prog 74 = some true := by kernel_rfl
theorem ty_sz74 : szT Tryd.prog 74 = some 16 := by kernel_rfl
theorem ty_int74 : intT Tryd.prog 74 = none := by kernel_rfl
theorem ty_ifc74 : ifaceT Tryd.prog 74 = false := by kernel_rfl
theorem ty_bool74 : boolT Tryd.prog 74 = false := by kernel_rfl
theorem ty_arr74 : arrT Tryd.prog 74 = some (16, 9, 1, false) := by kernel_rfl
theorem ty_pl74 : placeT Tryd.prog 74 = some (fun i => some (i * 1, 1)) := by kernel_rfl
theorem ty_z74 : zeroT Tryd.prog 74 = some [.string ⟨#[]⟩, .string ⟨#[]⟩, .string ⟨#[]⟩, .string ⟨#[]⟩, .string ⟨#[]⟩, .string ⟨#[]⟩, .string ⟨#[]⟩, .string ⟨#[]⟩, .string ⟨#[]⟩, .string ⟨#[]⟩, .string ⟨#[]⟩, .string ⟨#[]⟩, .string ⟨#[]⟩, .string ⟨#[]⟩, .string ⟨#[]⟩, .string ⟨#[]⟩] := by kernel_rfl
theorem ty_ag75 : aggT Tryd.prog 75 = some true := by kernel_rfl
theorem ty_sz75 : szT Tryd.prog 75 = some 4 := by kernel_rfl
theorem ty_int75 : intT Tryd.prog 75 = none := by kernel_rfl
theorem ty_ifc75 : ifaceT Tryd.prog 75 = false := by kernel_rfl
theorem ty_bool75 : boolT Tryd.prog 75 = false := by kernel_rfl
theorem ty_arr75 : arrT Tryd.prog 75 = some (4, 9, 1, false) := by kernel_rfl
theorem ty_pl75 : placeT Tryd.prog 75 = some (fun i => some (i * 1, 1)) := by kernel_rfl
theorem ty_z75 : zeroT Tryd.prog 75 = some [.string ⟨#[]⟩, .string ⟨#[]⟩, .string ⟨#[]⟩, .string ⟨#[]⟩] := by kernel_rfl
theorem ty_ag76 : aggT Tryd.prog 76 = some false := by kernel_rfl
theorem ty_sz76 : szT Tryd.prog 76 = some 1 := by kernel_rfl
theorem ty_int76 : intT Tryd.prog 76 = none := by kernel_rfl
theorem ty_ifc76 : ifaceT Tryd.prog 76 = false := by kernel_rfl
theorem ty_bool76 : boolT Tryd.prog 76 = false := by kernel_rfl
theorem ty_z76 : zeroT Tryd.prog 76 = some [.nilFunc] := by kernel_rfl
theorem ty_ag77 : aggT Tryd.prog 77 = some false := by kernel_rfl
theorem ty_sz77 : szT Tryd.prog 77 = some 1 := by kernel_rfl
theorem ty_int77 : intT Tryd.prog 77 = none := by kernel_rfl
theorem ty_ifc77 : ifaceT Tryd.prog 77 = false := by kernel_rfl
theorem ty_bool77 : boolT Tryd.prog 77 = false := by kernel_rfl
theorem ty_z77 : zeroT Tryd.prog 77 = some [.nilFunc] := by kernel_rfl
theorem ty_ag78 : aggT Tryd.prog 78 = some false := by kernel_rfl
theorem ty_sz78 : szT Tryd.prog 78 = some 1 := by kernel_rfl
theorem ty_int78 : intT Tryd.prog 78 = none := by kernel_rfl
theorem ty_ifc78 : ifaceT Tryd.prog 78 = false := by kernel_rfl
theorem ty_bool78 : boolT Tryd.prog 78 = false := by kernel_rfl
theorem ty_z78 : zeroT Tryd.prog 78 = some [.nilFunc] := by kernel_rfl
theorem ty_ag79 : aggT Tryd.prog 79 = some false := by kernel_rfl
theorem ty_sz79 : szT Tryd.prog 79 = some 1 := by kernel_rfl
theorem ty_int79 : intT Tryd.prog 79 = some .u64 := by kernel_rfl
theorem ty_ifc79 : ifaceT Tryd.prog 79 = false := by kernel_rfl
theorem ty_bool79 : boolT Tryd.prog 79 = false := by kernel_rfl
theorem ty_z79 : zeroT Tryd.prog 79 = some [.int .u64 (0)] := by kernel_rfl
theorem ty_ag80 : aggT Tryd.prog 80 = some false := by kernel_rfl
theorem ty_sz80 : szT Tryd.prog 80 = some 1 := by kernel_rfl
theorem ty_int80 : intT Tryd.prog 80 = none := by kernel_rfl
theorem ty_ifc80 : ifaceT Tryd.prog 80 = false := by kernel_rfl
theorem ty_bool80 : boolT Tryd.prog 80 = false := by kernel_rfl
theorem ty_z80 : zeroT Tryd.prog 80 = some [.nilFunc] := by kernel_rfl
theorem ty_ag81 : aggT Tryd.prog 81 = some false := by kernel_rfl
theorem ty_sz81 : szT Tryd.prog 81 = some 1 := by kernel_rfl
theorem ty_int81 : intT Tryd.prog 81 = none := by kernel_rfl
theorem ty_ifc81 : ifaceT Tryd.prog 81 = false := by kernel_rfl
theorem ty_bool81 : boolT Tryd.prog 81 = false := by kernel_rfl
theorem ty_z81 : zeroT Tryd.prog 81 = some [.nilFunc] := by kernel_rfl
theorem ty_ag82 : aggT Tryd.prog 82 = some false := by kernel_rfl
theorem ty_sz82 : szT Tryd.prog 82 = some 1 := by kernel_rfl
theorem ty_int82 : intT Tryd.prog 82 = none := by kernel_rfl
theorem ty_ifc82 : ifaceT Tryd.prog 82 = false := by kernel_rfl
theorem ty_bool82 : boolT Tryd.prog 82 = false := by kernel_rfl
theorem ty_z82 : zeroT Tryd.prog 82 = some [.nilFunc] := by kernel_rfl
theorem ty_ag83 : aggT Tryd.prog 83 = some false := by kernel_rfl
theorem ty_sz83 : szT Tryd.prog 83 = some 1 := by kernel_rfl
theorem ty_int83 : intT Tryd.prog 83 = none := by kernel_rfl
theorem ty_ifc83 : ifaceT Tryd.prog 83 = false := by kernel_rfl
theorem ty_bool83 : boolT Tryd.prog 83 = false := by kernel_rfl
theorem ty_elem83 : elemT Tryd.prog 83 = some (22, 1, false) := by kernel_rfl
theorem ty_app83 : appT Tryd.prog 83 = some (22, 1, 1) := by kernel_rfl
theorem ty_z83 : zeroT Tryd.prog 83 = some [.slice none 0 0] := by kernel_rfl
theorem ty_ag84 : aggT Tryd.prog 84 = some false := by kernel_rfl
theorem ty_sz84 : szT Tryd.prog 84 = some 1 := by kernel_rfl
theorem ty_int84 : intT Tryd.prog 84 = some .u64 := by kernel_rfl
theorem ty_ifc84 : ifaceT Tryd.prog 84 = false := by kernel_rfl
theorem ty_bool84 : boolT Tryd.prog 84 = false := by kernel_rfl
theorem ty_z84 : zeroT Tryd.prog 84 = some [.int .u64 (0)] := by kernel_rfl
theorem ty_ag85 : aggT Tryd.prog 85 = some true := by kernel_rfl
theorem ty_sz85 : szT Tryd.prog 85 = some 11 := by kernel_rfl
theorem ty_int85 : intT Tryd.prog 85 = none := by kernel_rfl
theorem ty_ifc85 : ifaceT Tryd.prog 85 = false := by kernel_rfl
theorem ty_bool85 : boolT Tryd.prog 85 = false := by kernel_rfl
theorem ty_f85_0 : fieldT Tryd.prog 85 0 = some (0, 10, true) := by kernel_rfl
theorem ty_f85_1 : fieldT Tryd.prog 85 1 = some (10, 1, false) := by kernel_rfl
theorem ty_pl85 : placeT Tryd.prog 85 = some (fun i => #[(0, 10), (10, 1)][i]?) := by kernel_rfl
theorem ty_z85 : zeroT Tryd.prog 85 = some [.int .u8 (0), .int .u8 (0), .int .u8 (0), .int .u16 (0), .int .u8 (0), .int .u8 (0), .bool false, .bool false, .int .u8 (0), .slice none 0 0, .slice none 0 0] := by kernel_rfl
theorem ty_ag86 : aggT Tryd.prog 86 = some true := by kernel_rfl
theorem ty_sz86 : szT Tryd.prog 86 = some 11 := by kernel_rfl
theorem ty_int86 : intT Tryd.prog 86 = none := by kernel_rfl
theorem ty_ifc86 : ifaceT Tryd.prog 86 = false := by kernel_rfl
theorem ty_bool86 : boolT Tryd.prog 86 = false := by kernel_rfl
theorem ty_f86_0 : fieldT Tryd.prog 86 0 = some (0, 10, true) := by kernel_rfl
theorem ty_f86_1 : fieldT Tryd.prog 86 1 = some (10, 1, false) := by kernel_rfl
theorem ty_pl86 : placeT Tryd.prog 86 = some (fun i => #[(0, 10), (10, 1)][i]?) := by kernel_rfl
theorem ty_z86 : zeroT Tryd.prog 86 = some [.int .u8 (0), .int .u8 (0), .int .u8 (0), .int .u16 (0), .int .u8 (0), .int .u8 (0), .bool false, .bool false, .int .u8 (0), .slice none 0 0, .slice none 0 0] := by kernel_rfl
theorem ty_ag87 : aggT Tryd.prog 87 = some false := by kernel_rfl
theorem ty_sz87 : szT Tryd.prog 87 = some 1 := by kernel_rfl
theorem ty_int87 : intT Tryd.prog 87 = none := by kernel_rfl
theorem ty_ifc87 : ifaceT Tryd.prog 87 = false := by kernel_rfl
theorem ty_bool87 : boolT Tryd.prog 87 = false := by kernel_rfl
theorem ty_z87 : zeroT Tryd.prog 87 = some [.nilFunc] := by kernel_rfl
theorem ty_ag88 : aggT Tryd.prog 88 = some false := by kernel_rfl
theorem ty_sz88 : szT Tryd.prog 88 = some 1 := by kernel_rfl
theorem ty_int88 : intT Tryd.prog 88 = none := by kernel_rfl
theorem ty_ifc88 : ifaceT Tryd.prog 88 = false := by kernel_rfl
theorem ty_bool88 : boolT Tryd.prog 88 = false := by kernel_rfl
theorem ty_z88 : zeroT Tryd.prog 88 = some [.nilFunc] := by kernel_rfl
theorem ty_ag89 : aggT Tryd.prog 89 = some false := by kernel_rfl
theorem ty_sz89 : szT Tryd.prog 89 = some 1 := by kernel_rfl
theorem ty_int89 : intT Tryd.prog 89 = none := by kernel_rfl
theorem ty_ifc89 : ifaceT Tryd.prog 89 = false := by kernel_rfl
theorem ty_bool89 : boolT Tryd.prog 89 = false := by kernel_rfl
theorem ty_z89 : zeroT Tryd.prog 89 = some [.nilFunc] := by kernel_rfl
theorem ty_ag90 : aggT Tryd.prog 90 = some false := by kernel_rfl
theorem ty_sz90 : szT Tryd.prog 90 = some 1 := by kernel_rfl
theorem ty_int90 : intT Tryd.prog 90 = none := by kernel_rfl
theorem ty_ifc90 : ifaceT Tryd.prog 90 = false := by kernel_rfl
theorem ty_bool90 : boolT Tryd.prog 90 = false := by kernel_rfl
theorem ty_z90 : zeroT Tryd.prog 90 = some [.nilFunc] := by kernel_rfl
theorem ty_ag91 : aggT Tryd.prog 91 = some false := by kernel_rfl
theorem ty_sz91 : szT Tryd.prog 91 = some 1 := by kernel_rfl
theorem ty_int91 : intT Tryd.prog 91 = none := by kernel_rfl
theorem ty_ifc91 : ifaceT Tryd.prog 91 = false := by kernel_rfl
theorem ty_bool91 : boolT Tryd.prog 91 = false := by kernel_rfl
theorem ty_z91 : zeroT Tryd.prog 91 = some [.nilFunc] := by kernel_rfl
theorem ty_ag92 : aggT Tryd.prog 92 = some false := by kernel_rfl
theorem ty_sz92 : szT Tryd.prog 92 = some 1 := by kernel_rfl
theorem ty_int92 : intT Tryd.prog 92 = none := by kernel_rfl
theorem ty_ifc92 : ifaceT Tryd.prog 92 = false := by kernel_rfl
theorem ty_bool92 : boolT Tryd.prog 92 = false := by kernel_rfl
theorem ty_elem92 : elemT Tryd.prog 92 = some (9, 1, false) := by kernel_rfl
theorem ty_app92 : appT Tryd.prog 92 = some (9, 1, 16) := by kernel_rfl
theorem ty_z92 : zeroT Tryd.prog 92 = some [.slice none 0 0] := by kernel_rfl
theorem ty_ag93 : aggT Tryd.prog 93 = some false := by kernel_rfl
theorem ty_sz93 : szT Tryd.prog 93 = some 1 := by kernel_rfl
theorem ty_int93 : intT Tryd.prog 93 = none := by kernel_rfl
theorem ty_ifc93 : ifaceT Tryd.prog 93 = false := by kernel_rfl
theorem ty_bool93 : boolT Tryd.prog 93 = false := by kernel_rfl
theorem ty_z93 : zeroT Tryd.prog 93 = some [.nilFunc] := by kernel_rfl
theorem ty_ag94 : aggT Tryd.prog 94 = some false := by kernel_rfl
theorem ty_sz94 : szT Tryd.prog 94 = some 1 := by kernel_rfl
theorem ty_int94 : intT Tryd.prog 94 = none := by kernel_rfl
theorem ty_ifc94 : ifaceT Tryd.prog 94 = false := by kernel_rfl
theorem ty_bool94 : boolT Tryd.prog 94 = false := by kernel_rfl
theorem ty_z94 : zeroT Tryd.prog 94 = some [.nilFunc] := by kernel_rfl
theorem ty_ag95 : aggT Tryd.prog 95 = some false := by kernel_rfl
theorem ty_sz95 : szT Tryd.prog 95 = some 1 := by kernel_rfl
theorem ty_int95 : intT Tryd.prog 95 = none := by kernel_rfl
theorem ty_ifc95 : ifaceT Tryd.prog 95 = false := by kernel_rfl
theorem ty_bool95 : boolT Tryd.prog 95 = false := by kernel_rfl
theorem ty_z95 : zeroT Tryd.prog 95 = some [.nilFunc] := by kernel_rfl
theorem ty_ag96 : aggT Tryd.prog 96 = some false := by kernel_rfl
theorem ty_sz96 : szT Tryd.prog 96 = some 1 := by kernel_rfl
theorem ty_int96 : intT Tryd.prog 96 = none := by kernel_rfl
theorem ty_ifc96 : ifaceT Tryd.prog 96 = false := by kernel_rfl
theorem ty_bool96 : boolT Tryd.prog 96 = false := by kernel_rfl
theorem ty_z96 : zeroT Tryd.prog 96 = some [.nilFunc] := by kernel_rfl
theorem ty_ag97 : aggT Tryd.prog 97 = some false := by kernel_rfl
theorem ty_sz97 : szT Tryd.prog 97 = some 1 := by kernel_rfl
theorem ty_int97 : intT Tryd.prog 97 = none := by kernel_rfl
theorem ty_ifc97 : ifaceT Tryd.prog 97 = false := by kernel_rfl
theorem ty_bool97 : boolT Tryd.prog 97 = false := by kernel_rfl
theorem ty_z97 : zeroT Tryd.prog 97 = some [.nilFunc] := by kernel_rfl
theorem ty_ag98 : aggT Tryd.prog 98 = some false := by kernel_rfl
theorem ty_sz98 : szT Tryd.prog 98 = some 1 := by kernel_rfl
theorem ty_int98 : intT Tryd.prog 98 = none := by kernel_rfl
theorem ty_ifc98 : ifaceT Tryd.prog 98 = false := by kernel_rfl
theorem ty_bool98 : boolT Tryd.prog 98 = false := by kernel_rfl
theorem ty_z98 : zeroT Tryd.prog 98 = some [.nilFunc] := by kernel_rfl
theorem ty_ag99 : aggT Tryd.prog 99 = some false := by kernel_rfl
theorem ty_sz99 : szT Tryd.prog 99 = some 1 := by kernel_rfl
theorem ty_int99 : intT Tryd.prog 99 = none := by kernel_rfl
theorem ty_ifc99 : ifaceT Tryd.prog 99 = false := by kernel_rfl
theorem ty_bool99 : boolT Tryd.prog 99 = false := by kernel_rfl
theorem ty_z99 : zeroT Tryd.prog 99 = some [.nilFunc] := by kernel_rfl
theorem ty_ag100 : aggT Tryd.prog 100 = some false := by kernel_rfl
theorem ty_sz100 : szT Tryd.prog 100 = some 1 := by kernel_rfl
theorem ty_int100 : intT Tryd.prog 100 = none := by kernel_rfl
theorem ty_ifc100 : ifaceT Tryd.prog 100 = false := by kernel_rfl
theorem ty_bool100 : boolT Tryd.prog 100 = false := by kernel_rfl
theorem ty_z100 : zeroT Tryd.prog 100 = some [.nilFunc] := by kernel_rfl
theorem ty_ag101 : aggT Tryd.prog 101 = some false := by kernel_rfl
theorem ty_sz101 : szT Tryd.prog 101 = some 1 := by kernel_rfl
theorem ty_int101 : intT Tryd.prog 101 = none := by kernel_rfl
theorem ty_ifc101 : ifaceT Tryd.prog 101 = false := by kernel_rfl
theorem ty_bool101 : boolT Tryd.prog 101 = false := by kernel_rfl
theorem ty_z101 : zeroT Tryd.prog 101 = some [.nilFunc] := by kernel_rfl
theorem ty_ag102 : aggT Tryd.prog 102 = some false := by kernel_rfl
theorem ty_sz102 : szT Tryd.prog 102 = some 1 := by kernel_rfl
theorem ty_int102 : intT Tryd.prog 102 = none := by kernel_rfl
theorem ty_ifc102 : ifaceT Tryd.prog 102 = false := by kernel_rfl
theorem ty_m102_0 : methA Tryd.prog 102 "plugboard/packets.data" = some 42 := by kernel_rfl
theorem ty_k102_0 : nilOk Tryd.prog 102 "plugboard/packets.data" = true := by kernel_rfl
theorem ty_m102_1 : methA Tryd.prog 102 "plugboard/packets.fields" = some 43 := by kernel_rfl
theorem ty_k102_1 : nilOk Tryd.prog 102 "plugboard/packets.fields" = true := by kernel_rfl
theorem ty_bool102 : boolT Tryd.prog 102 = false := by kernel_rfl
theorem ty_z102 : zeroT Tryd.prog 102 = some [.pointer none] := by kernel_rfl
theorem ty_ag103 : aggT Tryd.prog 103 = some false := by kernel_rfl
theorem ty_sz103 : szT Tryd.prog 103 = some 1 := by kernel_rfl
theorem ty_int103 : intT Tryd.prog 103 = none := by kernel_rfl
theorem ty_ifc103 : ifaceT Tryd.prog 103 = false := by kernel_rfl
theorem ty_bool103 : boolT Tryd.prog 103 = false := by kernel_rfl
theorem ty_z103 : zeroT Tryd.prog 103 = some [.nilFunc] := by kernel_rfl
theorem ty_ag104 : aggT Tryd.prog 104 = some true := by kernel_rfl
theorem ty_sz104 : szT Tryd.prog 104 = some 8 := by kernel_rfl
theorem ty_int104 : intT Tryd.prog 104 = none := by kernel_rfl
theorem ty_ifc104 : ifaceT Tryd.prog 104 = false := by kernel_rfl
theorem ty_bool104 : boolT Tryd.prog 104 = false := by kernel_rfl
theorem ty_arr104 : arrT Tryd.prog 104 = some (8, 5, 1, false) := by kernel_rfl
theorem ty_pl104 : placeT Tryd.prog 104 = some (fun i => some (i * 1, 1)) := by kernel_rfl
theorem ty_z104 : zeroT Tryd.prog 104 = some [.int .u8 (0), .int .u8 (0), .int .u8 (0), .int .u8 (0), .int .u8 (0), .int .u8 (0), .int .u8 (0), .int .u8 (0)] := by kernel_rfl
theorem ty_ag105 : aggT Tryd.prog 105 = some false := by kernel_rfl
theorem ty_sz105 : szT Tryd.prog 105 = some 1 := by kernel_rfl
theorem ty_int105 : intT Tryd.prog 105 = none := by kernel_rfl
theorem ty_ifc105 : ifaceT Tryd.prog 105 = false := by kernel_rfl
theorem ty_bool105 : boolT Tryd.prog 105 = false := by kernel_rfl
theorem ty_z105 : zeroT Tryd.prog 105 = some [.nilFunc] := by kernel_rfl
theorem ty_ag106 : aggT Tryd.prog 106 = some false := by kernel_rfl
theorem ty_sz106 : szT Tryd.prog 106 = some 1 := by kernel_rfl
theorem ty_int106 : intT Tryd.prog 106 = none := by kernel_rfl
theorem ty_ifc106 : ifaceT Tryd.prog 106 = false := by kernel_rfl
theorem ty_bool106 : boolT Tryd.prog 106 = false := by kernel_rfl
theorem ty_z106 : zeroT Tryd.prog 106 = some [.nilFunc] := by kernel_rfl
theorem ty_ag107 : aggT Tryd.prog 107 = some true := by kernel_rfl
theorem ty_sz107 : szT Tryd.prog 107 = some 16 := by kernel_rfl
theorem ty_int107 : intT Tryd.prog 107 = none := by kernel_rfl
theorem ty_ifc107 : ifaceT Tryd.prog 107 = false := by kernel_rfl
theorem ty_bool107 : boolT Tryd.prog 107 = false := by kernel_rfl
theorem ty_arr107 : arrT Tryd.prog 107 = some (16, 23, 1, false) := by kernel_rfl
theorem ty_pl107 : placeT Tryd.prog 107 = some (fun i => some (i * 1, 1)) := by kernel_rfl
theorem ty_z107 : zeroT Tryd.prog 107 = some [.int .u16 (0), .int .u16 (0), .int .u16 (0), .int .u16 (0), .int .u16 (0), .int .u16 (0), .int .u16 (0), .int .u16 (0), .int .u16 (0), .int .u16 (0), .int .u16 (0), .int .u16 (0), .int .u16 (0), .int .u16 (0), .int .u16 (0), .int .u16 (0)] := by kernel_rfl
theorem ty_ag108 : aggT Tryd.prog 108 = some false := by kernel_rfl
theorem ty_sz108 : szT Tryd.prog 108 = some 1 := by kernel_rfl
theorem ty_int108 : intT Tryd.prog 108 = none := by kernel_rfl
theorem ty_ifc108 : ifaceT Tryd.prog 108 = false := by kernel_rfl
theorem ty_bool108 : boolT Tryd.prog 108 = false := by kernel_rfl
theorem ty_z108 : zeroT Tryd.prog 108 = some [.nilFunc] := by kernel_rfl
theorem ty_ag109 : aggT Tryd.prog 109 = some false := by kernel_rfl
theorem ty_sz109 : szT Tryd.prog 109 = some 1 := by kernel_rfl
theorem ty_int109 : intT Tryd.prog 109 = none := by kernel_rfl
theorem ty_ifc109 : ifaceT Tryd.prog 109 = false := by kernel_rfl
theorem ty_bool109 : boolT Tryd.prog 109 = false := by kernel_rfl
theorem ty_z109 : zeroT Tryd.prog 109 = some [.nilFunc] := by kernel_rfl
theorem ty_ag110 : aggT Tryd.prog 110 = some false := by kernel_rfl
theorem ty_sz110 : szT Tryd.prog 110 = some 1 := by kernel_rfl
theorem ty_int110 : intT Tryd.prog 110 = none := by kernel_rfl
theorem ty_ifc110 : ifaceT Tryd.prog 110 = false := by kernel_rfl
theorem ty_bool110 : boolT Tryd.prog 110 = false := by kernel_rfl
theorem ty_z110 : zeroT Tryd.prog 110 = some [.nilFunc] := by kernel_rfl
theorem ty_ag111 : aggT Tryd.prog 111 = some false := by kernel_rfl
theorem ty_sz111 : szT Tryd.prog 111 = some 1 := by kernel_rfl
theorem ty_int111 : intT Tryd.prog 111 = none := by kernel_rfl
theorem ty_ifc111 : ifaceT Tryd.prog 111 = false := by kernel_rfl
theorem ty_bool111 : boolT Tryd.prog 111 = false := by kernel_rfl
theorem ty_z111 : zeroT Tryd.prog 111 = some [.nilFunc] := by kernel_rfl
theorem ty_ag112 : aggT Tryd.prog 112 = some false := by kernel_rfl
theorem ty_sz112 : szT Tryd.prog 112 = some 1 := by kernel_rfl
theorem ty_int112 : intT Tryd.prog 112 = none := by kernel_rfl
theorem ty_ifc112 : ifaceT Tryd.prog 112 = false := by kernel_rfl
theorem ty_bool112 : boolT Tryd.prog 112 = false := by kernel_rfl
theorem ty_z112 : zeroT Tryd.prog 112 = some [.nilFunc] := by kernel_rfl
theorem ty_ag113 : aggT Tryd.prog 113 = some true := by kernel_rfl
theorem ty_sz113 : szT Tryd.prog 113 = some 24 := by kernel_rfl
theorem ty_int113 : intT Tryd.prog 113 = none := by kernel_rfl
theorem ty_ifc113 : ifaceT Tryd.prog 113 = false := by kernel_rfl
theorem ty_bool113 : boolT Tryd.prog 113 = false := by kernel_rfl
theorem ty_arr113 : arrT Tryd.prog 113 = some (24, 5, 1, false) := by kernel_rfl
theorem ty_pl113 : placeT Tryd.prog 113 = some (fun i => some (i * 1, 1)) := by kernel_rfl
theorem ty_z113 : zeroT Tryd.prog 113 = some [.int .u8 (0), .int .u8 (0), .int .u8 (0), .int .u8 (0), .int .u8 (0), .int .u8 (0), .int .u8 (0), .int .u8 (0), .int .u8 (0), .int .u8 (0), .int .u8 (0), .int .u8 (0), .int .u8 (0), .int .u8 (0), .int .u8 (0), .int .u8 (0), .int .u8 (0), .int .u8 (0), .int .u8 (0), .int .u8 (0), .int .u8 (0), .int .u8 (0), .int .u8 (0), .int .u8 (0)] := by kernel_rfl
theorem ty_ag114 : aggT Tryd.prog 114 = some false := by kernel_rfl
theorem ty_sz114 : szT Tryd.prog 114 = some 1 := by kernel_rfl
theorem ty_int114 : intT Tryd.prog 114 = none := by kernel_rfl
theorem ty_ifc114 : ifaceT Tryd.prog 114 = false := by kernel_rfl
theorem ty_bool114 : boolT Tryd.prog 114 = false := by kernel_rfl
theorem ty_z114 : zeroT Tryd.prog 114 = some [.nilFunc] := by kernel_rfl
theorem ty_ag115 : aggT Tryd.prog 115 = some false := by kernel_rfl
theorem ty_sz115 : szT Tryd.prog 115 = some 1 := by kernel_rfl
theorem ty_int115 : intT Tryd.prog 115 = none := by kernel_rfl
theorem ty_ifc115 : ifaceT Tryd.prog 115 = false := by kernel_rfl
theorem ty_bool115 : boolT Tryd.prog 115 = false := by kernel_rfl
theorem ty_z115 : zeroT Tryd.prog 115 = some [.nilFunc] := by kernel_rfl
theorem ty_ag117 : aggT Tryd.prog 117 = some false := by kernel_rfl
theorem ty_sz117 : szT Tryd.prog 117 = some 1 := by kernel_rfl
theorem ty_int117 : intT Tryd.prog 117 = none := by kernel_rfl
theorem ty_ifc117 : ifaceT Tryd.prog 117 = false := by kernel_rfl
theorem ty_bool117 : boolT Tryd.prog 117 = false := by kernel_rfl
theorem ty_z117 : zeroT Tryd.prog 117 = some [.nilFunc] := by kernel_rfl
theorem ty_ag118 : aggT Tryd.prog 118 = some false := by kernel_rfl
theorem ty_sz118 : szT Tryd.prog 118 = some 1 := by kernel_rfl
theorem ty_int118 : intT Tryd.prog 118 = none := by kernel_rfl
theorem ty_ifc118 : ifaceT Tryd.prog 118 = false := by kernel_rfl
theorem ty_bool118 : boolT Tryd.prog 118 = false := by kernel_rfl
theorem ty_z118 : zeroT Tryd.prog 118 = some [.nilFunc] := by kernel_rfl
theorem ty_ag119 : aggT Tryd.prog 119 = some false := by kernel_rfl
theorem ty_sz119 : szT Tryd.prog 119 = some 1 := by kernel_rfl
theorem ty_int119 : intT Tryd.prog 119 = none := by kernel_rfl
theorem ty_ifc119 : ifaceT Tryd.prog 119 = false := by kernel_rfl
theorem ty_bool119 : boolT Tryd.prog 119 = false := by kernel_rfl
theorem ty_z119 : zeroT Tryd.prog 119 = some [.nilFunc] := by kernel_rfl
theorem ty_ag120 : aggT Tryd.prog 120 = some true := by kernel_rfl
theorem ty_sz120 : szT Tryd.prog 120 = some 20 := by kernel_rfl
theorem ty_int120 : intT Tryd.prog 120 = none := by kernel_rfl
theorem ty_ifc120 : ifaceT Tryd.prog 120 = false := by kernel_rfl
theorem ty_bool120 : boolT Tryd.prog 120 = false := by kernel_rfl
theorem ty_arr120 : arrT Tryd.prog 120 = some (20, 79, 1, false) := by kernel_rfl
theorem ty_pl120 : placeT Tryd.prog 120 = some (fun i => some (i * 1, 1)) := by kernel_rfl
theorem ty_z120 : zeroT Tryd.prog 120 = some [.int .u64 (0), .int .u64 (0), .int .u64 (0), .int .u64 (0), .int .u64 (0), .int .u64 (0), .int .u64 (0), .int .u64 (0), .int .u64 (0), .int .u64 (0), .int .u64 (0), .int .u64 (0), .int .u64 (0), .int .u64 (0), .int .u64 (0), .int .u64 (0), .int .u64 (0), .int .u64 (0), .int .u64 (0), .int .u64 (0)] := by kernel_rfl
theorem ty_ag121 : aggT Tryd.prog 121 = some true := by kernel_rfl
theorem ty_sz121 : szT Tryd.prog 121 = some 65 := by kernel_rfl
theorem ty_int121 : intT Tryd.prog 121 = none := by kernel_rfl
theorem ty_ifc121 : ifaceT Tryd.prog 121 = false := by kernel_rfl
theorem ty_bool121 : boolT Tryd.prog 121 = false := by kernel_rfl
theorem ty_arr121 : arrT Tryd.prog 121 = some (65, 5, 1, false) := by kernel_rfl
theorem ty_pl121 : placeT Tryd.prog 121 = some (fun i => some (i * 1, 1)) := by kernel_rfl
theorem ty_ag122 : aggT Tryd.prog 122 = some false := by kernel_rfl
theorem ty_sz122 : szT Tryd.prog 122 = some 1 := by kernel_rfl
theorem ty_int122 : intT Tryd.prog 122 = none := by kernel_rfl
theorem ty_ifc122 : ifaceT Tryd.prog 122 = false := by kernel_rfl
theorem ty_bool122 : boolT Tryd.prog 122 = false := by kernel_rfl
theorem ty_z122 : zeroT Tryd.prog 122 = some [.nilFunc] := by kernel_rfl
theorem ty_ag123 : aggT Tryd.prog 123 = some false := by kernel_rfl
theorem ty_sz123 : szT Tryd.prog 123 = some 1 := by kernel_rfl
theorem ty_int123 : intT Tryd.prog 123 = none := by kernel_rfl
theorem ty_ifc123 : ifaceT Tryd.prog 123 = false := by kernel_rfl
theorem ty_bool123 : boolT Tryd.prog 123 = false := by kernel_rfl
theorem ty_z123 : zeroT Tryd.prog 123 = some [.nilFunc] := by kernel_rfl
theorem ty_ag124 : aggT Tryd.prog 124 = some false := by kernel_rfl
theorem ty_sz124 : szT Tryd.prog 124 = some 1 := by kernel_rfl
theorem ty_int124 : intT Tryd.prog 124 = none := by kernel_rfl
theorem ty_ifc124 : ifaceT Tryd.prog 124 = false := by kernel_rfl
theorem ty_bool124 : boolT Tryd.prog 124 = false := by kernel_rfl
theorem ty_z124 : zeroT Tryd.prog 124 = some [.nilFunc] := by kernel_rfl
theorem ty_ag125 : aggT Tryd.prog 125 = some true := by kernel_rfl
theorem ty_sz125 : szT Tryd.prog 125 = some 32 := by kernel_rfl
theorem ty_int125 : intT Tryd.prog 125 = none := by kernel_rfl
theorem ty_ifc125 : ifaceT Tryd.prog 125 = false := by kernel_rfl
theorem ty_bool125 : boolT Tryd.prog 125 = false := by kernel_rfl
theorem ty_arr125 : arrT Tryd.prog 125 = some (32, 5, 1, false) := by kernel_rfl
theorem ty_pl125 : placeT Tryd.prog 125 = some (fun i => some (i * 1, 1)) := by kernel_rfl
theorem ty_z125 : zeroT Tryd.prog 125 = some [.int .u8 (0), .int .u8 (0), .int .u8 (0), .int .u8 (0), .int .u8 (0), .int .u8 (0), .int .u8 (0), .int .u8 (0), .int .u8 (0), .int .u8 (0), .int .u8 (0), .int .u8 (0), .int .u8 (0), .int .u8 (0), .int .u8 (0), .int .u8 (0), .int .u8 (0), .int .u8 (0), .int .u8 (0), .int .u8 (0), .int .u8 (0), .int .u8 (0), .int .u8 (0), .int .u8 (0), .int .u8 (0), .int .u8 (0), .int .u8 (0), .int .u8 (0), .int .u8 (0), .int .u8 (0), .int .u8 (0), .int .u8 (0)] := by kernel_rfl
theorem ty_ag126 : aggT Tryd.prog 126 = some true := by kernel_rfl
theorem ty_sz126 : szT Tryd.prog 126 = some 64 := by kernel_rfl
theorem ty_int126 : intT Tryd.prog 126 = none := by kernel_rfl
theorem ty_ifc126 : ifaceT Tryd.prog 126 = false := by kernel_rfl
theorem ty_bool126 : boolT Tryd.prog 126 = false := by kernel_rfl
theorem ty_arr126 : arrT Tryd.prog 126 = some (64, 5, 1, false) := by kernel_rfl
theorem ty_pl126 : placeT Tryd.prog 126 = some (fun i => some (i * 1, 1)) := by kernel_rfl
theorem ty_z126 : zeroT Tryd.prog 126 = some [.int .u8 (0), .int .u8 (0), .int .u8 (0), .int .u8 (0), .int .u8 (0), .int .u8 (0), .int .u8 (0), .int .u8 (0), .int .u8 (0), .int .u8 (0), .int .u8 (0), .int .u8 (0), .int .u8 (0), .int .u8 (0), .int .u8 (0), .int .u8 (0), .int .u8 (0), .int .u8 (0), .int .u8 (0), .int .u8 (0), .int .u8 (0), .int .u8 (0), .int .u8 (0), .int .u8 (0), .int .u8 (0), .int .u8 (0), .int .u8 (0), .int .u8 (0), .int .u8 (0), .int .u8 (0), .int .u8 (0), .int .u8 (0), .int .u8 (0), .int .u8 (0), .int .u8 (0), .int .u8 (0), .int .u8 (0), .int .u8 (0), .int .u8 (0), .int .u8 (0), .int .u8 (0), .int .u8 (0), .int .u8 (0), .int .u8 (0), .int .u8 (0), .int .u8 (0), .int .u8 (0), .int .u8 (0), .int .u8 (0), .int .u8 (0), .int .u8 (0), .int .u8 (0), .int .u8 (0), .int .u8 (0), .int .u8 (0), .int .u8 (0), .int .u8 (0), .int .u8 (0), .int .u8 (0), .int .u8 (0), .int .u8 (0), .int .u8 (0), .int .u8 (0), .int .u8 (0)] := by kernel_rfl
theorem ty_ag127 : aggT Tryd.prog 127 = some false := by kernel_rfl
theorem ty_sz127 : szT Tryd.prog 127 = some 1 := by kernel_rfl
theorem ty_int127 : intT Tryd.prog 127 = none := by kernel_rfl
theorem ty_ifc127 : ifaceT Tryd.prog 127 = false := by kernel_rfl
theorem ty_bool127 : boolT Tryd.prog 127 = false := by kernel_rfl
theorem ty_z127 : zeroT Tryd.prog 127 = some [.nilFunc] := by kernel_rfl
theorem ty_ag128 : aggT Tryd.prog 128 = some true := by kernel_rfl
theorem ty_sz128 : szT Tryd.prog 128 = some 4 := by kernel_rfl
theorem ty_int128 : intT Tryd.prog 128 = none := by kernel_rfl
theorem ty_ifc128 : ifaceT Tryd.prog 128 = false := by kernel_rfl
theorem ty_bool128 : boolT Tryd.prog 128 = false := by kernel_rfl
theorem ty_f128_0 : fieldT Tryd.prog 128 0 = some (0, 1, false) := by kernel_rfl
theorem ty_f128_1 : fieldT Tryd.prog 128 1 = some (1, 1, false) := by kernel_rfl
theorem ty_f128_2 : fieldT Tryd.prog 128 2 = some (2, 1, false) := by kernel_rfl
theorem ty_f128_3 : fieldT Tryd.prog 128 3 = some (3, 1, false) := by kernel_rfl
theorem ty_pl128 : placeT Tryd.prog 128 = some (fun i => #[(0, 1), (1, 1), (2, 1), (3, 1)][i]?) := by kernel_rfl
theorem ty_z128 : zeroT Tryd.prog 128 = some [.pointer none, .pointer none, .pointer none, .string ⟨#[]⟩] := by kernel_rfl
theorem ty_ag129 : aggT Tryd.prog 129 = some true := by kernel_rfl
theorem ty_sz129 : szT Tryd.prog 129 = some 4 := by kernel_rfl
theorem ty_int129 : intT Tryd.prog 129 = none := by kernel_rfl
theorem ty_ifc129 : ifaceT Tryd.prog 129 = false := by kernel_rfl
theorem ty_bool129 : boolT Tryd.prog 129 = false := by kernel_rfl
theorem ty_f129_0 : fieldT Tryd.prog 129 0 = some (0, 1, false) := by kernel_rfl
theorem ty_f129_1 : fieldT Tryd.prog 129 1 = some (1, 1, false) := by kernel_rfl
theorem ty_f129_2 : fieldT Tryd.prog 129 2 = some (2, 1, false) := by kernel_rfl
theorem ty_f129_3 : fieldT Tryd.prog 129 3 = some (3, 1, false) := by kernel_rfl
theorem ty_pl129 : placeT Tryd.prog 129 = some (fun i => #[(0, 1), (1, 1), (2, 1), (3, 1)][i]?) := by kernel_rfl
theorem ty_z129 : zeroT Tryd.prog 129 = some [.pointer none, .pointer none, .pointer none, .string ⟨#[]⟩] := by kernel_rfl
theorem ty_ag130 : aggT Tryd.prog 130 = some true := by kernel_rfl
theorem ty_sz130 : szT Tryd.prog 130 = some 0 := by kernel_rfl
theorem ty_int130 : intT Tryd.prog 130 = none := by kernel_rfl
theorem ty_ifc130 : ifaceT Tryd.prog 130 = false := by kernel_rfl
theorem ty_bool130 : boolT Tryd.prog 130 = false := by kernel_rfl
theorem ty_arr130 : arrT Tryd.prog 130 = some (0, 16, 1, false) := by kernel_rfl
theorem ty_pl130 : placeT Tryd.prog 130 = some (fun i => some (i * 1, 1)) := by kernel_rfl
theorem ty_z130 : zeroT Tryd.prog 130 = some [] := by kernel_rfl
theorem ty_ag131 : aggT Tryd.prog 131 = some true := by kernel_rfl
theorem ty_sz131 : szT Tryd.prog 131 = some 0 := by kernel_rfl
theorem ty_int131 : intT Tryd.prog 131 = none := by kernel_rfl
theorem ty_ifc131 : ifaceT Tryd.prog 131 = false := by kernel_rfl
theorem ty_bool131 : boolT Tryd.prog 131 = false := by kernel_rfl
theorem ty_pl131 : placeT Tryd.prog 131 = some (fun i => #[(0, 0)][i]?) := by kernel_rfl
theorem ty_z131 : zeroT Tryd.prog 131 = some [] := by kernel_rfl
theorem ty_ag132 : aggT Tryd.prog 132 = some true := by kernel_rfl
theorem ty_sz132 : szT Tryd.prog 132 = some 0 := by kernel_rfl
theorem ty_int132 : intT Tryd.prog 132 = none := by kernel_rfl
theorem ty_ifc132 : ifaceT Tryd.prog 132 = false := by kernel_rfl
theorem ty_bool132 : boolT Tryd.prog 132 = false := by kernel_rfl
theorem ty_pl132 : placeT Tryd.prog 132 = some (fun i => #[(0, 0)][i]?) := by kernel_rfl
theorem ty_z132 : zeroT Tryd.prog 132 = some [] := by kernel_rfl
theorem ty_ag133 : aggT Tryd.prog 133 = some false := by kernel_rfl
theorem ty_sz133 : szT Tryd.prog 133 = some 1 := by kernel_rfl
theorem ty_int133 : intT Tryd.prog 133 = none := by kernel_rfl
theorem ty_ifc133 : ifaceT Tryd.prog 133 = false := by kernel_rfl
theorem ty_bool133 : boolT Tryd.prog 133 = false := by kernel_rfl
theorem ty_z133 : zeroT Tryd.prog 133 = some [.nilFunc] := by kernel_rfl
theorem ty_ag134 : aggT Tryd.prog 134 = some false := by kernel_rfl
theorem ty_sz134 : szT Tryd.prog 134 = some 1 := by kernel_rfl
theorem ty_int134 : intT Tryd.prog 134 = some .u8 := by kernel_rfl
theorem ty_ifc134 : ifaceT Tryd.prog 134 = false := by kernel_rfl
theorem ty_bool134 : boolT Tryd.prog 134 = false := by kernel_rfl
theorem ty_z134 : zeroT Tryd.prog 134 = some [.int .u8 (0)] := by kernel_rfl
theorem ty_ag135 : aggT Tryd.prog 135 = some false := by kernel_rfl
theorem ty_sz135 : szT Tryd.prog 135 = some 1 := by kernel_rfl
theorem ty_int135 : intT Tryd.prog 135 = some .u8 := by kernel_rfl
theorem ty_ifc135 : ifaceT Tryd.prog 135 = false := by kernel_rfl
theorem ty_m135_0 : methA Tryd.prog 135 "String" = some 124 := by kernel_rfl
theorem ty_k135_0 : nilOk Tryd.prog 135 "String" = true := by kernel_rfl
theorem ty_bool135 : boolT Tryd.prog 135 = false := by kernel_rfl
theorem ty_z135 : zeroT Tryd.prog 135 = some [.int .u8 (0)] := by kernel_rfl
theorem ty_ag136 : aggT Tryd.prog 136 = some false := by kernel_rfl
theorem ty_sz136 : szT Tryd.prog 136 = some 1 := by kernel_rfl
theorem ty_int136 : intT Tryd.prog 136 = none := by kernel_rfl
theorem ty_ifc136 : ifaceT Tryd.prog 136 = false := by kernel_rfl
theorem ty_bool136 : boolT Tryd.prog 136 = false := by kernel_rfl
theorem ty_z136 : zeroT Tryd.prog 136 = some [.nilFunc] := by kernel_rfl
theorem ty_ag137 : aggT Tryd.prog 137 = some false := by kernel_rfl
theorem ty_sz137 : szT Tryd.prog 137 = some 1 := by kernel_rfl
theorem ty_int137 : intT Tryd.prog 137 = none := by kernel_rfl
theorem ty_ifc137 : ifaceT Tryd.prog 137 = false := by kernel_rfl
theorem ty_bool137 : boolT Tryd.prog 137 = false := by kernel_rfl
theorem ty_z137 : zeroT Tryd.prog 137 = some [.pointer none] := by kernel_rfl
theorem ty_ag138 : aggT Tryd.prog 138 = some false := by kernel_rfl
theorem ty_sz138 : szT Tryd.prog 138 = some 1 := by kernel_rfl
theorem ty_int138 : intT Tryd.prog 138 = some .i32 := by kernel_rfl
theorem ty_ifc138 : ifaceT Tryd.prog 138 = false := by kernel_rfl
theorem ty_bool138 : boolT Tryd.prog 138 = false := by kernel_rfl
theorem ty_z138 : zeroT Tryd.prog 138 = some [.int .i32 (0)] := by kernel_rfl
theorem ty_ag139 : aggT Tryd.prog 139 = some false := by kernel_rfl
theorem ty_sz139 : szT Tryd.prog 139 = some 1 := by kernel_rfl
theorem ty_int139 : intT Tryd.prog 139 = some .i32 := by kernel_rfl
theorem ty_ifc139 : ifaceT Tryd.prog 139 = false := by kernel_rfl
theorem ty_bool139 : boolT Tryd.prog 139 = false := by kernel_rfl
theorem ty_z139 : zeroT Tryd.prog 139 = some [.int .i32 (0)] := by kernel_rfl
theorem ty_ag140 : aggT Tryd.prog 140 = some true := by kernel_rfl
theorem ty_sz140 : szT Tryd.prog 140 = some 11 := by kernel_rfl
theorem ty_int140 : intT Tryd.prog 140 = none := by kernel_rfl
theorem ty_ifc140 : ifaceT Tryd.prog 140 = false := by kernel_rfl
theorem ty_bool140 : boolT Tryd.prog 140 = false := by kernel_rfl
theorem ty_f140_0 : fieldT Tryd.prog 140 0 = some (0, 1, false) := by kernel_rfl
theorem ty_f140_1 : fieldT Tryd.prog 140 1 = some (1, 1, false) := by kernel_rfl
theorem ty_f140_2 : fieldT Tryd.prog 140 2 = some (2, 1, false) := by kernel_rfl
theorem ty_f140_3 : fieldT Tryd.prog 140 3 = some (3, 1, false) := by kernel_rfl
theorem ty_f140_4 : fieldT Tryd.prog 140 4 = some (4, 1, false) := by kernel_rfl
theorem ty_f140_5 : fieldT Tryd.prog 140 5 = some (5, 1, false) := by kernel_rfl
theorem ty_f140_6 : fieldT Tryd.prog 140 6 = some (6, 1, false) := by kernel_rfl
theorem ty_f140_7 : fieldT Tryd.prog 140 7 = some (7, 1, false) := by kernel_rfl
theorem ty_f140_8 : fieldT Tryd.prog 140 8 = some (8, 1, false) := by kernel_rfl
theorem ty_f140_9 : fieldT Tryd.prog 140 9 = some (9, 1, false) := by kernel_rfl
theorem ty_f140_10 : fieldT Tryd.prog 140 10 = some (10, 1, false) := by kernel_rfl
theorem ty_pl140 : placeT Tryd.prog 140 = some (fun i => #[(0, 1), (1, 1), (2, 1), (3, 1), (4, 1), (5, 1), (6, 1), (7, 1), (8, 1), (9, 1), (10, 1)][i]?) := by kernel_rfl
theorem ty_z140 : zeroT Tryd.prog 140 = some [.int .u64 (0), .int .u64 (0), .int .u32 (0), .int .u8 (0), .int .u8 (0), .int .u8 (0), .int .u8 (0), .nilFunc, .pointer none, .int .i32 (0), .int .i32 (0)] := by kernel_rfl
theorem ty_ag141 : aggT Tryd.prog 141 = some true := by kernel_rfl
theorem ty_sz141 : szT Tryd.prog 141 = some 11 := by kernel_rfl
theorem ty_int141 : intT Tryd.prog 141 = none := by kernel_rfl
theorem ty_ifc141 : ifaceT Tryd.prog 141 = false := by kernel_rfl
theorem ty_bool141 : boolT Tryd.prog 141 = false := by kernel_rfl
theorem ty_f141_0 : fieldT Tryd.prog 141 0 = some (0, 1, false) := by kernel_rfl
theorem ty_f141_1 : fieldT Tryd.prog 141 1 = some (1, 1, false) := by kernel_rfl
theorem ty_f141_2 : fieldT Tryd.prog 141 2 = some (2, 1, false) := by kernel_rfl
theorem ty_f141_3 : fieldT Tryd.prog 141 3 = some (3, 1, false) := by kernel_rfl
theorem ty_f141_4 : fieldT Tryd.prog 141 4 = some (4, 1, false) := by kernel_rfl
theorem ty_f141_5 : fieldT Tryd.prog 141 5 = some (5, 1, false) := by kernel_rfl
theorem ty_f141_6 : fieldT Tryd.prog 141 6 = some (6, 1, false) := by kernel_rfl
theorem ty_f141_7 : fieldT Tryd.prog 141 7 = some (7, 1, false) := by kernel_rfl
theorem ty_f141_8 : fieldT Tryd.prog 141 8 = some (8, 1, false) := by kernel_rfl
theorem ty_f141_9 : fieldT Tryd.prog 141 9 = some (9, 1, false) := by kernel_rfl
theorem ty_f141_10 : fieldT Tryd.prog 141 10 = some (10, 1, false) := by kernel_rfl
theorem ty_pl141 : placeT Tryd.prog 141 = some (fun i => #[(0, 1), (1, 1), (2, 1), (3, 1), (4, 1), (5, 1), (6, 1), (7, 1), (8, 1), (9, 1), (10, 1)][i]?) := by kernel_rfl
theorem ty_z141 : zeroT Tryd.prog 141 = some [.int .u64 (0), .int .u64 (0), .int .u32 (0), .int .u8 (0), .int .u8 (0), .int .u8 (0), .int .u8 (0), .nilFunc, .pointer none, .int .i32 (0), .int .i32 (0)] := by kernel_rfl
theorem ty_mixed : Tryd.prog.follows .mixedOrders = true := by kernel_rfl
theorem fok2 : fnOk Tryd.f2 = true := by kernel_rfl
theorem fok3 : fnOk Tryd.f3 = true := by kernel_rfl
theorem fok4 : fnOk Tryd.f4 = true := by kernel_rfl
theorem fok5 : fnOk Tryd.f5 = true := by kernel_rfl
theorem fok6 : fnOk Tryd.f6 = true := by kernel_rfl
theorem fok7 : fnOk Tryd.f7 = true := by kernel_rfl
theorem fok8 : fnOk Tryd.f8 = true := by kernel_rfl
theorem fok9 : fnOk Tryd.f9 = true := by kernel_rfl
theorem fok10 : fnOk Tryd.f10 = true := by kernel_rfl
theorem fok11 : fnOk Tryd.f11 = true := by kernel_rfl
theorem fok12 : fnOk Tryd.f12 = true := by kernel_rfl
theorem fok13 : fnOk Tryd.f13 = true := by kernel_rfl
theorem fok14 : fnOk Tryd.f14 = true := by kernel_rfl
theorem fok15 : fnOk Tryd.f15 = true := by kernel_rfl
theorem fok16 : fnOk Tryd.f16 = true := by kernel_rfl
theorem fok17 : fnOk Tryd.f17 = true := by kernel_rfl
theorem fok18 : fnOk Tryd.f18 = true := by kernel_rfl
theorem fok19 : fnOk Tryd.f19 = true := by kernel_rfl
theorem fok20 : fnOk Tryd.f20 = true := by kernel_rfl
theorem fok21 : fnOk Tryd.f21 = true := by kernel_rfl
theorem fok22 : fnOk Tryd.f22 = true := by kernel_rfl
theorem fok23 : fnOk Tryd.f23 = true := by kernel_rfl
theorem fok24 : fnOk Tryd.f24 = true := by kernel_rfl
theorem fok25 : fnOk Tryd.f25 = true := by kernel_rfl
theorem fok26 : fnOk Tryd.f26 = true := by kernel_rfl
theorem fok27 : fnOk Tryd.f27 = true := by kernel_rfl
theorem fok28 : fnOk Tryd.f28 = true := by kernel_rfl
theorem fok29 : fnOk Tryd.f29 = true := by kernel_rfl
theorem fok30 : fnOk Tryd.f30 = true := by kernel_rfl
theorem fok31 : fnOk Tryd.f31 = true := by kernel_rfl
theorem fok32 : fnOk Tryd.f32 = true := by kernel_rfl
theorem fok33 : fnOk Tryd.f33 = true := by kernel_rfl
theorem fok34 : fnOk Tryd.f34 = true := by kernel_rfl
theorem fok35 : fnOk Tryd.f35 = true := by kernel_rfl
theorem fok36 : fnOk Tryd.f36 = true := by kernel_rfl
theorem fok37 : fnOk Tryd.f37 = true := by kernel_rfl
theorem fok38 : fnOk Tryd.f38 = true := by kernel_rfl
theorem fok39 : fnOk Tryd.f39 = true := by kernel_rfl
theorem fok40 : fnOk Tryd.f40 = true := by kernel_rfl
theorem fok41 : fnOk Tryd.f41 = true := by kernel_rfl
theorem fok42 : fnOk Tryd.f42 = true := by kernel_rfl
theorem fok43 : fnOk Tryd.f43 = true := by kernel_rfl
theorem fok44 : fnOk Tryd.f44 = true := by kernel_rfl
theorem fok45 : fnOk Tryd.f45 = true := by kernel_rfl
theorem fok46 : fnOk Tryd.f46 = true := by kernel_rfl
theorem fok47 : fnOk Tryd.f47 = true := by kernel_rfl
theorem fok48 : fnOk Tryd.f48 = true := by kernel_rfl
theorem fok49 : fnOk Tryd.f49 = true := by kernel_rfl
theorem fok50 : fnOk Tryd.f50 = true := by kernel_rfl
theorem fok51 : fnOk Tryd.f51 = true := by kernel_rfl
theorem fok52 : fnOk Tryd.f52 = true := by kernel_rfl
theorem fok53 : fnOk Tryd.f53 = true := by kernel_rfl
theorem fok54 : fnOk Tryd.f54 = true := by kernel_rfl
theorem fok55 : fnOk Tryd.f55 = true := by kernel_rfl
theorem fok56 : fnOk Tryd.f56 = true := by kernel_rfl
theorem fok57 : fnOk Tryd.f57 = true := by kernel_rfl
theorem fok58 : fnOk Tryd.f58 = true := by kernel_rfl
theorem fok59 : fnOk Tryd.f59 = true := by kernel_rfl
theorem fok60 : fnOk Tryd.f60 = true := by kernel_rfl
theorem fok61 : fnOk Tryd.f61 = true := by kernel_rfl
theorem fok62 : fnOk Tryd.f62 = true := by kernel_rfl
theorem fok63 : fnOk Tryd.f63 = true := by kernel_rfl
theorem fok64 : fnOk Tryd.f64 = true := by kernel_rfl
theorem fok65 : fnOk Tryd.f65 = true := by kernel_rfl
theorem fok66 : fnOk Tryd.f66 = true := by kernel_rfl
theorem fok67 : fnOk Tryd.f67 = true := by kernel_rfl
theorem fok68 : fnOk Tryd.f68 = true := by kernel_rfl
theorem fok69 : fnOk Tryd.f69 = true := by kernel_rfl
theorem fok70 : fnOk Tryd.f70 = true := by kernel_rfl
theorem fok71 : fnOk Tryd.f71 = true := by kernel_rfl
theorem fok72 : fnOk Tryd.f72 = true := by kernel_rfl
theorem fok73 : fnOk Tryd.f73 = true := by kernel_rfl
theorem fok74 : fnOk Tryd.f74 = true := by kernel_rfl
theorem fok75 : fnOk Tryd.f75 = true := by kernel_rfl
theorem fok76 : fnOk Tryd.f76 = true := by kernel_rfl
theorem fok77 : fnOk Tryd.f77 = true := by kernel_rfl
theorem fok78 : fnOk Tryd.f78 = true := by kernel_rfl
theorem fok79 : fnOk Tryd.f79 = true := by kernel_rfl
theorem fok80 : fnOk Tryd.f80 = true := by kernel_rfl
theorem fok81 : fnOk Tryd.f81 = true := by kernel_rfl
theorem fok82 : fnOk Tryd.f82 = true := by kernel_rfl
theorem fok83 : fnOk Tryd.f83 = true := by kernel_rfl
theorem fok84 : fnOk Tryd.f84 = true := by kernel_rfl
theorem fok85 : fnOk Tryd.f85 = true := by kernel_rfl
theorem fok86 : fnOk Tryd.f86 = true := by kernel_rfl
theorem fok87 : fnOk Tryd.f87 = true := by kernel_rfl
theorem fok88 : fnOk Tryd.f88 = true := by kernel_rfl
theorem fok89 : fnOk Tryd.f89 = true := by kernel_rfl
theorem fok90 : fnOk Tryd.f90 = true := by kernel_rfl
theorem fok91 : fnOk Tryd.f91 = true := by kernel_rfl
theorem fok92 : fnOk Tryd.f92 = true := by kernel_rfl
theorem fok93 : fnOk Tryd.f93 = true := by kernel_rfl
theorem fok94 : fnOk Tryd.f94 = true := by kernel_rfl
theorem fok95 : fnOk Tryd.f95 = true := by kernel_rfl
theorem fok96 : fnOk Tryd.f96 = true := by kernel_rfl
theorem fok97 : fnOk Tryd.f97 = true := by kernel_rfl
theorem fok98 : fnOk Tryd.f98 = true := by kernel_rfl
theorem fok99 : fnOk Tryd.f99 = true := by kernel_rfl
theorem fok100 : fnOk Tryd.f100 = true := by kernel_rfl
theorem fok101 : fnOk Tryd.f101 = true := by kernel_rfl
theorem fok102 : fnOk Tryd.f102 = true := by kernel_rfl
theorem fok103 : fnOk Tryd.f103 = true := by kernel_rfl
theorem fok104 : fnOk Tryd.f104 = true := by kernel_rfl
theorem fok105 : fnOk Tryd.f105 = true := by kernel_rfl
theorem fok106 : fnOk Tryd.f106 = true := by kernel_rfl
theorem fok107 : fnOk Tryd.f107 = true := by kernel_rfl
theorem fok108 : fnOk Tryd.f108 = true := by kernel_rfl
theorem fok130 : fnOk Tryd.f130 = true := by kernel_rfl

attribute [push_cast] ty_ag1 ty_sz1 ty_int1 ty_ifc1 ty_bool1 ty_z1 Tryd.underlying1 ty_ag2 ty_sz2 ty_int2 ty_ifc2 ty_bool2 ty_z2 Tryd.underlying2 ty_ag3 ty_sz3 ty_int3 ty_ifc3 ty_bool3 ty_z3 Tryd.underlying3 ty_ag4 ty_sz4 ty_int4 ty_ifc4 ty_bool4 ty_z4 Tryd.underlying4 ty_ag5 ty_sz5 ty_int5 ty_ifc5 ty_bool5 ty_z5 Tryd.underlying5 ty_ag6 ty_sz6 ty_int6 ty_ifc6 ty_bool6 ty_z6 Tryd.underlying6 ty_ag7 ty_sz7 ty_int7 ty_eq7 ty_ifc7 ty_bool7 ty_f7_0 ty_f7_1 ty_f7_2 ty_f7_3 ty_pl7 ty_z7 Tryd.underlying7 ty_ag8 ty_sz8 ty_int8 ty_eq8 ty_ifc8 ty_m8_0 ty_k8_0 ty_m8_1 ty_k8_1 ty_bool8 ty_f8_0 ty_f8_1 ty_f8_2 ty_f8_3 ty_pl8 ty_z8 Tryd.underlying8 ty_ag9 ty_sz9 ty_int9 ty_ifc9 ty_bool9 ty_z9 Tryd.underlying9 ty_ag10 ty_sz10 ty_int10 ty_ifc10 ty_m10_0 ty_k10_0 ty_m10_1 ty_k10_1 ty_bool10 ty_z10 Tryd.underlying10 ty_ag11 ty_sz11 ty_int11 ty_ifc11 ty_m11_0 ty_k11_0 ty_m11_1 ty_k11_1 ty_bool11 ty_z11 Tryd.underlying11 ty_ag12 ty_sz12 ty_int12 ty_ifc12 ty_bool12 ty_z12 Tryd.underlying12 ty_ag13 ty_sz13 ty_int13 ty_ifc13 ty_bool13 ty_f13_0 ty_f13_1 ty_pl13 ty_z13 Tryd.underlying13 ty_ag14 ty_sz14 ty_int14 ty_ifc14 ty_m14_0 ty_k14_0 ty_m14_1 ty_k14_1 ty_bool14 ty_f14_0 ty_f14_1 ty_pl14 ty_z14 Tryd.underlying14 ty_ag15 ty_sz15 ty_int15 ty_ifc15 ty_m15_0 ty_k15_0 ty_m15_1 ty_k15_1 ty_bool15 ty_z15 Tryd.underlying15 ty_ag16 ty_sz16 ty_int16 ty_ifc16 ty_m16_0 ty_k16_0 ty_m16_1 ty_k16_1 ty_bool16 ty_z16 Tryd.underlying16 ty_ag17 ty_sz17 ty_int17 ty_ifc17 ty_m17_0 ty_k17_0 ty_bool17 ty_z17 Tryd.underlying17 ty_ag18 ty_sz18 ty_int18 ty_ifc18 ty_bool18 ty_f18_0 ty_pl18 ty_z18 Tryd.underlying18 ty_ag19 ty_sz19 ty_int19 ty_ifc19 ty_m19_0 ty_k19_0 ty_m19_1 ty_k19_1 ty_bool19 ty_f19_0 ty_pl19 ty_z19 Tryd.underlying19 ty_ag20 ty_sz20 ty_int20 ty_ifc20 ty_bool20 ty_z20 ty_ag21 ty_sz21 ty_int21 ty_ifc21 ty_bool21 ty_z21 Tryd.underlying21 ty_ag22 ty_sz22 ty_int22 ty_ifc22 ty_bool22 ty_z22 Tryd.underlying22 ty_ag23 ty_sz23 ty_int23 ty_ifc23 ty_bool23 ty_z23 Tryd.underlying23 ty_ag24 ty_sz24 ty_int24 ty_ifc24 ty_bool24 ty_z24 Tryd.underlying24 ty_ag25 ty_sz25 ty_int25 ty_eq25 ty_ifc25 ty_bool25 ty_f25_0 ty_f25_1 ty_f25_2 ty_f25_3 ty_f25_4 ty_pl25 ty_z25 Tryd.underlying25 ty_ag26 ty_sz26 ty_int26 ty_eq26 ty_ifc26 ty_bool26 ty_f26_0 ty_f26_1 ty_f26_2 ty_f26_3 ty_f26_4 ty_pl26 ty_z26 Tryd.underlying26 ty_ag27 ty_sz27 ty_int27 ty_ifc27 ty_bool27 ty_elem27 ty_app27 ty_z27 Tryd.underlying27 ty_ag28 ty_sz28 ty_int28 ty_ifc28 ty_bool28 ty_f28_0 ty_f28_1 ty_f28_2 ty_f28_3 ty_f28_4 ty_f28_5 ty_pl28 ty_z28 Tryd.underlying28 ty_ag29 ty_sz29 ty_int29 ty_ifc29 ty_bool29 ty_f29_0 ty_f29_1 ty_f29_2 ty_f29_3 ty_f29_4 ty_f29_5 ty_pl29 ty_z29 Tryd.underlying29 ty_ag30 ty_sz30 ty_int30 ty_ifc30 ty_bool30 ty_z30 Tryd.underlying30 ty_ag31 ty_sz31 ty_int31 ty_ifc31 ty_bool31 ty_z31 Tryd.underlying31 ty_ag33 ty_sz33 ty_int33 ty_ifc33 ty_bool33 ty_z33 Tryd.underlying33 ty_ag34 ty_sz34 ty_int34 ty_ifc34 ty_bool34 ty_z34 Tryd.underlying34 ty_ag35 ty_sz35 ty_int35 ty_ifc35 ty_bool35 ty_z35 Tryd.underlying35 ty_ag36 ty_sz36 ty_int36 ty_ifc36 ty_bool36 ty_z36 Tryd.underlying36 ty_ag37 ty_sz37 ty_int37 ty_ifc37 ty_bool37 ty_z37 Tryd.underlying37 ty_ag38 ty_sz38 ty_int38 ty_ifc38 ty_bool38 ty_z38 Tryd.underlying38 ty_ag39 ty_sz39 ty_int39 ty_ifc39 ty_bool39 ty_f39_0 ty_f39_1 ty_f39_2 ty_f39_3 ty_f39_4 ty_f39_5 ty_pl39 ty_z39 Tryd.underlying39 ty_ag40 ty_sz40 ty_int40 ty_ifc40 ty_bool40 ty_f40_0 ty_f40_1 ty_f40_2 ty_f40_3 ty_f40_4 ty_f40_5 ty_pl40 ty_z40 Tryd.underlying40 ty_ag41 ty_sz41 ty_int41 ty_ifc41 ty_bool41 ty_z41 Tryd.underlying41 ty_ag43 ty_sz43 ty_int43 ty_ifc43 ty_bool43 ty_z43 Tryd.underlying43 ty_ag44 ty_sz44 ty_int44 ty_ifc44 ty_bool44 ty_z44 Tryd.underlying44 ty_ag45 ty_sz45 ty_int45 ty_ifc45 ty_bool45 ty_z45 Tryd.underlying45 ty_ag46 ty_sz46 ty_int46 ty_ifc46 ty_bool46 ty_z46 Tryd.underlying46 ty_ag47 ty_sz47 ty_int47 ty_ifc47 ty_bool47 ty_z47 Tryd.underlying47 ty_ag48 ty_sz48 ty_int48 ty_ifc48 ty_bool48 ty_z48 Tryd.underlying48 ty_ag49 ty_sz49 ty_int49 ty_ifc49 ty_bool49 ty_z49 Tryd.underlying49 ty_ag50 ty_sz50 ty_int50 ty_ifc50 ty_bool50 ty_elem50 ty_app50 ty_z50 Tryd.underlying50 ty_ag52 ty_sz52 ty_int52 ty_ifc52 ty_bool52 ty_z52 Tryd.underlying52 ty_ag53 ty_sz53 ty_int53 ty_ifc53 ty_bool53 ty_z53 Tryd.underlying53 ty_ag54 ty_sz54 ty_int54 ty_ifc54 ty_bool54 ty_z54 Tryd.underlying54 ty_ag55 ty_sz55 ty_int55 ty_ifc55 ty_bool55 ty_z55 Tryd.underlying55 ty_ag56 ty_sz56 ty_int56 ty_ifc56 ty_bool56 ty_z56 Tryd.underlying56 ty_ag57 ty_sz57 ty_int57 ty_ifc57 ty_bool57 ty_z57 Tryd.underlying57 ty_ag58 ty_sz58 ty_int58 ty_ifc58 ty_bool58 ty_z58 Tryd.underlying58 ty_ag59 ty_sz59 ty_int59 ty_ifc59 ty_bool59 ty_z59 Tryd.underlying59 ty_ag60 ty_sz60 ty_int60 ty_ifc60 ty_bool60 ty_z60 Tryd.underlying60 ty_ag61 ty_sz61 ty_int61 ty_ifc61 ty_bool61 ty_z61 Tryd.underlying61 ty_ag63 ty_sz63 ty_int63 ty_ifc63 ty_bool63 ty_z63 Tryd.underlying63 ty_ag64 ty_sz64 ty_int64 ty_ifc64 ty_bool64 ty_elem64 ty_app64 ty_z64 Tryd.underlying64 ty_ag65 ty_sz65 ty_int65 ty_ifc65 ty_bool65 ty_z65 Tryd.underlying65 ty_ag67 ty_sz67 ty_int67 ty_ifc67 ty_bool67 ty_z67 Tryd.underlying67 ty_ag68 ty_sz68 ty_int68 ty_ifc68 ty_bool68 ty_z68 Tryd.underlying68 ty_ag69 ty_sz69 ty_int69 ty_ifc69 ty_bool69 ty_z69 Tryd.underlying69 ty_ag70 ty_sz70 ty_int70 ty_ifc70 ty_bool70 ty_f70_0 ty_f70_1 ty_f70_2 ty_pl70 ty_z70 Tryd.underlying70 ty_ag71 ty_sz71 ty_int71 ty_ifc71 ty_bool71 ty_f71_0 ty_f71_1 ty_f71_2 ty_pl71 ty_z71 Tryd.underlying71 ty_ag72 ty_sz72 ty_int72 ty_ifc72 ty_m72_0 ty_k72_0 ty_m72_1 ty_k72_1 ty_bool72 ty_z72 Tryd.underlying72 ty_ag73 ty_sz73 ty_int73 ty_ifc73 ty_bool73 ty_z73 Tryd.underlying73 ty_ag74 ty_sz74 ty_int74 ty_ifc74 ty_bool74 ty_arr74 ty_pl74 ty_z74 ty_ag75 ty_sz75 ty_int75 ty_ifc75 ty_bool75 ty_arr75 ty_pl75 ty_z75 ty_ag76 ty_sz76 ty_int76 ty_ifc76 ty_bool76 ty_z76 Tryd.underlying76 ty_ag77 ty_sz77 ty_int77 ty_ifc77 ty_bool77 ty_z77 Tryd.underlying77 ty_ag78 ty_sz78 ty_int78 ty_ifc78 ty_bool78 ty_z78 Tryd.underlying78 ty_ag79 ty_sz79 ty_int79 ty_ifc79 ty_bool79 ty_z79 Tryd.underlying79 ty_ag80 ty_sz80 ty_int80 ty_ifc80 ty_bool80 ty_z80 Tryd.underlying80 ty_ag81 ty_sz81 ty_int81 ty_ifc81 ty_bool81 ty_z81 Tryd.underlying81 ty_ag82 ty_sz82 ty_int82 ty_ifc82 ty_bool82 ty_z82 Tryd.underlying82 ty_ag83 ty_sz83 ty_int83 ty_ifc83 ty_bool83 ty_elem83 ty_app83 ty_z83 Tryd.underlying83 ty_ag84 ty_sz84 ty_int84 ty_ifc84 ty_bool84 ty_z84 Tryd.underlying84 ty_ag85 ty_sz85 ty_int85 ty_ifc85 ty_bool85 ty_f85_0 ty_f85_1 ty_pl85 ty_z85 Tryd.underlying85 ty_ag86 ty_sz86 ty_int86 ty_ifc86 ty_bool86 ty_f86_0 ty_f86_1 ty_pl86 ty_z86 Tryd.underlying86 ty_ag87 ty_sz87 ty_int87 ty_ifc87 ty_bool87 ty_z87 Tryd.underlying87 ty_ag88 ty_sz88 ty_int88 ty_ifc88 ty_bool88 ty_z88 Tryd.underlying88 ty_ag89 ty_sz89 ty_int89 ty_ifc89 ty_bool89 ty_z89 Tryd.underlying89 ty_ag90 ty_sz90 ty_int90 ty_ifc90 ty_bool90 ty_z90 Tryd.underlying90 ty_ag91 ty_sz91 ty_int91 ty_ifc91 ty_bool91 ty_z91 Tryd.underlying91 ty_ag92 ty_sz92 ty_int92 ty_ifc92 ty_bool92 ty_elem92 ty_app92 ty_z92 Tryd.underlying92 ty_ag93 ty_sz93 ty_int93 ty_ifc93 ty_bool93 ty_z93 Tryd.underlying93 ty_ag94 ty_sz94 ty_int94 ty_ifc94 ty_bool94 ty_z94 Tryd.underlying94 ty_ag95 ty_sz95 ty_int95 ty_ifc95 ty_bool95 ty_z95 Tryd.underlying95 ty_ag96 ty_sz96 ty_int96 ty_ifc96 ty_bool96 ty_z96 Tryd.underlying96 ty_ag97 ty_sz97 ty_int97 ty_ifc97 ty_bool97 ty_z97 Tryd.underlying97 ty_ag98 ty_sz98 ty_int98 ty_ifc98 ty_bool98 ty_z98 Tryd.underlying98 ty_ag99 ty_sz99 ty_int99 ty_ifc99 ty_bool99 ty_z99 Tryd.underlying99 ty_ag100 ty_sz100 ty_int100 ty_ifc100 ty_bool100 ty_z100 Tryd.underlying100 ty_ag101 ty_sz101 ty_int101 ty_ifc101 ty_bool101 ty_z101 Tryd.underlying101 ty_ag102 ty_sz102 ty_int102 ty_ifc102 ty_m102_0 ty_k102_0 ty_m102_1 ty_k102_1 ty_bool102 ty_z102 Tryd.underlying102 ty_ag103 ty_sz103 ty_int103 ty_ifc103 ty_bool103 ty_z103 Tryd.underlying103 ty_ag104 ty_sz104 ty_int104 ty_ifc104 ty_bool104 ty_arr104 ty_pl104 ty_z104 ty_ag105 ty_sz105 ty_int105 ty_ifc105 ty_bool105 ty_z105 Tryd.underlying105 ty_ag106 ty_sz106 ty_int106 ty_ifc106 ty_bool106 ty_z106 Tryd.underlying106 ty_ag107 ty_sz107 ty_int107 ty_ifc107 ty_bool107 ty_arr107 ty_pl107 ty_z107 ty_ag108 ty_sz108 ty_int108 ty_ifc108 ty_bool108 ty_z108 Tryd.underlying108 ty_ag109 ty_sz109 ty_int109 ty_ifc109 ty_bool109 ty_z109 Tryd.underlying109 ty_ag110 ty_sz110 ty_int110 ty_ifc110 ty_bool110 ty_z110 Tryd.underlying110 ty_ag111 ty_sz111 ty_int111 ty_ifc111 ty_bool111 ty_z111 Tryd.underlying111 ty_ag112 ty_sz112 ty_int112 ty_ifc112 ty_bool112 ty_z112 Tryd.underlying112 ty_ag113 ty_sz113 ty_int113 ty_ifc113 ty_bool113 ty_arr113 ty_pl113 ty_z113 ty_ag114 ty_sz114 ty_int114 ty_ifc114 ty_bool114 ty_z114 Tryd.underlying114 ty_ag115 ty_sz115 ty_int115 ty_ifc115 ty_bool115 ty_z115 Tryd.underlying115 ty_ag117 ty_sz117 ty_int117 ty_ifc117 ty_bool117 ty_z117 Tryd.underlying117 ty_ag118 ty_sz118 ty_int118 ty_ifc118 ty_bool118 ty_z118 Tryd.underlying118 ty_ag119 ty_sz119 ty_int119 ty_ifc119 ty_bool119 ty_z119 Tryd.underlying119 ty_ag120 ty_sz120 ty_int120 ty_ifc120 ty_bool120 ty_arr120 ty_pl120 ty_z120 ty_ag121 ty_sz121 ty_int121 ty_ifc121 ty_bool121 ty_arr121 ty_pl121 ty_ag122 ty_sz122 ty_int122 ty_ifc122 ty_bool122 ty_z122 Tryd.underlying122 ty_ag123 ty_sz123 ty_int123 ty_ifc123 ty_bool123 ty_z123 Tryd.underlying123 ty_ag124 ty_sz124 ty_int124 ty_ifc124 ty_bool124 ty_z124 Tryd.underlying124 ty_ag125 ty_sz125 ty_int125 ty_ifc125 ty_bool125 ty_arr125 ty_pl125 ty_z125 ty_ag126 ty_sz126 ty_int126 ty_ifc126 ty_bool126 ty_arr126 ty_pl126 ty_z126 ty_ag127 ty_sz127 ty_int127 ty_ifc127 ty_bool127 ty_z127 Tryd.underlying127 ty_ag128 ty_sz128 ty_int128 ty_ifc128 ty_bool128 ty_f128_0 ty_f128_1 ty_f128_2 ty_f128_3 ty_pl128 ty_z128 Tryd.underlying128 ty_ag129 ty_sz129 ty_int129 ty_ifc129 ty_bool129 ty_f129_0 ty_f129_1 ty_f129_2 ty_f129_3 ty_pl129 ty_z129 Tryd.underlying129 ty_ag130 ty_sz130 ty_int130 ty_ifc130 ty_bool130 ty_arr130 ty_pl130 ty_z130 ty_ag131 ty_sz131 ty_int131 ty_ifc131 ty_bool131 ty_pl131 ty_z131 Tryd.underlying131 ty_ag132 ty_sz132 ty_int132 ty_ifc132 ty_bool132 ty_pl132 ty_z132 Tryd.underlying132 ty_ag133 ty_sz133 ty_int133 ty_ifc133 ty_bool133 ty_z133 Tryd.underlying133 ty_ag134 ty_sz134 ty_int134 ty_ifc134 ty_bool134 ty_z134 Tryd.underlying134 ty_ag135 ty_sz135 ty_int135 ty_ifc135 ty_m135_0 ty_k135_0 ty_bool135 ty_z135 Tryd.underlying135 ty_ag136 ty_sz136 ty_int136 ty_ifc136 ty_bool136 ty_z136 Tryd.underlying136 ty_ag137 ty_sz137 ty_int137 ty_ifc137 ty_bool137 ty_z137 Tryd.underlying137 ty_ag138 ty_sz138 ty_int138 ty_ifc138 ty_bool138 ty_z138 Tryd.underlying138 ty_ag139 ty_sz139 ty_int139 ty_ifc139 ty_bool139 ty_z139 Tryd.underlying139 ty_ag140 ty_sz140 ty_int140 ty_ifc140 ty_bool140 ty_f140_0 ty_f140_1 ty_f140_2 ty_f140_3 ty_f140_4 ty_f140_5 ty_f140_6 ty_f140_7 ty_f140_8 ty_f140_9 ty_f140_10 ty_pl140 ty_z140 Tryd.underlying140 ty_ag141 ty_sz141 ty_int141 ty_ifc141 ty_bool141 ty_f141_0 ty_f141_1 ty_f141_2 ty_f141_3 ty_f141_4 ty_f141_5 ty_f141_6 ty_f141_7 ty_f141_8 ty_f141_9 ty_f141_10 ty_pl141 ty_z141 Tryd.underlying141 Tryd.params2 fok2 Tryd.func2 Tryd.params3 fok3 Tryd.func3 Tryd.params4 fok4 Tryd.func4 Tryd.params5 fok5 Tryd.func5 Tryd.params6 fok6 Tryd.func6 Tryd.params7 fok7 Tryd.func7 Tryd.params8 fok8 Tryd.func8 Tryd.params9 fok9 Tryd.func9 Tryd.params10 fok10 Tryd.func10 Tryd.params11 fok11 Tryd.func11 Tryd.params12 fok12 Tryd.func12 Tryd.params13 fok13 Tryd.func13 Tryd.params14 fok14 Tryd.func14 Tryd.params15 fok15 Tryd.func15 Tryd.params16 fok16 Tryd.func16 Tryd.params17 fok17 Tryd.func17 Tryd.params18 fok18 Tryd.func18 Tryd.params19 fok19 Tryd.func19 Tryd.params20 fok20 Tryd.func20 Tryd.params21 fok21 Tryd.func21 Tryd.params22 fok22 Tryd.func22 Tryd.params23 fok23 Tryd.func23 Tryd.params24 fok24 Tryd.func24 Tryd.params25 fok25 Tryd.func25 Tryd.params26 fok26 Tryd.func26 Tryd.params27 fok27 Tryd.func27 Tryd.params28 fok28 Tryd.func28 Tryd.params29 fok29 Tryd.func29 Tryd.params30 fok30 Tryd.func30 Tryd.params31 fok31 Tryd.func31 Tryd.params32 fok32 Tryd.func32 Tryd.params33 fok33 Tryd.func33 Tryd.params34 fok34 Tryd.func34 Tryd.params35 fok35 Tryd.func35 Tryd.params36 fok36 Tryd.func36 Tryd.params37 fok37 Tryd.func37 Tryd.params38 fok38 Tryd.func38 Tryd.params39 fok39 Tryd.func39 Tryd.params40 fok40 Tryd.func40 Tryd.params41 fok41 Tryd.func41 Tryd.params42 fok42 Tryd.func42 Tryd.params43 fok43 Tryd.func43 Tryd.params44 fok44 Tryd.func44 Tryd.params45 fok45 Tryd.func45 Tryd.params46 fok46 Tryd.func46 Tryd.params47 fok47 Tryd.func47 Tryd.params48 fok48 Tryd.func48 Tryd.params49 fok49 Tryd.func49 Tryd.params50 fok50 Tryd.func50 Tryd.params51 fok51 Tryd.func51 Tryd.params52 fok52 Tryd.func52 Tryd.params53 fok53 Tryd.func53 Tryd.params54 fok54 Tryd.func54 Tryd.params55 fok55 Tryd.func55 Tryd.params56 fok56 Tryd.func56 Tryd.params57 fok57 Tryd.func57 Tryd.params58 fok58 Tryd.func58 Tryd.params59 fok59 Tryd.func59 Tryd.params60 fok60 Tryd.func60 Tryd.params61 fok61 Tryd.func61 Tryd.params62 fok62 Tryd.func62 Tryd.params63 fok63 Tryd.func63 Tryd.params64 fok64 Tryd.func64 Tryd.params65 fok65 Tryd.func65 Tryd.params66 fok66 Tryd.func66 Tryd.params67 fok67 Tryd.func67 Tryd.params68 fok68 Tryd.func68 Tryd.params69 fok69 Tryd.func69 Tryd.params70 fok70 Tryd.func70 Tryd.params71 fok71 Tryd.func71 Tryd.params72 fok72 Tryd.func72 Tryd.params73 fok73 Tryd.func73 Tryd.params74 fok74 Tryd.func74 Tryd.params75 fok75 Tryd.func75 Tryd.params76 fok76 Tryd.func76 Tryd.params77 fok77 Tryd.func77 Tryd.params78 fok78 Tryd.func78 Tryd.params79 fok79 Tryd.func79 Tryd.params80 fok80 Tryd.func80 Tryd.params81 fok81 Tryd.func81 Tryd.params82 fok82 Tryd.func82 Tryd.params83 fok83 Tryd.func83 Tryd.params84 fok84 Tryd.func84 Tryd.params85 fok85 Tryd.func85 Tryd.params86 fok86 Tryd.func86 Tryd.params87 fok87 Tryd.func87 Tryd.params88 fok88 Tryd.func88 Tryd.params89 fok89 Tryd.func89 Tryd.params90 fok90 Tryd.func90 Tryd.params91 fok91 Tryd.func91 Tryd.params92 fok92 Tryd.func92 Tryd.params93 fok93 Tryd.func93 Tryd.params94 fok94 Tryd.func94 Tryd.params95 fok95 Tryd.func95 Tryd.params96 fok96 Tryd.func96 Tryd.params97 fok97 Tryd.func97 Tryd.params98 fok98 Tryd.func98 Tryd.params99 fok99 Tryd.func99 Tryd.params100 fok100 Tryd.func100 Tryd.params101 fok101 Tryd.func101 Tryd.params102 fok102 Tryd.func102 Tryd.params103 fok103 Tryd.func103 Tryd.params104 fok104 Tryd.func104 Tryd.params105 fok105 Tryd.func105 Tryd.params106 fok106 Tryd.func106 Tryd.params107 fok107 Tryd.func107 Tryd.params108 fok108 Tryd.func108 Tryd.params130 fok130 Tryd.func130

end Go.Proofs.YtpdbekbobkjfgaaDoor

