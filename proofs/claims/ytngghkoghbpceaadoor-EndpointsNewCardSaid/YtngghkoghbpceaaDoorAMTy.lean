/-
  The types of this seat, as the abstract view asks for them.
  Conditions: none.
-/
import Derived.Test.YtngghkoghbpceaaDoorProg
import Derived.Test.YtngghkoghbpceaaDoorKC2
import Derived.KernelRfl
namespace Go.Proofs.YtngghkoghbpceaaDoor
set_option linter.unusedVariables false

theorem ty_ag1 : aggT Tryd.prog 1 = some false := by kernel_rfl
theorem ty_sz1 : szT Tryd.prog 1 = some 1 := by kernel_rfl
theorem ty_int1 : intT Tryd.prog 1 = none := by kernel_rfl
theorem ty_ifc1 : ifaceT Tryd.prog 1 = false := by kernel_rfl
theorem ty_bool1 : boolT Tryd.prog 1 = false := by kernel_rfl
theorem ty_z1 : zeroT Tryd.prog 1 = some [.nilFunc] := by kernel_rfl
theorem ty_ag2 : aggT Tryd.prog 2 = some false := by kernel_rfl
theorem ty_sz2 : szT Tryd.prog 2 = some 1 := by kernel_rfl
theorem ty_int2 : intT Tryd.prog 2 = some .i64 := by kernel_rfl
theorem ty_ifc2 : ifaceT Tryd.prog 2 = false := by kernel_rfl
theorem ty_bool2 : boolT Tryd.prog 2 = false := by kernel_rfl
theorem ty_z2 : zeroT Tryd.prog 2 = some [.int .i64 (0)] := by kernel_rfl
theorem ty_ag3 : aggT Tryd.prog 3 = some false := by kernel_rfl
theorem ty_sz3 : szT Tryd.prog 3 = some 1 := by kernel_rfl
theorem ty_int3 : intT Tryd.prog 3 = some .i64 := by kernel_rfl
theorem ty_ifc3 : ifaceT Tryd.prog 3 = false := by kernel_rfl
theorem ty_bool3 : boolT Tryd.prog 3 = false := by kernel_rfl
theorem ty_z3 : zeroT Tryd.prog 3 = some [.int .i64 (0)] := by kernel_rfl
theorem ty_ag4 : aggT Tryd.prog 4 = some false := by kernel_rfl
theorem ty_sz4 : szT Tryd.prog 4 = some 1 := by kernel_rfl
theorem ty_int4 : intT Tryd.prog 4 = none := by kernel_rfl
theorem ty_ifc4 : ifaceT Tryd.prog 4 = false := by kernel_rfl
theorem ty_bool4 : boolT Tryd.prog 4 = true := by kernel_rfl
theorem ty_z4 : zeroT Tryd.prog 4 = some [.bool false] := by kernel_rfl
theorem ty_ag5 : aggT Tryd.prog 5 = some false := by kernel_rfl
theorem ty_sz5 : szT Tryd.prog 5 = some 1 := by kernel_rfl
theorem ty_int5 : intT Tryd.prog 5 = some .u8 := by kernel_rfl
theorem ty_ifc5 : ifaceT Tryd.prog 5 = false := by kernel_rfl
theorem ty_bool5 : boolT Tryd.prog 5 = false := by kernel_rfl
theorem ty_z5 : zeroT Tryd.prog 5 = some [.int .u8 (0)] := by kernel_rfl
theorem ty_ag6 : aggT Tryd.prog 6 = some false := by kernel_rfl
theorem ty_sz6 : szT Tryd.prog 6 = some 1 := by kernel_rfl
theorem ty_int6 : intT Tryd.prog 6 = some .u8 := by kernel_rfl
theorem ty_ifc6 : ifaceT Tryd.prog 6 = false := by kernel_rfl
theorem ty_bool6 : boolT Tryd.prog 6 = false := by kernel_rfl
theorem ty_z6 : zeroT Tryd.prog 6 = some [.int .u8 (0)] := by kernel_rfl
theorem ty_ag7 : aggT Tryd.prog 7 = some true := by kernel_rfl
theorem ty_sz7 : szT Tryd.prog 7 = some 4 := by kernel_rfl
theorem ty_int7 : intT Tryd.prog 7 = none := by kernel_rfl
theorem ty_eq7 : eqT Tryd.prog 7 = some [true, true, false, true] := by kernel_rfl
theorem ty_ifc7 : ifaceT Tryd.prog 7 = false := by kernel_rfl
theorem ty_bool7 : boolT Tryd.prog 7 = false := by kernel_rfl
theorem ty_f7_0 : fieldT Tryd.prog 7 0 = some (0, 1, false) := by kernel_rfl
theorem ty_f7_1 : fieldT Tryd.prog 7 1 = some (1, 1, false) := by kernel_rfl
theorem ty_f7_2 : fieldT Tryd.prog 7 2 = some (2, 1, false) := by kernel_rfl
theorem ty_f7_3 : fieldT Tryd.prog 7 3 = some (3, 1, false) := by kernel_rfl
theorem ty_pl7 : placeT Tryd.prog 7 = some (fun i => #[(0, 1), (1, 1), (2, 1), (3, 1)][i]?) := by kernel_rfl
theorem ty_z7 : zeroT Tryd.prog 7 = some [.int .i64 (0), .int .i64 (0), .bool false, .int .u8 (0)] := by kernel_rfl
theorem ty_ag8 : aggT Tryd.prog 8 = some true := by kernel_rfl
theorem ty_sz8 : szT Tryd.prog 8 = some 4 := by kernel_rfl
theorem ty_int8 : intT Tryd.prog 8 = none := by kernel_rfl
theorem ty_eq8 : eqT Tryd.prog 8 = some [true, true, false, true] := by kernel_rfl
theorem ty_ifc8 : ifaceT Tryd.prog 8 = false := by kernel_rfl
theorem ty_m8_0 : methA Tryd.prog 8 "Error" = some 208 := by kernel_rfl
theorem ty_k8_0 : nilOk Tryd.prog 8 "Error" = true := by kernel_rfl
theorem ty_m8_1 : methA Tryd.prog 8 "RuntimeError" = some 209 := by kernel_rfl
theorem ty_k8_1 : nilOk Tryd.prog 8 "RuntimeError" = true := by kernel_rfl
theorem ty_bool8 : boolT Tryd.prog 8 = false := by kernel_rfl
theorem ty_f8_0 : fieldT Tryd.prog 8 0 = some (0, 1, false) := by kernel_rfl
theorem ty_f8_1 : fieldT Tryd.prog 8 1 = some (1, 1, false) := by kernel_rfl
theorem ty_f8_2 : fieldT Tryd.prog 8 2 = some (2, 1, false) := by kernel_rfl
theorem ty_f8_3 : fieldT Tryd.prog 8 3 = some (3, 1, false) := by kernel_rfl
theorem ty_pl8 : placeT Tryd.prog 8 = some (fun i => #[(0, 1), (1, 1), (2, 1), (3, 1)][i]?) := by kernel_rfl
theorem ty_z8 : zeroT Tryd.prog 8 = some [.int .i64 (0), .int .i64 (0), .bool false, .int .u8 (0)] := by kernel_rfl
theorem ty_ag9 : aggT Tryd.prog 9 = some false := by kernel_rfl
theorem ty_sz9 : szT Tryd.prog 9 = some 1 := by kernel_rfl
theorem ty_int9 : intT Tryd.prog 9 = none := by kernel_rfl
theorem ty_ifc9 : ifaceT Tryd.prog 9 = false := by kernel_rfl
theorem ty_bool9 : boolT Tryd.prog 9 = false := by kernel_rfl
theorem ty_z9 : zeroT Tryd.prog 9 = some [.string ⟨#[]⟩] := by kernel_rfl
theorem ty_ag10 : aggT Tryd.prog 10 = some false := by kernel_rfl
theorem ty_sz10 : szT Tryd.prog 10 = some 1 := by kernel_rfl
theorem ty_int10 : intT Tryd.prog 10 = none := by kernel_rfl
theorem ty_ifc10 : ifaceT Tryd.prog 10 = false := by kernel_rfl
theorem ty_m10_0 : methA Tryd.prog 10 "Error" = some 210 := by kernel_rfl
theorem ty_k10_0 : nilOk Tryd.prog 10 "Error" = true := by kernel_rfl
theorem ty_m10_1 : methA Tryd.prog 10 "RuntimeError" = some 211 := by kernel_rfl
theorem ty_k10_1 : nilOk Tryd.prog 10 "RuntimeError" = true := by kernel_rfl
theorem ty_bool10 : boolT Tryd.prog 10 = false := by kernel_rfl
theorem ty_z10 : zeroT Tryd.prog 10 = some [.string ⟨#[]⟩] := by kernel_rfl
theorem ty_ag11 : aggT Tryd.prog 11 = some false := by kernel_rfl
theorem ty_sz11 : szT Tryd.prog 11 = some 1 := by kernel_rfl
theorem ty_int11 : intT Tryd.prog 11 = none := by kernel_rfl
theorem ty_ifc11 : ifaceT Tryd.prog 11 = false := by kernel_rfl
theorem ty_m11_0 : methA Tryd.prog 11 "Error" = some 212 := by kernel_rfl
theorem ty_k11_0 : nilOk Tryd.prog 11 "Error" = true := by kernel_rfl
theorem ty_m11_1 : methA Tryd.prog 11 "RuntimeError" = some 213 := by kernel_rfl
theorem ty_k11_1 : nilOk Tryd.prog 11 "RuntimeError" = true := by kernel_rfl
theorem ty_bool11 : boolT Tryd.prog 11 = false := by kernel_rfl
theorem ty_z11 : zeroT Tryd.prog 11 = some [.string ⟨#[]⟩] := by kernel_rfl
theorem ty_ag12 : aggT Tryd.prog 12 = some false := by kernel_rfl
theorem ty_sz12 : szT Tryd.prog 12 = some 1 := by kernel_rfl
theorem ty_int12 : intT Tryd.prog 12 = some .u64 := by kernel_rfl
theorem ty_ifc12 : ifaceT Tryd.prog 12 = false := by kernel_rfl
theorem ty_bool12 : boolT Tryd.prog 12 = false := by kernel_rfl
theorem ty_z12 : zeroT Tryd.prog 12 = some [.int .u64 (0)] := by kernel_rfl
theorem ty_ag13 : aggT Tryd.prog 13 = some true := by kernel_rfl
theorem ty_sz13 : szT Tryd.prog 13 = some 2 := by kernel_rfl
theorem ty_int13 : intT Tryd.prog 13 = none := by kernel_rfl
theorem ty_ifc13 : ifaceT Tryd.prog 13 = false := by kernel_rfl
theorem ty_bool13 : boolT Tryd.prog 13 = false := by kernel_rfl
theorem ty_f13_0 : fieldT Tryd.prog 13 0 = some (0, 1, false) := by kernel_rfl
theorem ty_f13_1 : fieldT Tryd.prog 13 1 = some (1, 1, false) := by kernel_rfl
theorem ty_pl13 : placeT Tryd.prog 13 = some (fun i => #[(0, 1), (1, 1)][i]?) := by kernel_rfl
theorem ty_z13 : zeroT Tryd.prog 13 = some [.string ⟨#[]⟩, .int .u64 (0)] := by kernel_rfl
theorem ty_ag14 : aggT Tryd.prog 14 = some true := by kernel_rfl
theorem ty_sz14 : szT Tryd.prog 14 = some 2 := by kernel_rfl
theorem ty_int14 : intT Tryd.prog 14 = none := by kernel_rfl
theorem ty_ifc14 : ifaceT Tryd.prog 14 = false := by kernel_rfl
theorem ty_m14_0 : methA Tryd.prog 14 "Error" = some 214 := by kernel_rfl
theorem ty_k14_0 : nilOk Tryd.prog 14 "Error" = true := by kernel_rfl
theorem ty_m14_1 : methA Tryd.prog 14 "RuntimeError" = some 215 := by kernel_rfl
theorem ty_k14_1 : nilOk Tryd.prog 14 "RuntimeError" = true := by kernel_rfl
theorem ty_bool14 : boolT Tryd.prog 14 = false := by kernel_rfl
theorem ty_f14_0 : fieldT Tryd.prog 14 0 = some (0, 1, false) := by kernel_rfl
theorem ty_f14_1 : fieldT Tryd.prog 14 1 = some (1, 1, false) := by kernel_rfl
theorem ty_pl14 : placeT Tryd.prog 14 = some (fun i => #[(0, 1), (1, 1)][i]?) := by kernel_rfl
theorem ty_z14 : zeroT Tryd.prog 14 = some [.string ⟨#[]⟩, .int .u64 (0)] := by kernel_rfl
theorem ty_ag15 : aggT Tryd.prog 15 = some false := by kernel_rfl
theorem ty_sz15 : szT Tryd.prog 15 = some 1 := by kernel_rfl
theorem ty_int15 : intT Tryd.prog 15 = none := by kernel_rfl
theorem ty_ifc15 : ifaceT Tryd.prog 15 = false := by kernel_rfl
theorem ty_m15_0 : methA Tryd.prog 15 "Error" = some 216 := by kernel_rfl
theorem ty_k15_0 : nilOk Tryd.prog 15 "Error" = true := by kernel_rfl
theorem ty_m15_1 : methA Tryd.prog 15 "RuntimeError" = some 217 := by kernel_rfl
theorem ty_k15_1 : nilOk Tryd.prog 15 "RuntimeError" = true := by kernel_rfl
theorem ty_bool15 : boolT Tryd.prog 15 = false := by kernel_rfl
theorem ty_z15 : zeroT Tryd.prog 15 = some [.pointer none] := by kernel_rfl
theorem ty_ag16 : aggT Tryd.prog 16 = some false := by kernel_rfl
theorem ty_sz16 : szT Tryd.prog 16 = some 1 := by kernel_rfl
theorem ty_int16 : intT Tryd.prog 16 = none := by kernel_rfl
theorem ty_ifc16 : ifaceT Tryd.prog 16 = false := by kernel_rfl
theorem ty_m16_0 : methA Tryd.prog 16 "Error" = some 218 := by kernel_rfl
theorem ty_k16_0 : nilOk Tryd.prog 16 "Error" = true := by kernel_rfl
theorem ty_m16_1 : methA Tryd.prog 16 "RuntimeError" = some 219 := by kernel_rfl
theorem ty_k16_1 : nilOk Tryd.prog 16 "RuntimeError" = true := by kernel_rfl
theorem ty_bool16 : boolT Tryd.prog 16 = false := by kernel_rfl
theorem ty_z16 : zeroT Tryd.prog 16 = some [.pointer none] := by kernel_rfl
theorem ty_ag17 : aggT Tryd.prog 17 = some false := by kernel_rfl
theorem ty_sz17 : szT Tryd.prog 17 = some 1 := by kernel_rfl
theorem ty_int17 : intT Tryd.prog 17 = none := by kernel_rfl
theorem ty_ifc17 : ifaceT Tryd.prog 17 = false := by kernel_rfl
theorem ty_m17_0 : methA Tryd.prog 17 "Align" = some 220 := by kernel_rfl
theorem ty_k17_0 : nilOk Tryd.prog 17 "Align" = true := by kernel_rfl
theorem ty_bool17 : boolT Tryd.prog 17 = false := by kernel_rfl
theorem ty_z17 : zeroT Tryd.prog 17 = some [.pointer none] := by kernel_rfl
theorem ty_ag18 : aggT Tryd.prog 18 = some true := by kernel_rfl
theorem ty_sz18 : szT Tryd.prog 18 = some 1 := by kernel_rfl
theorem ty_int18 : intT Tryd.prog 18 = none := by kernel_rfl
theorem ty_ifc18 : ifaceT Tryd.prog 18 = false := by kernel_rfl
theorem ty_bool18 : boolT Tryd.prog 18 = false := by kernel_rfl
theorem ty_f18_0 : fieldT Tryd.prog 18 0 = some (0, 1, false) := by kernel_rfl
theorem ty_pl18 : placeT Tryd.prog 18 = some (fun i => #[(0, 1)][i]?) := by kernel_rfl
theorem ty_z18 : zeroT Tryd.prog 18 = some [.pointer none] := by kernel_rfl
theorem ty_ag19 : aggT Tryd.prog 19 = some true := by kernel_rfl
theorem ty_sz19 : szT Tryd.prog 19 = some 1 := by kernel_rfl
theorem ty_int19 : intT Tryd.prog 19 = none := by kernel_rfl
theorem ty_ifc19 : ifaceT Tryd.prog 19 = false := by kernel_rfl
theorem ty_m19_0 : methA Tryd.prog 19 "Error" = some 221 := by kernel_rfl
theorem ty_k19_0 : nilOk Tryd.prog 19 "Error" = true := by kernel_rfl
theorem ty_m19_1 : methA Tryd.prog 19 "RuntimeError" = some 222 := by kernel_rfl
theorem ty_k19_1 : nilOk Tryd.prog 19 "RuntimeError" = true := by kernel_rfl
theorem ty_bool19 : boolT Tryd.prog 19 = false := by kernel_rfl
theorem ty_f19_0 : fieldT Tryd.prog 19 0 = some (0, 1, false) := by kernel_rfl
theorem ty_pl19 : placeT Tryd.prog 19 = some (fun i => #[(0, 1)][i]?) := by kernel_rfl
theorem ty_z19 : zeroT Tryd.prog 19 = some [.pointer none] := by kernel_rfl
theorem ty_ag20 : aggT Tryd.prog 20 = some false := by kernel_rfl
theorem ty_sz20 : szT Tryd.prog 20 = some 1 := by kernel_rfl
theorem ty_int20 : intT Tryd.prog 20 = none := by kernel_rfl
theorem ty_ifc20 : ifaceT Tryd.prog 20 = true := by kernel_rfl
theorem ty_bool20 : boolT Tryd.prog 20 = false := by kernel_rfl
theorem ty_z20 : zeroT Tryd.prog 20 = some [.nilIface] := by kernel_rfl
theorem ty_ag21 : aggT Tryd.prog 21 = some false := by kernel_rfl
theorem ty_sz21 : szT Tryd.prog 21 = some 1 := by kernel_rfl
theorem ty_int21 : intT Tryd.prog 21 = some .i32 := by kernel_rfl
theorem ty_ifc21 : ifaceT Tryd.prog 21 = false := by kernel_rfl
theorem ty_bool21 : boolT Tryd.prog 21 = false := by kernel_rfl
theorem ty_z21 : zeroT Tryd.prog 21 = some [.int .i32 (0)] := by kernel_rfl
theorem ty_ag22 : aggT Tryd.prog 22 = some false := by kernel_rfl
theorem ty_sz22 : szT Tryd.prog 22 = some 1 := by kernel_rfl
theorem ty_int22 : intT Tryd.prog 22 = some .u8 := by kernel_rfl
theorem ty_ifc22 : ifaceT Tryd.prog 22 = false := by kernel_rfl
theorem ty_bool22 : boolT Tryd.prog 22 = false := by kernel_rfl
theorem ty_z22 : zeroT Tryd.prog 22 = some [.int .u8 (0)] := by kernel_rfl
theorem ty_ag23 : aggT Tryd.prog 23 = some true := by kernel_rfl
theorem ty_sz23 : szT Tryd.prog 23 = some 4 := by kernel_rfl
theorem ty_int23 : intT Tryd.prog 23 = none := by kernel_rfl
theorem ty_eq23 : eqT Tryd.prog 23 = some [true, false, true, true] := by kernel_rfl
theorem ty_ifc23 : ifaceT Tryd.prog 23 = false := by kernel_rfl
theorem ty_bool23 : boolT Tryd.prog 23 = false := by kernel_rfl
theorem ty_f23_0 : fieldT Tryd.prog 23 0 = some (0, 1, false) := by kernel_rfl
theorem ty_f23_1 : fieldT Tryd.prog 23 1 = some (1, 1, false) := by kernel_rfl
theorem ty_f23_2 : fieldT Tryd.prog 23 2 = some (2, 1, false) := by kernel_rfl
theorem ty_f23_3 : fieldT Tryd.prog 23 3 = some (3, 1, false) := by kernel_rfl
theorem ty_pl23 : placeT Tryd.prog 23 = some (fun i => #[(0, 1), (1, 1), (2, 1), (3, 1)][i]?) := by kernel_rfl
theorem ty_z23 : zeroT Tryd.prog 23 = some [.int .u8 (0), .bool false, .int .u8 (0), .int .i64 (0)] := by kernel_rfl
theorem ty_ag24 : aggT Tryd.prog 24 = some true := by kernel_rfl
theorem ty_sz24 : szT Tryd.prog 24 = some 4 := by kernel_rfl
theorem ty_int24 : intT Tryd.prog 24 = none := by kernel_rfl
theorem ty_eq24 : eqT Tryd.prog 24 = some [true, false, true, true] := by kernel_rfl
theorem ty_ifc24 : ifaceT Tryd.prog 24 = false := by kernel_rfl
theorem ty_bool24 : boolT Tryd.prog 24 = false := by kernel_rfl
theorem ty_f24_0 : fieldT Tryd.prog 24 0 = some (0, 1, false) := by kernel_rfl
theorem ty_f24_1 : fieldT Tryd.prog 24 1 = some (1, 1, false) := by kernel_rfl
theorem ty_f24_2 : fieldT Tryd.prog 24 2 = some (2, 1, false) := by kernel_rfl
theorem ty_f24_3 : fieldT Tryd.prog 24 3 = some (3, 1, false) := by kernel_rfl
theorem ty_pl24 : placeT Tryd.prog 24 = some (fun i => #[(0, 1), (1, 1), (2, 1), (3, 1)][i]?) := by kernel_rfl
theorem ty_z24 : zeroT Tryd.prog 24 = some [.int .u8 (0), .bool false, .int .u8 (0), .int .i64 (0)] := by kernel_rfl
theorem ty_ag25 : aggT Tryd.prog 25 = some false := by kernel_rfl
theorem ty_sz25 : szT Tryd.prog 25 = some 1 := by kernel_rfl
theorem ty_int25 : intT Tryd.prog 25 = none := by kernel_rfl
theorem ty_ifc25 : ifaceT Tryd.prog 25 = false := by kernel_rfl
theorem ty_m25_0 : methA Tryd.prog 25 "Clear" = some 19 := by kernel_rfl
theorem ty_k25_0 : nilOk Tryd.prog 25 "Clear" = true := by kernel_rfl
theorem ty_m25_1 : methA Tryd.prog 25 "Config" = some 12 := by kernel_rfl
theorem ty_k25_1 : nilOk Tryd.prog 25 "Config" = true := by kernel_rfl
theorem ty_m25_2 : methA Tryd.prog 25 "Halt" = some 18 := by kernel_rfl
theorem ty_k25_2 : nilOk Tryd.prog 25 "Halt" = true := by kernel_rfl
theorem ty_m25_3 : methA Tryd.prog 25 "Halted" = some 14 := by kernel_rfl
theorem ty_k25_3 : nilOk Tryd.prog 25 "Halted" = true := by kernel_rfl
theorem ty_m25_4 : methA Tryd.prog 25 "Offer" = some 16 := by kernel_rfl
theorem ty_k25_4 : nilOk Tryd.prog 25 "Offer" = true := by kernel_rfl
theorem ty_m25_5 : methA Tryd.prog 25 "Room" = some 17 := by kernel_rfl
theorem ty_k25_5 : nilOk Tryd.prog 25 "Room" = true := by kernel_rfl
theorem ty_m25_6 : methA Tryd.prog 25 "Taken" = some 15 := by kernel_rfl
theorem ty_k25_6 : nilOk Tryd.prog 25 "Taken" = true := by kernel_rfl
theorem ty_m25_7 : methA Tryd.prog 25 "Waiting" = some 13 := by kernel_rfl
theorem ty_k25_7 : nilOk Tryd.prog 25 "Waiting" = true := by kernel_rfl
theorem ty_m25_8 : methA Tryd.prog 25 "plugboard/endpoints.acknowledged" = some 65 := by kernel_rfl
theorem ty_k25_8 : nilOk Tryd.prog 25 "plugboard/endpoints.acknowledged" = true := by kernel_rfl
theorem ty_m25_9 : methA Tryd.prog 25 "plugboard/endpoints.none" = some 58 := by kernel_rfl
theorem ty_k25_9 : nilOk Tryd.prog 25 "plugboard/endpoints.none" = true := by kernel_rfl
theorem ty_m25_10 : methA Tryd.prog 25 "plugboard/endpoints.read" = some 106 := by kernel_rfl
theorem ty_k25_10 : nilOk Tryd.prog 25 "plugboard/endpoints.read" = true := by kernel_rfl
theorem ty_m25_11 : methA Tryd.prog 25 "plugboard/endpoints.take" = some 107 := by kernel_rfl
theorem ty_k25_11 : nilOk Tryd.prog 25 "plugboard/endpoints.take" = true := by kernel_rfl
theorem ty_m25_12 : methA Tryd.prog 25 "plugboard/endpoints.written" = some 64 := by kernel_rfl
theorem ty_k25_12 : nilOk Tryd.prog 25 "plugboard/endpoints.written" = true := by kernel_rfl
theorem ty_bool25 : boolT Tryd.prog 25 = false := by kernel_rfl
theorem ty_z25 : zeroT Tryd.prog 25 = some [.pointer none] := by kernel_rfl
theorem ty_ag26 : aggT Tryd.prog 26 = some false := by kernel_rfl
theorem ty_sz26 : szT Tryd.prog 26 = some 1 := by kernel_rfl
theorem ty_int26 : intT Tryd.prog 26 = some .i64 := by kernel_rfl
theorem ty_ifc26 : ifaceT Tryd.prog 26 = false := by kernel_rfl
theorem ty_bool26 : boolT Tryd.prog 26 = false := by kernel_rfl
theorem ty_z26 : zeroT Tryd.prog 26 = some [.int .i64 (0)] := by kernel_rfl
theorem ty_ag28 : aggT Tryd.prog 28 = some false := by kernel_rfl
theorem ty_sz28 : szT Tryd.prog 28 = some 1 := by kernel_rfl
theorem ty_int28 : intT Tryd.prog 28 = none := by kernel_rfl
theorem ty_ifc28 : ifaceT Tryd.prog 28 = false := by kernel_rfl
theorem ty_bool28 : boolT Tryd.prog 28 = false := by kernel_rfl
theorem ty_z28 : zeroT Tryd.prog 28 = some [.nilFunc] := by kernel_rfl
theorem ty_ag29 : aggT Tryd.prog 29 = some false := by kernel_rfl
theorem ty_sz29 : szT Tryd.prog 29 = some 1 := by kernel_rfl
theorem ty_int29 : intT Tryd.prog 29 = none := by kernel_rfl
theorem ty_ifc29 : ifaceT Tryd.prog 29 = false := by kernel_rfl
theorem ty_bool29 : boolT Tryd.prog 29 = false := by kernel_rfl
theorem ty_z29 : zeroT Tryd.prog 29 = some [.nilFunc] := by kernel_rfl
theorem ty_ag30 : aggT Tryd.prog 30 = some false := by kernel_rfl
theorem ty_sz30 : szT Tryd.prog 30 = some 1 := by kernel_rfl
theorem ty_int30 : intT Tryd.prog 30 = none := by kernel_rfl
theorem ty_ifc30 : ifaceT Tryd.prog 30 = false := by kernel_rfl
theorem ty_bool30 : boolT Tryd.prog 30 = false := by kernel_rfl
theorem ty_z30 : zeroT Tryd.prog 30 = some [.nilFunc] := by kernel_rfl
theorem ty_ag31 : aggT Tryd.prog 31 = some false := by kernel_rfl
theorem ty_sz31 : szT Tryd.prog 31 = some 1 := by kernel_rfl
theorem ty_int31 : intT Tryd.prog 31 = none := by kernel_rfl
theorem ty_ifc31 : ifaceT Tryd.prog 31 = false := by kernel_rfl
theorem ty_bool31 : boolT Tryd.prog 31 = false := by kernel_rfl
theorem ty_z31 : zeroT Tryd.prog 31 = some [.nilFunc] := by kernel_rfl
theorem ty_ag32 : aggT Tryd.prog 32 = some false := by kernel_rfl
theorem ty_sz32 : szT Tryd.prog 32 = some 1 := by kernel_rfl
theorem ty_int32 : intT Tryd.prog 32 = none := by kernel_rfl
theorem ty_ifc32 : ifaceT Tryd.prog 32 = false := by kernel_rfl
theorem ty_bool32 : boolT Tryd.prog 32 = false := by kernel_rfl
theorem ty_elem32 : elemT Tryd.prog 32 = some (55, 1, false) := by kernel_rfl
theorem ty_app32 : appT Tryd.prog 32 = some (55, 1, 24) := by kernel_rfl
theorem ty_z32 : zeroT Tryd.prog 32 = some [.slice none 0 0] := by kernel_rfl
theorem ty_ag33 : aggT Tryd.prog 33 = some false := by kernel_rfl
theorem ty_sz33 : szT Tryd.prog 33 = some 1 := by kernel_rfl
theorem ty_int33 : intT Tryd.prog 33 = none := by kernel_rfl
theorem ty_ifc33 : ifaceT Tryd.prog 33 = false := by kernel_rfl
theorem ty_bool33 : boolT Tryd.prog 33 = false := by kernel_rfl
theorem ty_z33 : zeroT Tryd.prog 33 = some [.nilFunc] := by kernel_rfl
theorem ty_ag34 : aggT Tryd.prog 34 = some false := by kernel_rfl
theorem ty_sz34 : szT Tryd.prog 34 = some 1 := by kernel_rfl
theorem ty_int34 : intT Tryd.prog 34 = none := by kernel_rfl
theorem ty_ifc34 : ifaceT Tryd.prog 34 = false := by kernel_rfl
theorem ty_m34_0 : methA Tryd.prog 34 "Address" = some 21 := by kernel_rfl
theorem ty_k34_0 : nilOk Tryd.prog 34 "Address" = true := by kernel_rfl
theorem ty_m34_1 : methA Tryd.prog 34 "Find" = some 24 := by kernel_rfl
theorem ty_k34_1 : nilOk Tryd.prog 34 "Find" = true := by kernel_rfl
theorem ty_m34_2 : methA Tryd.prog 34 "Hear" = some 20 := by kernel_rfl
theorem ty_k34_2 : nilOk Tryd.prog 34 "Hear" = true := by kernel_rfl
theorem ty_m34_3 : methA Tryd.prog 34 "Use" = some 22 := by kernel_rfl
theorem ty_k34_3 : nilOk Tryd.prog 34 "Use" = true := by kernel_rfl
theorem ty_m34_4 : methA Tryd.prog 34 "Zero" = some 23 := by kernel_rfl
theorem ty_k34_4 : nilOk Tryd.prog 34 "Zero" = true := by kernel_rfl
theorem ty_m34_5 : methA Tryd.prog 34 "plugboard/endpoints.none" = some 61 := by kernel_rfl
theorem ty_k34_5 : nilOk Tryd.prog 34 "plugboard/endpoints.none" = true := by kernel_rfl
theorem ty_m34_6 : methA Tryd.prog 34 "plugboard/endpoints.token" = some 63 := by kernel_rfl
theorem ty_k34_6 : nilOk Tryd.prog 34 "plugboard/endpoints.token" = true := by kernel_rfl
theorem ty_bool34 : boolT Tryd.prog 34 = false := by kernel_rfl
theorem ty_z34 : zeroT Tryd.prog 34 = some [.pointer none] := by kernel_rfl
theorem ty_ag35 : aggT Tryd.prog 35 = some true := by kernel_rfl
theorem ty_sz35 : szT Tryd.prog 35 = some 1 := by kernel_rfl
theorem ty_int35 : intT Tryd.prog 35 = none := by kernel_rfl
theorem ty_ifc35 : ifaceT Tryd.prog 35 = false := by kernel_rfl
theorem ty_bool35 : boolT Tryd.prog 35 = false := by kernel_rfl
theorem ty_f35_0 : fieldT Tryd.prog 35 0 = some (0, 1, false) := by kernel_rfl
theorem ty_pl35 : placeT Tryd.prog 35 = some (fun i => #[(0, 1)][i]?) := by kernel_rfl
theorem ty_z35 : zeroT Tryd.prog 35 = some [.slice none 0 0] := by kernel_rfl
theorem ty_ag36 : aggT Tryd.prog 36 = some true := by kernel_rfl
theorem ty_sz36 : szT Tryd.prog 36 = some 1 := by kernel_rfl
theorem ty_int36 : intT Tryd.prog 36 = none := by kernel_rfl
theorem ty_ifc36 : ifaceT Tryd.prog 36 = false := by kernel_rfl
theorem ty_bool36 : boolT Tryd.prog 36 = false := by kernel_rfl
theorem ty_f36_0 : fieldT Tryd.prog 36 0 = some (0, 1, false) := by kernel_rfl
theorem ty_pl36 : placeT Tryd.prog 36 = some (fun i => #[(0, 1)][i]?) := by kernel_rfl
theorem ty_z36 : zeroT Tryd.prog 36 = some [.slice none 0 0] := by kernel_rfl
theorem ty_ag37 : aggT Tryd.prog 37 = some true := by kernel_rfl
theorem ty_sz37 : szT Tryd.prog 37 = some 2 := by kernel_rfl
theorem ty_int37 : intT Tryd.prog 37 = none := by kernel_rfl
theorem ty_ifc37 : ifaceT Tryd.prog 37 = false := by kernel_rfl
theorem ty_bool37 : boolT Tryd.prog 37 = false := by kernel_rfl
theorem ty_f37_0 : fieldT Tryd.prog 37 0 = some (0, 1, false) := by kernel_rfl
theorem ty_f37_1 : fieldT Tryd.prog 37 1 = some (1, 1, false) := by kernel_rfl
theorem ty_pl37 : placeT Tryd.prog 37 = some (fun i => #[(0, 1), (1, 1)][i]?) := by kernel_rfl
theorem ty_z37 : zeroT Tryd.prog 37 = some [.int .i64 (0), .slice none 0 0] := by kernel_rfl
theorem ty_ag38 : aggT Tryd.prog 38 = some true := by kernel_rfl
theorem ty_sz38 : szT Tryd.prog 38 = some 2 := by kernel_rfl
theorem ty_int38 : intT Tryd.prog 38 = none := by kernel_rfl
theorem ty_ifc38 : ifaceT Tryd.prog 38 = false := by kernel_rfl
theorem ty_bool38 : boolT Tryd.prog 38 = false := by kernel_rfl
theorem ty_f38_0 : fieldT Tryd.prog 38 0 = some (0, 1, false) := by kernel_rfl
theorem ty_f38_1 : fieldT Tryd.prog 38 1 = some (1, 1, false) := by kernel_rfl
theorem ty_pl38 : placeT Tryd.prog 38 = some (fun i => #[(0, 1), (1, 1)][i]?) := by kernel_rfl
theorem ty_z38 : zeroT Tryd.prog 38 = some [.int .i64 (0), .slice none 0 0] := by kernel_rfl
theorem ty_ag39 : aggT Tryd.prog 39 = some true := by kernel_rfl
theorem ty_sz39 : szT Tryd.prog 39 = some 9 := by kernel_rfl
theorem ty_int39 : intT Tryd.prog 39 = none := by kernel_rfl
theorem ty_ifc39 : ifaceT Tryd.prog 39 = false := by kernel_rfl
theorem ty_bool39 : boolT Tryd.prog 39 = false := by kernel_rfl
theorem ty_f39_0 : fieldT Tryd.prog 39 0 = some (0, 1, true) := by kernel_rfl
theorem ty_f39_1 : fieldT Tryd.prog 39 1 = some (1, 2, true) := by kernel_rfl
theorem ty_f39_2 : fieldT Tryd.prog 39 2 = some (3, 4, true) := by kernel_rfl
theorem ty_f39_3 : fieldT Tryd.prog 39 3 = some (7, 1, false) := by kernel_rfl
theorem ty_f39_4 : fieldT Tryd.prog 39 4 = some (8, 1, false) := by kernel_rfl
theorem ty_pl39 : placeT Tryd.prog 39 = some (fun i => #[(0, 1), (1, 2), (3, 4), (7, 1), (8, 1)][i]?) := by kernel_rfl
theorem ty_z39 : zeroT Tryd.prog 39 = some [.slice none 0 0, .int .i64 (0), .slice none 0 0, .int .u8 (0), .bool false, .int .u8 (0), .int .i64 (0), .bool false, .bool false] := by kernel_rfl
theorem ty_ag40 : aggT Tryd.prog 40 = some true := by kernel_rfl
theorem ty_sz40 : szT Tryd.prog 40 = some 9 := by kernel_rfl
theorem ty_int40 : intT Tryd.prog 40 = none := by kernel_rfl
theorem ty_ifc40 : ifaceT Tryd.prog 40 = false := by kernel_rfl
theorem ty_bool40 : boolT Tryd.prog 40 = false := by kernel_rfl
theorem ty_f40_0 : fieldT Tryd.prog 40 0 = some (0, 1, true) := by kernel_rfl
theorem ty_f40_1 : fieldT Tryd.prog 40 1 = some (1, 2, true) := by kernel_rfl
theorem ty_f40_2 : fieldT Tryd.prog 40 2 = some (3, 4, true) := by kernel_rfl
theorem ty_f40_3 : fieldT Tryd.prog 40 3 = some (7, 1, false) := by kernel_rfl
theorem ty_f40_4 : fieldT Tryd.prog 40 4 = some (8, 1, false) := by kernel_rfl
theorem ty_pl40 : placeT Tryd.prog 40 = some (fun i => #[(0, 1), (1, 2), (3, 4), (7, 1), (8, 1)][i]?) := by kernel_rfl
theorem ty_z40 : zeroT Tryd.prog 40 = some [.slice none 0 0, .int .i64 (0), .slice none 0 0, .int .u8 (0), .bool false, .int .u8 (0), .int .i64 (0), .bool false, .bool false] := by kernel_rfl
theorem ty_ag41 : aggT Tryd.prog 41 = some false := by kernel_rfl
theorem ty_sz41 : szT Tryd.prog 41 = some 1 := by kernel_rfl
theorem ty_int41 : intT Tryd.prog 41 = none := by kernel_rfl
theorem ty_ifc41 : ifaceT Tryd.prog 41 = false := by kernel_rfl
theorem ty_bool41 : boolT Tryd.prog 41 = false := by kernel_rfl
theorem ty_z41 : zeroT Tryd.prog 41 = some [.map none] := by kernel_rfl
theorem ty_ag42 : aggT Tryd.prog 42 = some false := by kernel_rfl
theorem ty_sz42 : szT Tryd.prog 42 = some 1 := by kernel_rfl
theorem ty_int42 : intT Tryd.prog 42 = none := by kernel_rfl
theorem ty_ifc42 : ifaceT Tryd.prog 42 = true := by kernel_rfl
theorem ty_bool42 : boolT Tryd.prog 42 = false := by kernel_rfl
theorem ty_z42 : zeroT Tryd.prog 42 = some [.nilIface] := by kernel_rfl
theorem ty_ag43 : aggT Tryd.prog 43 = some false := by kernel_rfl
theorem ty_sz43 : szT Tryd.prog 43 = some 1 := by kernel_rfl
theorem ty_int43 : intT Tryd.prog 43 = none := by kernel_rfl
theorem ty_ifc43 : ifaceT Tryd.prog 43 = true := by kernel_rfl
theorem ty_bool43 : boolT Tryd.prog 43 = false := by kernel_rfl
theorem ty_z43 : zeroT Tryd.prog 43 = some [.nilIface] := by kernel_rfl
theorem ty_ag44 : aggT Tryd.prog 44 = some false := by kernel_rfl
theorem ty_sz44 : szT Tryd.prog 44 = some 1 := by kernel_rfl
theorem ty_int44 : intT Tryd.prog 44 = some .u8 := by kernel_rfl
theorem ty_ifc44 : ifaceT Tryd.prog 44 = false := by kernel_rfl
theorem ty_bool44 : boolT Tryd.prog 44 = false := by kernel_rfl
theorem ty_z44 : zeroT Tryd.prog 44 = some [.int .u8 (0)] := by kernel_rfl
theorem ty_ag45 : aggT Tryd.prog 45 = some true := by kernel_rfl
theorem ty_sz45 : szT Tryd.prog 45 = some 2 := by kernel_rfl
theorem ty_int45 : intT Tryd.prog 45 = none := by kernel_rfl
theorem ty_ifc45 : ifaceT Tryd.prog 45 = false := by kernel_rfl
theorem ty_bool45 : boolT Tryd.prog 45 = false := by kernel_rfl
theorem ty_f45_0 : fieldT Tryd.prog 45 0 = some (0, 1, false) := by kernel_rfl
theorem ty_f45_1 : fieldT Tryd.prog 45 1 = some (1, 1, false) := by kernel_rfl
theorem ty_pl45 : placeT Tryd.prog 45 = some (fun i => #[(0, 1), (1, 1)][i]?) := by kernel_rfl
theorem ty_z45 : zeroT Tryd.prog 45 = some [.int .u8 (0), .pointer none] := by kernel_rfl
theorem ty_ag46 : aggT Tryd.prog 46 = some true := by kernel_rfl
theorem ty_sz46 : szT Tryd.prog 46 = some 2 := by kernel_rfl
theorem ty_int46 : intT Tryd.prog 46 = none := by kernel_rfl
theorem ty_ifc46 : ifaceT Tryd.prog 46 = false := by kernel_rfl
theorem ty_bool46 : boolT Tryd.prog 46 = false := by kernel_rfl
theorem ty_f46_0 : fieldT Tryd.prog 46 0 = some (0, 1, false) := by kernel_rfl
theorem ty_f46_1 : fieldT Tryd.prog 46 1 = some (1, 1, false) := by kernel_rfl
theorem ty_pl46 : placeT Tryd.prog 46 = some (fun i => #[(0, 1), (1, 1)][i]?) := by kernel_rfl
theorem ty_z46 : zeroT Tryd.prog 46 = some [.int .u8 (0), .pointer none] := by kernel_rfl
theorem ty_ag47 : aggT Tryd.prog 47 = some true := by kernel_rfl
theorem ty_sz47 : szT Tryd.prog 47 = some 6 := by kernel_rfl
theorem ty_int47 : intT Tryd.prog 47 = none := by kernel_rfl
theorem ty_ifc47 : ifaceT Tryd.prog 47 = false := by kernel_rfl
theorem ty_bool47 : boolT Tryd.prog 47 = false := by kernel_rfl
theorem ty_f47_0 : fieldT Tryd.prog 47 0 = some (0, 1, false) := by kernel_rfl
theorem ty_f47_1 : fieldT Tryd.prog 47 1 = some (1, 1, false) := by kernel_rfl
theorem ty_f47_2 : fieldT Tryd.prog 47 2 = some (2, 1, false) := by kernel_rfl
theorem ty_f47_3 : fieldT Tryd.prog 47 3 = some (3, 1, false) := by kernel_rfl
theorem ty_f47_4 : fieldT Tryd.prog 47 4 = some (4, 2, true) := by kernel_rfl
theorem ty_pl47 : placeT Tryd.prog 47 = some (fun i => #[(0, 1), (1, 1), (2, 1), (3, 1), (4, 2)][i]?) := by kernel_rfl
theorem ty_z47 : zeroT Tryd.prog 47 = some [.bool false, .int .u8 (0), .map none, .nilIface, .int .u8 (0), .pointer none] := by kernel_rfl
theorem ty_ag48 : aggT Tryd.prog 48 = some true := by kernel_rfl
theorem ty_sz48 : szT Tryd.prog 48 = some 6 := by kernel_rfl
theorem ty_int48 : intT Tryd.prog 48 = none := by kernel_rfl
theorem ty_ifc48 : ifaceT Tryd.prog 48 = false := by kernel_rfl
theorem ty_bool48 : boolT Tryd.prog 48 = false := by kernel_rfl
theorem ty_f48_0 : fieldT Tryd.prog 48 0 = some (0, 1, false) := by kernel_rfl
theorem ty_f48_1 : fieldT Tryd.prog 48 1 = some (1, 1, false) := by kernel_rfl
theorem ty_f48_2 : fieldT Tryd.prog 48 2 = some (2, 1, false) := by kernel_rfl
theorem ty_f48_3 : fieldT Tryd.prog 48 3 = some (3, 1, false) := by kernel_rfl
theorem ty_f48_4 : fieldT Tryd.prog 48 4 = some (4, 2, true) := by kernel_rfl
theorem ty_pl48 : placeT Tryd.prog 48 = some (fun i => #[(0, 1), (1, 1), (2, 1), (3, 1), (4, 2)][i]?) := by kernel_rfl
theorem ty_z48 : zeroT Tryd.prog 48 = some [.bool false, .int .u8 (0), .map none, .nilIface, .int .u8 (0), .pointer none] := by kernel_rfl
theorem ty_ag49 : aggT Tryd.prog 49 = some false := by kernel_rfl
theorem ty_sz49 : szT Tryd.prog 49 = some 1 := by kernel_rfl
theorem ty_int49 : intT Tryd.prog 49 = none := by kernel_rfl
theorem ty_ifc49 : ifaceT Tryd.prog 49 = false := by kernel_rfl
theorem ty_bool49 : boolT Tryd.prog 49 = false := by kernel_rfl
theorem ty_z49 : zeroT Tryd.prog 49 = some [.nilFunc] := by kernel_rfl
theorem ty_ag50 : aggT Tryd.prog 50 = some false := by kernel_rfl
theorem ty_sz50 : szT Tryd.prog 50 = some 1 := by kernel_rfl
theorem ty_int50 : intT Tryd.prog 50 = none := by kernel_rfl
theorem ty_ifc50 : ifaceT Tryd.prog 50 = false := by kernel_rfl
theorem ty_bool50 : boolT Tryd.prog 50 = false := by kernel_rfl
theorem ty_z50 : zeroT Tryd.prog 50 = some [.nilFunc] := by kernel_rfl
theorem ty_ag51 : aggT Tryd.prog 51 = some false := by kernel_rfl
theorem ty_sz51 : szT Tryd.prog 51 = some 1 := by kernel_rfl
theorem ty_int51 : intT Tryd.prog 51 = none := by kernel_rfl
theorem ty_ifc51 : ifaceT Tryd.prog 51 = false := by kernel_rfl
theorem ty_bool51 : boolT Tryd.prog 51 = false := by kernel_rfl
theorem ty_z51 : zeroT Tryd.prog 51 = some [.nilFunc] := by kernel_rfl
theorem ty_ag52 : aggT Tryd.prog 52 = some false := by kernel_rfl
theorem ty_sz52 : szT Tryd.prog 52 = some 1 := by kernel_rfl
theorem ty_int52 : intT Tryd.prog 52 = some .u16 := by kernel_rfl
theorem ty_ifc52 : ifaceT Tryd.prog 52 = false := by kernel_rfl
theorem ty_bool52 : boolT Tryd.prog 52 = false := by kernel_rfl
theorem ty_z52 : zeroT Tryd.prog 52 = some [.int .u16 (0)] := by kernel_rfl
theorem ty_ag53 : aggT Tryd.prog 53 = some true := by kernel_rfl
theorem ty_sz53 : szT Tryd.prog 53 = some 5 := by kernel_rfl
theorem ty_int53 : intT Tryd.prog 53 = none := by kernel_rfl
theorem ty_eq53 : eqT Tryd.prog 53 = some [true, true, false, false, true] := by kernel_rfl
theorem ty_ifc53 : ifaceT Tryd.prog 53 = false := by kernel_rfl
theorem ty_bool53 : boolT Tryd.prog 53 = false := by kernel_rfl
theorem ty_f53_0 : fieldT Tryd.prog 53 0 = some (0, 1, false) := by kernel_rfl
theorem ty_f53_1 : fieldT Tryd.prog 53 1 = some (1, 1, false) := by kernel_rfl
theorem ty_f53_2 : fieldT Tryd.prog 53 2 = some (2, 1, false) := by kernel_rfl
theorem ty_f53_3 : fieldT Tryd.prog 53 3 = some (3, 1, false) := by kernel_rfl
theorem ty_f53_4 : fieldT Tryd.prog 53 4 = some (4, 1, false) := by kernel_rfl
theorem ty_pl53 : placeT Tryd.prog 53 = some (fun i => #[(0, 1), (1, 1), (2, 1), (3, 1), (4, 1)][i]?) := by kernel_rfl
theorem ty_z53 : zeroT Tryd.prog 53 = some [.int .u8 (0), .int .u8 (0), .bool false, .bool false, .int .u8 (0)] := by kernel_rfl
theorem ty_ag54 : aggT Tryd.prog 54 = some true := by kernel_rfl
theorem ty_sz54 : szT Tryd.prog 54 = some 5 := by kernel_rfl
theorem ty_int54 : intT Tryd.prog 54 = none := by kernel_rfl
theorem ty_eq54 : eqT Tryd.prog 54 = some [true, true, false, false, true] := by kernel_rfl
theorem ty_ifc54 : ifaceT Tryd.prog 54 = false := by kernel_rfl
theorem ty_bool54 : boolT Tryd.prog 54 = false := by kernel_rfl
theorem ty_f54_0 : fieldT Tryd.prog 54 0 = some (0, 1, false) := by kernel_rfl
theorem ty_f54_1 : fieldT Tryd.prog 54 1 = some (1, 1, false) := by kernel_rfl
theorem ty_f54_2 : fieldT Tryd.prog 54 2 = some (2, 1, false) := by kernel_rfl
theorem ty_f54_3 : fieldT Tryd.prog 54 3 = some (3, 1, false) := by kernel_rfl
theorem ty_f54_4 : fieldT Tryd.prog 54 4 = some (4, 1, false) := by kernel_rfl
theorem ty_pl54 : placeT Tryd.prog 54 = some (fun i => #[(0, 1), (1, 1), (2, 1), (3, 1), (4, 1)][i]?) := by kernel_rfl
theorem ty_z54 : zeroT Tryd.prog 54 = some [.int .u8 (0), .int .u8 (0), .bool false, .bool false, .int .u8 (0)] := by kernel_rfl
theorem ty_ag55 : aggT Tryd.prog 55 = some false := by kernel_rfl
theorem ty_sz55 : szT Tryd.prog 55 = some 1 := by kernel_rfl
theorem ty_int55 : intT Tryd.prog 55 = none := by kernel_rfl
theorem ty_ifc55 : ifaceT Tryd.prog 55 = false := by kernel_rfl
theorem ty_bool55 : boolT Tryd.prog 55 = false := by kernel_rfl
theorem ty_elem55 : elemT Tryd.prog 55 = some (5, 1, false) := by kernel_rfl
theorem ty_app55 : appT Tryd.prog 55 = some (5, 1, 1) := by kernel_rfl
theorem ty_z55 : zeroT Tryd.prog 55 = some [.slice none 0 0] := by kernel_rfl
theorem ty_ag56 : aggT Tryd.prog 56 = some true := by kernel_rfl
theorem ty_sz56 : szT Tryd.prog 56 = some 10 := by kernel_rfl
theorem ty_int56 : intT Tryd.prog 56 = none := by kernel_rfl
theorem ty_ifc56 : ifaceT Tryd.prog 56 = false := by kernel_rfl
theorem ty_bool56 : boolT Tryd.prog 56 = false := by kernel_rfl
theorem ty_f56_0 : fieldT Tryd.prog 56 0 = some (0, 1, false) := by kernel_rfl
theorem ty_f56_1 : fieldT Tryd.prog 56 1 = some (1, 1, false) := by kernel_rfl
theorem ty_f56_2 : fieldT Tryd.prog 56 2 = some (2, 1, false) := by kernel_rfl
theorem ty_f56_3 : fieldT Tryd.prog 56 3 = some (3, 1, false) := by kernel_rfl
theorem ty_f56_4 : fieldT Tryd.prog 56 4 = some (4, 5, true) := by kernel_rfl
theorem ty_f56_5 : fieldT Tryd.prog 56 5 = some (9, 1, false) := by kernel_rfl
theorem ty_pl56 : placeT Tryd.prog 56 = some (fun i => #[(0, 1), (1, 1), (2, 1), (3, 1), (4, 5), (9, 1)][i]?) := by kernel_rfl
theorem ty_z56 : zeroT Tryd.prog 56 = some [.int .u8 (0), .int .u8 (0), .int .u8 (0), .int .u16 (0), .int .u8 (0), .int .u8 (0), .bool false, .bool false, .int .u8 (0), .slice none 0 0] := by kernel_rfl
theorem ty_ag57 : aggT Tryd.prog 57 = some true := by kernel_rfl
theorem ty_sz57 : szT Tryd.prog 57 = some 10 := by kernel_rfl
theorem ty_int57 : intT Tryd.prog 57 = none := by kernel_rfl
theorem ty_ifc57 : ifaceT Tryd.prog 57 = false := by kernel_rfl
theorem ty_bool57 : boolT Tryd.prog 57 = false := by kernel_rfl
theorem ty_f57_0 : fieldT Tryd.prog 57 0 = some (0, 1, false) := by kernel_rfl
theorem ty_f57_1 : fieldT Tryd.prog 57 1 = some (1, 1, false) := by kernel_rfl
theorem ty_f57_2 : fieldT Tryd.prog 57 2 = some (2, 1, false) := by kernel_rfl
theorem ty_f57_3 : fieldT Tryd.prog 57 3 = some (3, 1, false) := by kernel_rfl
theorem ty_f57_4 : fieldT Tryd.prog 57 4 = some (4, 5, true) := by kernel_rfl
theorem ty_f57_5 : fieldT Tryd.prog 57 5 = some (9, 1, false) := by kernel_rfl
theorem ty_pl57 : placeT Tryd.prog 57 = some (fun i => #[(0, 1), (1, 1), (2, 1), (3, 1), (4, 5), (9, 1)][i]?) := by kernel_rfl
theorem ty_z57 : zeroT Tryd.prog 57 = some [.int .u8 (0), .int .u8 (0), .int .u8 (0), .int .u16 (0), .int .u8 (0), .int .u8 (0), .bool false, .bool false, .int .u8 (0), .slice none 0 0] := by kernel_rfl
theorem ty_ag59 : aggT Tryd.prog 59 = some false := by kernel_rfl
theorem ty_sz59 : szT Tryd.prog 59 = some 1 := by kernel_rfl
theorem ty_int59 : intT Tryd.prog 59 = none := by kernel_rfl
theorem ty_ifc59 : ifaceT Tryd.prog 59 = false := by kernel_rfl
theorem ty_bool59 : boolT Tryd.prog 59 = false := by kernel_rfl
theorem ty_z59 : zeroT Tryd.prog 59 = some [.nilFunc] := by kernel_rfl
theorem ty_ag60 : aggT Tryd.prog 60 = some false := by kernel_rfl
theorem ty_sz60 : szT Tryd.prog 60 = some 1 := by kernel_rfl
theorem ty_int60 : intT Tryd.prog 60 = none := by kernel_rfl
theorem ty_ifc60 : ifaceT Tryd.prog 60 = false := by kernel_rfl
theorem ty_bool60 : boolT Tryd.prog 60 = false := by kernel_rfl
theorem ty_z60 : zeroT Tryd.prog 60 = some [.nilFunc] := by kernel_rfl
theorem ty_ag61 : aggT Tryd.prog 61 = some false := by kernel_rfl
theorem ty_sz61 : szT Tryd.prog 61 = some 1 := by kernel_rfl
theorem ty_int61 : intT Tryd.prog 61 = none := by kernel_rfl
theorem ty_ifc61 : ifaceT Tryd.prog 61 = false := by kernel_rfl
theorem ty_bool61 : boolT Tryd.prog 61 = false := by kernel_rfl
theorem ty_z61 : zeroT Tryd.prog 61 = some [.nilFunc] := by kernel_rfl
theorem ty_ag62 : aggT Tryd.prog 62 = some false := by kernel_rfl
theorem ty_sz62 : szT Tryd.prog 62 = some 1 := by kernel_rfl
theorem ty_int62 : intT Tryd.prog 62 = none := by kernel_rfl
theorem ty_ifc62 : ifaceT Tryd.prog 62 = false := by kernel_rfl
theorem ty_bool62 : boolT Tryd.prog 62 = false := by kernel_rfl
theorem ty_z62 : zeroT Tryd.prog 62 = some [.nilFunc] := by kernel_rfl
theorem ty_ag63 : aggT Tryd.prog 63 = some false := by kernel_rfl
theorem ty_sz63 : szT Tryd.prog 63 = some 1 := by kernel_rfl
theorem ty_int63 : intT Tryd.prog 63 = none := by kernel_rfl
theorem ty_ifc63 : ifaceT Tryd.prog 63 = false := by kernel_rfl
theorem ty_bool63 : boolT Tryd.prog 63 = false := by kernel_rfl
theorem ty_z63 : zeroT Tryd.prog 63 = some [.nilFunc] := by kernel_rfl
theorem ty_ag64 : aggT Tryd.prog 64 = some false := by kernel_rfl
theorem ty_sz64 : szT Tryd.prog 64 = some 1 := by kernel_rfl
theorem ty_int64 : intT Tryd.prog 64 = none := by kernel_rfl
theorem ty_ifc64 : ifaceT Tryd.prog 64 = false := by kernel_rfl
theorem ty_bool64 : boolT Tryd.prog 64 = false := by kernel_rfl
theorem ty_z64 : zeroT Tryd.prog 64 = some [.nilFunc] := by kernel_rfl
theorem ty_ag65 : aggT Tryd.prog 65 = some false := by kernel_rfl
theorem ty_sz65 : szT Tryd.prog 65 = some 1 := by kernel_rfl
theorem ty_int65 : intT Tryd.prog 65 = none := by kernel_rfl
theorem ty_ifc65 : ifaceT Tryd.prog 65 = false := by kernel_rfl
theorem ty_bool65 : boolT Tryd.prog 65 = false := by kernel_rfl
theorem ty_z65 : zeroT Tryd.prog 65 = some [.nilFunc] := by kernel_rfl
theorem ty_ag66 : aggT Tryd.prog 66 = some false := by kernel_rfl
theorem ty_sz66 : szT Tryd.prog 66 = some 1 := by kernel_rfl
theorem ty_int66 : intT Tryd.prog 66 = none := by kernel_rfl
theorem ty_ifc66 : ifaceT Tryd.prog 66 = false := by kernel_rfl
theorem ty_bool66 : boolT Tryd.prog 66 = false := by kernel_rfl
theorem ty_elem66 : elemT Tryd.prog 66 = some (5, 1, false) := by kernel_rfl
theorem ty_app66 : appT Tryd.prog 66 = some (5, 1, 1) := by kernel_rfl
theorem ty_z66 : zeroT Tryd.prog 66 = some [.slice none 0 0] := by kernel_rfl
theorem ty_ag67 : aggT Tryd.prog 67 = some false := by kernel_rfl
theorem ty_sz67 : szT Tryd.prog 67 = some 1 := by kernel_rfl
theorem ty_int67 : intT Tryd.prog 67 = none := by kernel_rfl
theorem ty_ifc67 : ifaceT Tryd.prog 67 = false := by kernel_rfl
theorem ty_bool67 : boolT Tryd.prog 67 = false := by kernel_rfl
theorem ty_z67 : zeroT Tryd.prog 67 = some [.nilFunc] := by kernel_rfl
theorem ty_ag68 : aggT Tryd.prog 68 = some false := by kernel_rfl
theorem ty_sz68 : szT Tryd.prog 68 = some 1 := by kernel_rfl
theorem ty_int68 : intT Tryd.prog 68 = none := by kernel_rfl
theorem ty_ifc68 : ifaceT Tryd.prog 68 = false := by kernel_rfl
theorem ty_bool68 : boolT Tryd.prog 68 = false := by kernel_rfl
theorem ty_elem68 : elemT Tryd.prog 68 = some (25, 1, false) := by kernel_rfl
theorem ty_app68 : appT Tryd.prog 68 = some (25, 1, 8) := by kernel_rfl
theorem ty_z68 : zeroT Tryd.prog 68 = some [.slice none 0 0] := by kernel_rfl
theorem ty_ag70 : aggT Tryd.prog 70 = some false := by kernel_rfl
theorem ty_sz70 : szT Tryd.prog 70 = some 1 := by kernel_rfl
theorem ty_int70 : intT Tryd.prog 70 = none := by kernel_rfl
theorem ty_ifc70 : ifaceT Tryd.prog 70 = false := by kernel_rfl
theorem ty_bool70 : boolT Tryd.prog 70 = false := by kernel_rfl
theorem ty_z70 : zeroT Tryd.prog 70 = some [.nilFunc] := by kernel_rfl
theorem ty_ag71 : aggT Tryd.prog 71 = some false := by kernel_rfl
theorem ty_sz71 : szT Tryd.prog 71 = some 1 := by kernel_rfl
theorem ty_int71 : intT Tryd.prog 71 = none := by kernel_rfl
theorem ty_ifc71 : ifaceT Tryd.prog 71 = false := by kernel_rfl
theorem ty_m71_0 : methA Tryd.prog 71 "Left" = some 223 := by kernel_rfl
theorem ty_k71_0 : nilOk Tryd.prog 71 "Left" = true := by kernel_rfl
theorem ty_m71_1 : methA Tryd.prog 71 "Next" = some 224 := by kernel_rfl
theorem ty_k71_1 : nilOk Tryd.prog 71 "Next" = true := by kernel_rfl
theorem ty_bool71 : boolT Tryd.prog 71 = false := by kernel_rfl
theorem ty_z71 : zeroT Tryd.prog 71 = some [.pointer none] := by kernel_rfl
theorem ty_ag72 : aggT Tryd.prog 72 = some false := by kernel_rfl
theorem ty_sz72 : szT Tryd.prog 72 = some 1 := by kernel_rfl
theorem ty_int72 : intT Tryd.prog 72 = none := by kernel_rfl
theorem ty_ifc72 : ifaceT Tryd.prog 72 = false := by kernel_rfl
theorem ty_bool72 : boolT Tryd.prog 72 = false := by kernel_rfl
theorem ty_z72 : zeroT Tryd.prog 72 = some [.nilFunc] := by kernel_rfl
theorem ty_ag73 : aggT Tryd.prog 73 = some false := by kernel_rfl
theorem ty_sz73 : szT Tryd.prog 73 = some 1 := by kernel_rfl
theorem ty_int73 : intT Tryd.prog 73 = some .u8 := by kernel_rfl
theorem ty_ifc73 : ifaceT Tryd.prog 73 = false := by kernel_rfl
theorem ty_bool73 : boolT Tryd.prog 73 = false := by kernel_rfl
theorem ty_z73 : zeroT Tryd.prog 73 = some [.int .u8 (0)] := by kernel_rfl
theorem ty_ag74 : aggT Tryd.prog 74 = some true := by kernel_rfl
theorem ty_sz74 : szT Tryd.prog 74 = some 2 := by kernel_rfl
theorem ty_int74 : intT Tryd.prog 74 = none := by kernel_rfl
theorem ty_ifc74 : ifaceT Tryd.prog 74 = false := by kernel_rfl
theorem ty_bool74 : boolT Tryd.prog 74 = false := by kernel_rfl
theorem ty_f74_0 : fieldT Tryd.prog 74 0 = some (0, 1, false) := by kernel_rfl
theorem ty_f74_1 : fieldT Tryd.prog 74 1 = some (1, 1, false) := by kernel_rfl
theorem ty_pl74 : placeT Tryd.prog 74 = some (fun i => #[(0, 1), (1, 1)][i]?) := by kernel_rfl
theorem ty_z74 : zeroT Tryd.prog 74 = some [.int .u8 (0), .slice none 0 0] := by kernel_rfl
theorem ty_ag75 : aggT Tryd.prog 75 = some true := by kernel_rfl
theorem ty_sz75 : szT Tryd.prog 75 = some 2 := by kernel_rfl
theorem ty_int75 : intT Tryd.prog 75 = none := by kernel_rfl
theorem ty_ifc75 : ifaceT Tryd.prog 75 = false := by kernel_rfl
theorem ty_bool75 : boolT Tryd.prog 75 = false := by kernel_rfl
theorem ty_f75_0 : fieldT Tryd.prog 75 0 = some (0, 1, false) := by kernel_rfl
theorem ty_f75_1 : fieldT Tryd.prog 75 1 = some (1, 1, false) := by kernel_rfl
theorem ty_pl75 : placeT Tryd.prog 75 = some (fun i => #[(0, 1), (1, 1)][i]?) := by kernel_rfl
theorem ty_z75 : zeroT Tryd.prog 75 = some [.int .u8 (0), .slice none 0 0] := by kernel_rfl
theorem ty_ag76 : aggT Tryd.prog 76 = some false := by kernel_rfl
theorem ty_sz76 : szT Tryd.prog 76 = some 1 := by kernel_rfl
theorem ty_int76 : intT Tryd.prog 76 = none := by kernel_rfl
theorem ty_ifc76 : ifaceT Tryd.prog 76 = false := by kernel_rfl
theorem ty_bool76 : boolT Tryd.prog 76 = false := by kernel_rfl
theorem ty_elem76 : elemT Tryd.prog 76 = some (93, 12, true) := by kernel_rfl
theorem ty_app76 : appT Tryd.prog 76 = some (93, 12, 48) := by kernel_rfl
theorem ty_z76 : zeroT Tryd.prog 76 = some [.slice none 0 0] := by kernel_rfl
theorem ty_ag78 : aggT Tryd.prog 78 = some false := by kernel_rfl
theorem ty_sz78 : szT Tryd.prog 78 = some 1 := by kernel_rfl
theorem ty_int78 : intT Tryd.prog 78 = none := by kernel_rfl
theorem ty_ifc78 : ifaceT Tryd.prog 78 = false := by kernel_rfl
theorem ty_bool78 : boolT Tryd.prog 78 = false := by kernel_rfl
theorem ty_z78 : zeroT Tryd.prog 78 = some [.nilFunc] := by kernel_rfl
theorem ty_ag79 : aggT Tryd.prog 79 = some true := by kernel_rfl
theorem ty_sz79 : szT Tryd.prog 79 = some 7 := by kernel_rfl
theorem ty_int79 : intT Tryd.prog 79 = none := by kernel_rfl
theorem ty_ifc79 : ifaceT Tryd.prog 79 = false := by kernel_rfl
theorem ty_bool79 : boolT Tryd.prog 79 = false := by kernel_rfl
theorem ty_f79_0 : fieldT Tryd.prog 79 0 = some (0, 1, false) := by kernel_rfl
theorem ty_f79_1 : fieldT Tryd.prog 79 1 = some (1, 1, false) := by kernel_rfl
theorem ty_f79_2 : fieldT Tryd.prog 79 2 = some (2, 1, false) := by kernel_rfl
theorem ty_f79_3 : fieldT Tryd.prog 79 3 = some (3, 1, false) := by kernel_rfl
theorem ty_f79_4 : fieldT Tryd.prog 79 4 = some (4, 1, false) := by kernel_rfl
theorem ty_f79_5 : fieldT Tryd.prog 79 5 = some (5, 1, false) := by kernel_rfl
theorem ty_f79_6 : fieldT Tryd.prog 79 6 = some (6, 1, false) := by kernel_rfl
theorem ty_pl79 : placeT Tryd.prog 79 = some (fun i => #[(0, 1), (1, 1), (2, 1), (3, 1), (4, 1), (5, 1), (6, 1)][i]?) := by kernel_rfl
theorem ty_z79 : zeroT Tryd.prog 79 = some [.int .u8 (0), .int .u8 (0), .int .u8 (0), .bool false, .bool false, .int .i64 (0), .slice none 0 0] := by kernel_rfl
theorem ty_ag80 : aggT Tryd.prog 80 = some true := by kernel_rfl
theorem ty_sz80 : szT Tryd.prog 80 = some 7 := by kernel_rfl
theorem ty_int80 : intT Tryd.prog 80 = none := by kernel_rfl
theorem ty_ifc80 : ifaceT Tryd.prog 80 = false := by kernel_rfl
theorem ty_bool80 : boolT Tryd.prog 80 = false := by kernel_rfl
theorem ty_f80_0 : fieldT Tryd.prog 80 0 = some (0, 1, false) := by kernel_rfl
theorem ty_f80_1 : fieldT Tryd.prog 80 1 = some (1, 1, false) := by kernel_rfl
theorem ty_f80_2 : fieldT Tryd.prog 80 2 = some (2, 1, false) := by kernel_rfl
theorem ty_f80_3 : fieldT Tryd.prog 80 3 = some (3, 1, false) := by kernel_rfl
theorem ty_f80_4 : fieldT Tryd.prog 80 4 = some (4, 1, false) := by kernel_rfl
theorem ty_f80_5 : fieldT Tryd.prog 80 5 = some (5, 1, false) := by kernel_rfl
theorem ty_f80_6 : fieldT Tryd.prog 80 6 = some (6, 1, false) := by kernel_rfl
theorem ty_pl80 : placeT Tryd.prog 80 = some (fun i => #[(0, 1), (1, 1), (2, 1), (3, 1), (4, 1), (5, 1), (6, 1)][i]?) := by kernel_rfl
theorem ty_z80 : zeroT Tryd.prog 80 = some [.int .u8 (0), .int .u8 (0), .int .u8 (0), .bool false, .bool false, .int .i64 (0), .slice none 0 0] := by kernel_rfl
theorem ty_ag81 : aggT Tryd.prog 81 = some false := by kernel_rfl
theorem ty_sz81 : szT Tryd.prog 81 = some 1 := by kernel_rfl
theorem ty_int81 : intT Tryd.prog 81 = none := by kernel_rfl
theorem ty_ifc81 : ifaceT Tryd.prog 81 = false := by kernel_rfl
theorem ty_bool81 : boolT Tryd.prog 81 = false := by kernel_rfl
theorem ty_z81 : zeroT Tryd.prog 81 = some [.nilFunc] := by kernel_rfl
theorem ty_ag82 : aggT Tryd.prog 82 = some false := by kernel_rfl
theorem ty_sz82 : szT Tryd.prog 82 = some 1 := by kernel_rfl
theorem ty_int82 : intT Tryd.prog 82 = none := by kernel_rfl
theorem ty_ifc82 : ifaceT Tryd.prog 82 = false := by kernel_rfl
theorem ty_bool82 : boolT Tryd.prog 82 = false := by kernel_rfl
theorem ty_z82 : zeroT Tryd.prog 82 = some [.nilFunc] := by kernel_rfl
theorem ty_ag83 : aggT Tryd.prog 83 = some false := by kernel_rfl
theorem ty_sz83 : szT Tryd.prog 83 = some 1 := by kernel_rfl
theorem ty_int83 : intT Tryd.prog 83 = none := by kernel_rfl
theorem ty_ifc83 : ifaceT Tryd.prog 83 = false := by kernel_rfl
theorem ty_bool83 : boolT Tryd.prog 83 = false := by kernel_rfl
theorem ty_z83 : zeroT Tryd.prog 83 = some [.nilFunc] := by kernel_rfl
theorem ty_ag84 : aggT Tryd.prog 84 = some false := by kernel_rfl
theorem ty_sz84 : szT Tryd.prog 84 = some 1 := by kernel_rfl
theorem ty_int84 : intT Tryd.prog 84 = none := by kernel_rfl
theorem ty_ifc84 : ifaceT Tryd.prog 84 = false := by kernel_rfl
theorem ty_bool84 : boolT Tryd.prog 84 = false := by kernel_rfl
theorem ty_z84 : zeroT Tryd.prog 84 = some [.nilFunc] := by kernel_rfl
theorem ty_ag85 : aggT Tryd.prog 85 = some false := by kernel_rfl
theorem ty_sz85 : szT Tryd.prog 85 = some 1 := by kernel_rfl
theorem ty_int85 : intT Tryd.prog 85 = none := by kernel_rfl
theorem ty_ifc85 : ifaceT Tryd.prog 85 = false := by kernel_rfl
theorem ty_bool85 : boolT Tryd.prog 85 = false := by kernel_rfl
theorem ty_z85 : zeroT Tryd.prog 85 = some [.nilFunc] := by kernel_rfl
theorem ty_ag86 : aggT Tryd.prog 86 = some true := by kernel_rfl
theorem ty_sz86 : szT Tryd.prog 86 = some 4 := by kernel_rfl
theorem ty_int86 : intT Tryd.prog 86 = none := by kernel_rfl
theorem ty_eq86 : eqT Tryd.prog 86 = some [true, false, true, true] := by kernel_rfl
theorem ty_ifc86 : ifaceT Tryd.prog 86 = false := by kernel_rfl
theorem ty_bool86 : boolT Tryd.prog 86 = false := by kernel_rfl
theorem ty_f86_0 : fieldT Tryd.prog 86 0 = some (0, 1, false) := by kernel_rfl
theorem ty_f86_1 : fieldT Tryd.prog 86 1 = some (1, 1, false) := by kernel_rfl
theorem ty_f86_2 : fieldT Tryd.prog 86 2 = some (2, 1, false) := by kernel_rfl
theorem ty_f86_3 : fieldT Tryd.prog 86 3 = some (3, 1, false) := by kernel_rfl
theorem ty_pl86 : placeT Tryd.prog 86 = some (fun i => #[(0, 1), (1, 1), (2, 1), (3, 1)][i]?) := by kernel_rfl
theorem ty_z86 : zeroT Tryd.prog 86 = some [.int .u8 (0), .bool false, .int .u8 (0), .int .u16 (0)] := by kernel_rfl
theorem ty_ag87 : aggT Tryd.prog 87 = some true := by kernel_rfl
theorem ty_sz87 : szT Tryd.prog 87 = some 4 := by kernel_rfl
theorem ty_int87 : intT Tryd.prog 87 = none := by kernel_rfl
theorem ty_eq87 : eqT Tryd.prog 87 = some [true, false, true, true] := by kernel_rfl
theorem ty_ifc87 : ifaceT Tryd.prog 87 = false := by kernel_rfl
theorem ty_bool87 : boolT Tryd.prog 87 = false := by kernel_rfl
theorem ty_f87_0 : fieldT Tryd.prog 87 0 = some (0, 1, false) := by kernel_rfl
theorem ty_f87_1 : fieldT Tryd.prog 87 1 = some (1, 1, false) := by kernel_rfl
theorem ty_f87_2 : fieldT Tryd.prog 87 2 = some (2, 1, false) := by kernel_rfl
theorem ty_f87_3 : fieldT Tryd.prog 87 3 = some (3, 1, false) := by kernel_rfl
theorem ty_pl87 : placeT Tryd.prog 87 = some (fun i => #[(0, 1), (1, 1), (2, 1), (3, 1)][i]?) := by kernel_rfl
theorem ty_z87 : zeroT Tryd.prog 87 = some [.int .u8 (0), .bool false, .int .u8 (0), .int .u16 (0)] := by kernel_rfl
theorem ty_ag88 : aggT Tryd.prog 88 = some false := by kernel_rfl
theorem ty_sz88 : szT Tryd.prog 88 = some 1 := by kernel_rfl
theorem ty_int88 : intT Tryd.prog 88 = none := by kernel_rfl
theorem ty_ifc88 : ifaceT Tryd.prog 88 = false := by kernel_rfl
theorem ty_bool88 : boolT Tryd.prog 88 = false := by kernel_rfl
theorem ty_elem88 : elemT Tryd.prog 88 = some (87, 4, true) := by kernel_rfl
theorem ty_app88 : appT Tryd.prog 88 = some (87, 4, 6) := by kernel_rfl
theorem ty_z88 : zeroT Tryd.prog 88 = some [.slice none 0 0] := by kernel_rfl
theorem ty_ag89 : aggT Tryd.prog 89 = some true := by kernel_rfl
theorem ty_sz89 : szT Tryd.prog 89 = some 2 := by kernel_rfl
theorem ty_int89 : intT Tryd.prog 89 = none := by kernel_rfl
theorem ty_ifc89 : ifaceT Tryd.prog 89 = false := by kernel_rfl
theorem ty_bool89 : boolT Tryd.prog 89 = false := by kernel_rfl
theorem ty_f89_0 : fieldT Tryd.prog 89 0 = some (0, 1, false) := by kernel_rfl
theorem ty_f89_1 : fieldT Tryd.prog 89 1 = some (1, 1, false) := by kernel_rfl
theorem ty_pl89 : placeT Tryd.prog 89 = some (fun i => #[(0, 1), (1, 1)][i]?) := by kernel_rfl
theorem ty_z89 : zeroT Tryd.prog 89 = some [.slice none 0 0, .slice none 0 0] := by kernel_rfl
theorem ty_ag90 : aggT Tryd.prog 90 = some true := by kernel_rfl
theorem ty_sz90 : szT Tryd.prog 90 = some 2 := by kernel_rfl
theorem ty_int90 : intT Tryd.prog 90 = none := by kernel_rfl
theorem ty_ifc90 : ifaceT Tryd.prog 90 = false := by kernel_rfl
theorem ty_bool90 : boolT Tryd.prog 90 = false := by kernel_rfl
theorem ty_f90_0 : fieldT Tryd.prog 90 0 = some (0, 1, false) := by kernel_rfl
theorem ty_f90_1 : fieldT Tryd.prog 90 1 = some (1, 1, false) := by kernel_rfl
theorem ty_pl90 : placeT Tryd.prog 90 = some (fun i => #[(0, 1), (1, 1)][i]?) := by kernel_rfl
theorem ty_z90 : zeroT Tryd.prog 90 = some [.slice none 0 0, .slice none 0 0] := by kernel_rfl
theorem ty_ag91 : aggT Tryd.prog 91 = some false := by kernel_rfl
theorem ty_sz91 : szT Tryd.prog 91 = some 1 := by kernel_rfl
theorem ty_int91 : intT Tryd.prog 91 = some .u8 := by kernel_rfl
theorem ty_ifc91 : ifaceT Tryd.prog 91 = false := by kernel_rfl
theorem ty_bool91 : boolT Tryd.prog 91 = false := by kernel_rfl
theorem ty_z91 : zeroT Tryd.prog 91 = some [.int .u8 (0)] := by kernel_rfl
theorem ty_ag92 : aggT Tryd.prog 92 = some true := by kernel_rfl
theorem ty_sz92 : szT Tryd.prog 92 = some 12 := by kernel_rfl
theorem ty_int92 : intT Tryd.prog 92 = none := by kernel_rfl
theorem ty_ifc92 : ifaceT Tryd.prog 92 = false := by kernel_rfl
theorem ty_bool92 : boolT Tryd.prog 92 = false := by kernel_rfl
theorem ty_f92_0 : fieldT Tryd.prog 92 0 = some (0, 10, true) := by kernel_rfl
theorem ty_f92_1 : fieldT Tryd.prog 92 1 = some (10, 1, false) := by kernel_rfl
theorem ty_f92_2 : fieldT Tryd.prog 92 2 = some (11, 1, false) := by kernel_rfl
theorem ty_pl92 : placeT Tryd.prog 92 = some (fun i => #[(0, 10), (10, 1), (11, 1)][i]?) := by kernel_rfl
theorem ty_z92 : zeroT Tryd.prog 92 = some [.int .u8 (0), .int .u8 (0), .int .u8 (0), .int .u16 (0), .int .u8 (0), .int .u8 (0), .bool false, .bool false, .int .u8 (0), .slice none 0 0, .bool false, .int .u8 (0)] := by kernel_rfl
theorem ty_ag93 : aggT Tryd.prog 93 = some true := by kernel_rfl
theorem ty_sz93 : szT Tryd.prog 93 = some 12 := by kernel_rfl
theorem ty_int93 : intT Tryd.prog 93 = none := by kernel_rfl
theorem ty_ifc93 : ifaceT Tryd.prog 93 = false := by kernel_rfl
theorem ty_bool93 : boolT Tryd.prog 93 = false := by kernel_rfl
theorem ty_f93_0 : fieldT Tryd.prog 93 0 = some (0, 10, true) := by kernel_rfl
theorem ty_f93_1 : fieldT Tryd.prog 93 1 = some (10, 1, false) := by kernel_rfl
theorem ty_f93_2 : fieldT Tryd.prog 93 2 = some (11, 1, false) := by kernel_rfl
theorem ty_pl93 : placeT Tryd.prog 93 = some (fun i => #[(0, 10), (10, 1), (11, 1)][i]?) := by kernel_rfl
theorem ty_z93 : zeroT Tryd.prog 93 = some [.int .u8 (0), .int .u8 (0), .int .u8 (0), .int .u16 (0), .int .u8 (0), .int .u8 (0), .bool false, .bool false, .int .u8 (0), .slice none 0 0, .bool false, .int .u8 (0)] := by kernel_rfl
theorem ty_ag94 : aggT Tryd.prog 94 = some false := by kernel_rfl
theorem ty_sz94 : szT Tryd.prog 94 = some 1 := by kernel_rfl
theorem ty_int94 : intT Tryd.prog 94 = none := by kernel_rfl
theorem ty_ifc94 : ifaceT Tryd.prog 94 = false := by kernel_rfl
theorem ty_bool94 : boolT Tryd.prog 94 = false := by kernel_rfl
theorem ty_z94 : zeroT Tryd.prog 94 = some [.nilFunc] := by kernel_rfl
theorem ty_ag95 : aggT Tryd.prog 95 = some false := by kernel_rfl
theorem ty_sz95 : szT Tryd.prog 95 = some 1 := by kernel_rfl
theorem ty_int95 : intT Tryd.prog 95 = none := by kernel_rfl
theorem ty_ifc95 : ifaceT Tryd.prog 95 = false := by kernel_rfl
theorem ty_bool95 : boolT Tryd.prog 95 = false := by kernel_rfl
theorem ty_z95 : zeroT Tryd.prog 95 = some [.nilFunc] := by kernel_rfl
theorem ty_ag96 : aggT Tryd.prog 96 = some false := by kernel_rfl
theorem ty_sz96 : szT Tryd.prog 96 = some 1 := by kernel_rfl
theorem ty_int96 : intT Tryd.prog 96 = none := by kernel_rfl
theorem ty_ifc96 : ifaceT Tryd.prog 96 = false := by kernel_rfl
theorem ty_bool96 : boolT Tryd.prog 96 = false := by kernel_rfl
theorem ty_elem96 : elemT Tryd.prog 96 = some (115, 6, true) := by kernel_rfl
theorem ty_app96 : appT Tryd.prog 96 = some (115, 6, 32) := by kernel_rfl
theorem ty_z96 : zeroT Tryd.prog 96 = some [.slice none 0 0] := by kernel_rfl
theorem ty_ag97 : aggT Tryd.prog 97 = some false := by kernel_rfl
theorem ty_sz97 : szT Tryd.prog 97 = some 1 := by kernel_rfl
theorem ty_int97 : intT Tryd.prog 97 = none := by kernel_rfl
theorem ty_ifc97 : ifaceT Tryd.prog 97 = false := by kernel_rfl
theorem ty_bool97 : boolT Tryd.prog 97 = false := by kernel_rfl
theorem ty_elem97 : elemT Tryd.prog 97 = some (119, 12, true) := by kernel_rfl
theorem ty_app97 : appT Tryd.prog 97 = some (119, 12, 72) := by kernel_rfl
theorem ty_z97 : zeroT Tryd.prog 97 = some [.slice none 0 0] := by kernel_rfl
theorem ty_ag98 : aggT Tryd.prog 98 = some true := by kernel_rfl
theorem ty_sz98 : szT Tryd.prog 98 = some 3 := by kernel_rfl
theorem ty_int98 : intT Tryd.prog 98 = none := by kernel_rfl
theorem ty_ifc98 : ifaceT Tryd.prog 98 = false := by kernel_rfl
theorem ty_bool98 : boolT Tryd.prog 98 = false := by kernel_rfl
theorem ty_f98_0 : fieldT Tryd.prog 98 0 = some (0, 1, false) := by kernel_rfl
theorem ty_f98_1 : fieldT Tryd.prog 98 1 = some (1, 1, false) := by kernel_rfl
theorem ty_f98_2 : fieldT Tryd.prog 98 2 = some (2, 1, false) := by kernel_rfl
theorem ty_pl98 : placeT Tryd.prog 98 = some (fun i => #[(0, 1), (1, 1), (2, 1)][i]?) := by kernel_rfl
theorem ty_z98 : zeroT Tryd.prog 98 = some [.slice none 0 0, .slice none 0 0, .slice none 0 0] := by kernel_rfl
theorem ty_ag99 : aggT Tryd.prog 99 = some true := by kernel_rfl
theorem ty_sz99 : szT Tryd.prog 99 = some 3 := by kernel_rfl
theorem ty_int99 : intT Tryd.prog 99 = none := by kernel_rfl
theorem ty_ifc99 : ifaceT Tryd.prog 99 = false := by kernel_rfl
theorem ty_bool99 : boolT Tryd.prog 99 = false := by kernel_rfl
theorem ty_f99_0 : fieldT Tryd.prog 99 0 = some (0, 1, false) := by kernel_rfl
theorem ty_f99_1 : fieldT Tryd.prog 99 1 = some (1, 1, false) := by kernel_rfl
theorem ty_f99_2 : fieldT Tryd.prog 99 2 = some (2, 1, false) := by kernel_rfl
theorem ty_pl99 : placeT Tryd.prog 99 = some (fun i => #[(0, 1), (1, 1), (2, 1)][i]?) := by kernel_rfl
theorem ty_z99 : zeroT Tryd.prog 99 = some [.slice none 0 0, .slice none 0 0, .slice none 0 0] := by kernel_rfl
theorem ty_ag100 : aggT Tryd.prog 100 = some false := by kernel_rfl
theorem ty_sz100 : szT Tryd.prog 100 = some 1 := by kernel_rfl
theorem ty_int100 : intT Tryd.prog 100 = none := by kernel_rfl
theorem ty_ifc100 : ifaceT Tryd.prog 100 = false := by kernel_rfl
theorem ty_bool100 : boolT Tryd.prog 100 = false := by kernel_rfl
theorem ty_z100 : zeroT Tryd.prog 100 = some [.nilFunc] := by kernel_rfl
theorem ty_ag101 : aggT Tryd.prog 101 = some false := by kernel_rfl
theorem ty_sz101 : szT Tryd.prog 101 = some 1 := by kernel_rfl
theorem ty_int101 : intT Tryd.prog 101 = none := by kernel_rfl
theorem ty_ifc101 : ifaceT Tryd.prog 101 = false := by kernel_rfl
theorem ty_m101_0 : methA Tryd.prog 101 "plugboard/plugboardlaw07.act" = some 38 := by kernel_rfl
theorem ty_k101_0 : nilOk Tryd.prog 101 "plugboard/plugboardlaw07.act" = true := by kernel_rfl
theorem ty_m101_1 : methA Tryd.prog 101 "plugboard/plugboardlaw07.change" = some 77 := by kernel_rfl
theorem ty_k101_1 : nilOk Tryd.prog 101 "plugboard/plugboardlaw07.change" = true := by kernel_rfl
theorem ty_m101_2 : methA Tryd.prog 101 "plugboard/plugboardlaw07.store" = some 39 := by kernel_rfl
theorem ty_k101_2 : nilOk Tryd.prog 101 "plugboard/plugboardlaw07.store" = true := by kernel_rfl
theorem ty_bool101 : boolT Tryd.prog 101 = false := by kernel_rfl
theorem ty_z101 : zeroT Tryd.prog 101 = some [.pointer none] := by kernel_rfl
theorem ty_ag102 : aggT Tryd.prog 102 = some false := by kernel_rfl
theorem ty_sz102 : szT Tryd.prog 102 = some 1 := by kernel_rfl
theorem ty_int102 : intT Tryd.prog 102 = none := by kernel_rfl
theorem ty_ifc102 : ifaceT Tryd.prog 102 = false := by kernel_rfl
theorem ty_m102_0 : methA Tryd.prog 102 "Hear" = some 225 := by kernel_rfl
theorem ty_k102_0 : nilOk Tryd.prog 102 "Hear" = true := by kernel_rfl
theorem ty_bool102 : boolT Tryd.prog 102 = false := by kernel_rfl
theorem ty_z102 : zeroT Tryd.prog 102 = some [.pointer none] := by kernel_rfl
theorem ty_ag103 : aggT Tryd.prog 103 = some false := by kernel_rfl
theorem ty_sz103 : szT Tryd.prog 103 = some 1 := by kernel_rfl
theorem ty_int103 : intT Tryd.prog 103 = none := by kernel_rfl
theorem ty_ifc103 : ifaceT Tryd.prog 103 = false := by kernel_rfl
theorem ty_bool103 : boolT Tryd.prog 103 = false := by kernel_rfl
theorem ty_elem103 : elemT Tryd.prog 103 = some (57, 10, true) := by kernel_rfl
theorem ty_app103 : appT Tryd.prog 103 = some (57, 10, 40) := by kernel_rfl
theorem ty_z103 : zeroT Tryd.prog 103 = some [.slice none 0 0] := by kernel_rfl
theorem ty_ag104 : aggT Tryd.prog 104 = some false := by kernel_rfl
theorem ty_sz104 : szT Tryd.prog 104 = some 1 := by kernel_rfl
theorem ty_int104 : intT Tryd.prog 104 = none := by kernel_rfl
theorem ty_ifc104 : ifaceT Tryd.prog 104 = false := by kernel_rfl
theorem ty_bool104 : boolT Tryd.prog 104 = false := by kernel_rfl
theorem ty_elem104 : elemT Tryd.prog 104 = some (121, 11, true) := by kernel_rfl
theorem ty_app104 : appT Tryd.prog 104 = some (121, 11, 48) := by kernel_rfl
theorem ty_z104 : zeroT Tryd.prog 104 = some [.slice none 0 0] := by kernel_rfl
theorem ty_ag105 : aggT Tryd.prog 105 = some true := by kernel_rfl
theorem ty_sz105 : szT Tryd.prog 105 = some 2 := by kernel_rfl
theorem ty_int105 : intT Tryd.prog 105 = none := by kernel_rfl
theorem ty_ifc105 : ifaceT Tryd.prog 105 = false := by kernel_rfl
theorem ty_bool105 : boolT Tryd.prog 105 = false := by kernel_rfl
theorem ty_f105_0 : fieldT Tryd.prog 105 0 = some (0, 1, false) := by kernel_rfl
theorem ty_f105_1 : fieldT Tryd.prog 105 1 = some (1, 1, false) := by kernel_rfl
theorem ty_pl105 : placeT Tryd.prog 105 = some (fun i => #[(0, 1), (1, 1)][i]?) := by kernel_rfl
theorem ty_z105 : zeroT Tryd.prog 105 = some [.slice none 0 0, .slice none 0 0] := by kernel_rfl
theorem ty_ag106 : aggT Tryd.prog 106 = some true := by kernel_rfl
theorem ty_sz106 : szT Tryd.prog 106 = some 2 := by kernel_rfl
theorem ty_int106 : intT Tryd.prog 106 = none := by kernel_rfl
theorem ty_ifc106 : ifaceT Tryd.prog 106 = false := by kernel_rfl
theorem ty_bool106 : boolT Tryd.prog 106 = false := by kernel_rfl
theorem ty_f106_0 : fieldT Tryd.prog 106 0 = some (0, 1, false) := by kernel_rfl
theorem ty_f106_1 : fieldT Tryd.prog 106 1 = some (1, 1, false) := by kernel_rfl
theorem ty_pl106 : placeT Tryd.prog 106 = some (fun i => #[(0, 1), (1, 1)][i]?) := by kernel_rfl
theorem ty_z106 : zeroT Tryd.prog 106 = some [.slice none 0 0, .slice none 0 0] := by kernel_rfl
theorem ty_ag107 : aggT Tryd.prog 107 = some false := by kernel_rfl
theorem ty_sz107 : szT Tryd.prog 107 = some 1 := by kernel_rfl
theorem ty_int107 : intT Tryd.prog 107 = none := by kernel_rfl
theorem ty_ifc107 : ifaceT Tryd.prog 107 = false := by kernel_rfl
theorem ty_bool107 : boolT Tryd.prog 107 = false := by kernel_rfl
theorem ty_elem107 : elemT Tryd.prog 107 = some (113, 9, true) := by kernel_rfl
theorem ty_app107 : appT Tryd.prog 107 = some (113, 9, 80) := by kernel_rfl
theorem ty_z107 : zeroT Tryd.prog 107 = some [.slice none 0 0] := by kernel_rfl
theorem ty_ag108 : aggT Tryd.prog 108 = some true := by kernel_rfl
theorem ty_sz108 : szT Tryd.prog 108 = some 7 := by kernel_rfl
theorem ty_int108 : intT Tryd.prog 108 = none := by kernel_rfl
theorem ty_ifc108 : ifaceT Tryd.prog 108 = false := by kernel_rfl
theorem ty_bool108 : boolT Tryd.prog 108 = false := by kernel_rfl
theorem ty_f108_0 : fieldT Tryd.prog 108 0 = some (0, 1, false) := by kernel_rfl
theorem ty_f108_1 : fieldT Tryd.prog 108 1 = some (1, 1, false) := by kernel_rfl
theorem ty_f108_2 : fieldT Tryd.prog 108 2 = some (2, 1, false) := by kernel_rfl
theorem ty_f108_3 : fieldT Tryd.prog 108 3 = some (3, 1, false) := by kernel_rfl
theorem ty_f108_4 : fieldT Tryd.prog 108 4 = some (4, 1, false) := by kernel_rfl
theorem ty_f108_5 : fieldT Tryd.prog 108 5 = some (5, 1, false) := by kernel_rfl
theorem ty_f108_6 : fieldT Tryd.prog 108 6 = some (6, 1, false) := by kernel_rfl
theorem ty_pl108 : placeT Tryd.prog 108 = some (fun i => #[(0, 1), (1, 1), (2, 1), (3, 1), (4, 1), (5, 1), (6, 1)][i]?) := by kernel_rfl
theorem ty_z108 : zeroT Tryd.prog 108 = some [.int .u8 (0), .slice none 0 0, .bool false, .int .u8 (0), .int .i64 (0), .slice none 0 0, .slice none 0 0] := by kernel_rfl
theorem ty_ag109 : aggT Tryd.prog 109 = some true := by kernel_rfl
theorem ty_sz109 : szT Tryd.prog 109 = some 7 := by kernel_rfl
theorem ty_int109 : intT Tryd.prog 109 = none := by kernel_rfl
theorem ty_ifc109 : ifaceT Tryd.prog 109 = false := by kernel_rfl
theorem ty_bool109 : boolT Tryd.prog 109 = false := by kernel_rfl
theorem ty_f109_0 : fieldT Tryd.prog 109 0 = some (0, 1, false) := by kernel_rfl
theorem ty_f109_1 : fieldT Tryd.prog 109 1 = some (1, 1, false) := by kernel_rfl
theorem ty_f109_2 : fieldT Tryd.prog 109 2 = some (2, 1, false) := by kernel_rfl
theorem ty_f109_3 : fieldT Tryd.prog 109 3 = some (3, 1, false) := by kernel_rfl
theorem ty_f109_4 : fieldT Tryd.prog 109 4 = some (4, 1, false) := by kernel_rfl
theorem ty_f109_5 : fieldT Tryd.prog 109 5 = some (5, 1, false) := by kernel_rfl
theorem ty_f109_6 : fieldT Tryd.prog 109 6 = some (6, 1, false) := by kernel_rfl
theorem ty_pl109 : placeT Tryd.prog 109 = some (fun i => #[(0, 1), (1, 1), (2, 1), (3, 1), (4, 1), (5, 1), (6, 1)][i]?) := by kernel_rfl
theorem ty_z109 : zeroT Tryd.prog 109 = some [.int .u8 (0), .slice none 0 0, .bool false, .int .u8 (0), .int .i64 (0), .slice none 0 0, .slice none 0 0] := by kernel_rfl
theorem ty_ag110 : aggT Tryd.prog 110 = some true := by kernel_rfl
theorem ty_sz110 : szT Tryd.prog 110 = some 12 := by kernel_rfl
theorem ty_int110 : intT Tryd.prog 110 = none := by kernel_rfl
theorem ty_ifc110 : ifaceT Tryd.prog 110 = false := by kernel_rfl
theorem ty_bool110 : boolT Tryd.prog 110 = false := by kernel_rfl
theorem ty_f110_0 : fieldT Tryd.prog 110 0 = some (0, 1, false) := by kernel_rfl
theorem ty_f110_1 : fieldT Tryd.prog 110 1 = some (1, 1, false) := by kernel_rfl
theorem ty_f110_2 : fieldT Tryd.prog 110 2 = some (2, 7, true) := by kernel_rfl
theorem ty_f110_3 : fieldT Tryd.prog 110 3 = some (9, 1, false) := by kernel_rfl
theorem ty_f110_4 : fieldT Tryd.prog 110 4 = some (10, 1, false) := by kernel_rfl
theorem ty_f110_5 : fieldT Tryd.prog 110 5 = some (11, 1, false) := by kernel_rfl
theorem ty_pl110 : placeT Tryd.prog 110 = some (fun i => #[(0, 1), (1, 1), (2, 7), (9, 1), (10, 1), (11, 1)][i]?) := by kernel_rfl
theorem ty_z110 : zeroT Tryd.prog 110 = some [.pointer none, .slice none 0 0, .int .u8 (0), .slice none 0 0, .bool false, .int .u8 (0), .int .i64 (0), .slice none 0 0, .slice none 0 0, .slice none 0 0, .int .i64 (0), .pointer none] := by kernel_rfl
theorem ty_ag111 : aggT Tryd.prog 111 = some true := by kernel_rfl
theorem ty_sz111 : szT Tryd.prog 111 = some 12 := by kernel_rfl
theorem ty_int111 : intT Tryd.prog 111 = none := by kernel_rfl
theorem ty_ifc111 : ifaceT Tryd.prog 111 = false := by kernel_rfl
theorem ty_bool111 : boolT Tryd.prog 111 = false := by kernel_rfl
theorem ty_f111_0 : fieldT Tryd.prog 111 0 = some (0, 1, false) := by kernel_rfl
theorem ty_f111_1 : fieldT Tryd.prog 111 1 = some (1, 1, false) := by kernel_rfl
theorem ty_f111_2 : fieldT Tryd.prog 111 2 = some (2, 7, true) := by kernel_rfl
theorem ty_f111_3 : fieldT Tryd.prog 111 3 = some (9, 1, false) := by kernel_rfl
theorem ty_f111_4 : fieldT Tryd.prog 111 4 = some (10, 1, false) := by kernel_rfl
theorem ty_f111_5 : fieldT Tryd.prog 111 5 = some (11, 1, false) := by kernel_rfl
theorem ty_pl111 : placeT Tryd.prog 111 = some (fun i => #[(0, 1), (1, 1), (2, 7), (9, 1), (10, 1), (11, 1)][i]?) := by kernel_rfl
theorem ty_z111 : zeroT Tryd.prog 111 = some [.pointer none, .slice none 0 0, .int .u8 (0), .slice none 0 0, .bool false, .int .u8 (0), .int .i64 (0), .slice none 0 0, .slice none 0 0, .slice none 0 0, .int .i64 (0), .pointer none] := by kernel_rfl
theorem ty_ag112 : aggT Tryd.prog 112 = some true := by kernel_rfl
theorem ty_sz112 : szT Tryd.prog 112 = some 9 := by kernel_rfl
theorem ty_int112 : intT Tryd.prog 112 = none := by kernel_rfl
theorem ty_ifc112 : ifaceT Tryd.prog 112 = false := by kernel_rfl
theorem ty_bool112 : boolT Tryd.prog 112 = false := by kernel_rfl
theorem ty_f112_0 : fieldT Tryd.prog 112 0 = some (0, 1, false) := by kernel_rfl
theorem ty_f112_1 : fieldT Tryd.prog 112 1 = some (1, 1, false) := by kernel_rfl
theorem ty_f112_2 : fieldT Tryd.prog 112 2 = some (2, 1, false) := by kernel_rfl
theorem ty_f112_3 : fieldT Tryd.prog 112 3 = some (3, 1, false) := by kernel_rfl
theorem ty_f112_4 : fieldT Tryd.prog 112 4 = some (4, 1, false) := by kernel_rfl
theorem ty_f112_5 : fieldT Tryd.prog 112 5 = some (5, 1, false) := by kernel_rfl
theorem ty_f112_6 : fieldT Tryd.prog 112 6 = some (6, 1, false) := by kernel_rfl
theorem ty_f112_7 : fieldT Tryd.prog 112 7 = some (7, 1, false) := by kernel_rfl
theorem ty_f112_8 : fieldT Tryd.prog 112 8 = some (8, 1, false) := by kernel_rfl
theorem ty_pl112 : placeT Tryd.prog 112 = some (fun i => #[(0, 1), (1, 1), (2, 1), (3, 1), (4, 1), (5, 1), (6, 1), (7, 1), (8, 1)][i]?) := by kernel_rfl
theorem ty_z112 : zeroT Tryd.prog 112 = some [.int .u8 (0), .bool false, .int .u8 (0), .int .i64 (0), .bool false, .bool false, .slice none 0 0, .int .i64 (0), .slice none 0 0] := by kernel_rfl
theorem ty_ag113 : aggT Tryd.prog 113 = some true := by kernel_rfl
theorem ty_sz113 : szT Tryd.prog 113 = some 9 := by kernel_rfl
theorem ty_int113 : intT Tryd.prog 113 = none := by kernel_rfl
theorem ty_ifc113 : ifaceT Tryd.prog 113 = false := by kernel_rfl
theorem ty_bool113 : boolT Tryd.prog 113 = false := by kernel_rfl
theorem ty_f113_0 : fieldT Tryd.prog 113 0 = some (0, 1, false) := by kernel_rfl
theorem ty_f113_1 : fieldT Tryd.prog 113 1 = some (1, 1, false) := by kernel_rfl
theorem ty_f113_2 : fieldT Tryd.prog 113 2 = some (2, 1, false) := by kernel_rfl
theorem ty_f113_3 : fieldT Tryd.prog 113 3 = some (3, 1, false) := by kernel_rfl
theorem ty_f113_4 : fieldT Tryd.prog 113 4 = some (4, 1, false) := by kernel_rfl
theorem ty_f113_5 : fieldT Tryd.prog 113 5 = some (5, 1, false) := by kernel_rfl
theorem ty_f113_6 : fieldT Tryd.prog 113 6 = some (6, 1, false) := by kernel_rfl
theorem ty_f113_7 : fieldT Tryd.prog 113 7 = some (7, 1, false) := by kernel_rfl
theorem ty_f113_8 : fieldT Tryd.prog 113 8 = some (8, 1, false) := by kernel_rfl
theorem ty_pl113 : placeT Tryd.prog 113 = some (fun i => #[(0, 1), (1, 1), (2, 1), (3, 1), (4, 1), (5, 1), (6, 1), (7, 1), (8, 1)][i]?) := by kernel_rfl
theorem ty_z113 : zeroT Tryd.prog 113 = some [.int .u8 (0), .bool false, .int .u8 (0), .int .i64 (0), .bool false, .bool false, .slice none 0 0, .int .i64 (0), .slice none 0 0] := by kernel_rfl
theorem ty_ag114 : aggT Tryd.prog 114 = some true := by kernel_rfl
theorem ty_sz114 : szT Tryd.prog 114 = some 6 := by kernel_rfl
theorem ty_int114 : intT Tryd.prog 114 = none := by kernel_rfl
theorem ty_ifc114 : ifaceT Tryd.prog 114 = false := by kernel_rfl
theorem ty_bool114 : boolT Tryd.prog 114 = false := by kernel_rfl
theorem ty_f114_0 : fieldT Tryd.prog 114 0 = some (0, 1, false) := by kernel_rfl
theorem ty_f114_1 : fieldT Tryd.prog 114 1 = some (1, 1, false) := by kernel_rfl
theorem ty_f114_2 : fieldT Tryd.prog 114 2 = some (2, 1, false) := by kernel_rfl
theorem ty_f114_3 : fieldT Tryd.prog 114 3 = some (3, 1, false) := by kernel_rfl
theorem ty_f114_4 : fieldT Tryd.prog 114 4 = some (4, 1, false) := by kernel_rfl
theorem ty_f114_5 : fieldT Tryd.prog 114 5 = some (5, 1, false) := by kernel_rfl
theorem ty_pl114 : placeT Tryd.prog 114 = some (fun i => #[(0, 1), (1, 1), (2, 1), (3, 1), (4, 1), (5, 1)][i]?) := by kernel_rfl
theorem ty_z114 : zeroT Tryd.prog 114 = some [.int .u8 (0), .int .u8 (0), .int .u8 (0), .int .u16 (0), .int .u8 (0), .slice none 0 0] := by kernel_rfl
theorem ty_ag115 : aggT Tryd.prog 115 = some true := by kernel_rfl
theorem ty_sz115 : szT Tryd.prog 115 = some 6 := by kernel_rfl
theorem ty_int115 : intT Tryd.prog 115 = none := by kernel_rfl
theorem ty_ifc115 : ifaceT Tryd.prog 115 = false := by kernel_rfl
theorem ty_bool115 : boolT Tryd.prog 115 = false := by kernel_rfl
theorem ty_f115_0 : fieldT Tryd.prog 115 0 = some (0, 1, false) := by kernel_rfl
theorem ty_f115_1 : fieldT Tryd.prog 115 1 = some (1, 1, false) := by kernel_rfl
theorem ty_f115_2 : fieldT Tryd.prog 115 2 = some (2, 1, false) := by kernel_rfl
theorem ty_f115_3 : fieldT Tryd.prog 115 3 = some (3, 1, false) := by kernel_rfl
theorem ty_f115_4 : fieldT Tryd.prog 115 4 = some (4, 1, false) := by kernel_rfl
theorem ty_f115_5 : fieldT Tryd.prog 115 5 = some (5, 1, false) := by kernel_rfl
theorem ty_pl115 : placeT Tryd.prog 115 = some (fun i => #[(0, 1), (1, 1), (2, 1), (3, 1), (4, 1), (5, 1)][i]?) := by kernel_rfl
theorem ty_z115 : zeroT Tryd.prog 115 = some [.int .u8 (0), .int .u8 (0), .int .u8 (0), .int .u16 (0), .int .u8 (0), .slice none 0 0] := by kernel_rfl
theorem ty_ag116 : aggT Tryd.prog 116 = some false := by kernel_rfl
theorem ty_sz116 : szT Tryd.prog 116 = some 1 := by kernel_rfl
theorem ty_int116 : intT Tryd.prog 116 = none := by kernel_rfl
theorem ty_ifc116 : ifaceT Tryd.prog 116 = false := by kernel_rfl
theorem ty_bool116 : boolT Tryd.prog 116 = false := by kernel_rfl
theorem ty_z116 : zeroT Tryd.prog 116 = some [.nilFunc] := by kernel_rfl
theorem ty_ag117 : aggT Tryd.prog 117 = some false := by kernel_rfl
theorem ty_sz117 : szT Tryd.prog 117 = some 1 := by kernel_rfl
theorem ty_int117 : intT Tryd.prog 117 = none := by kernel_rfl
theorem ty_ifc117 : ifaceT Tryd.prog 117 = false := by kernel_rfl
theorem ty_bool117 : boolT Tryd.prog 117 = false := by kernel_rfl
theorem ty_z117 : zeroT Tryd.prog 117 = some [.nilFunc] := by kernel_rfl
theorem ty_ag118 : aggT Tryd.prog 118 = some true := by kernel_rfl
theorem ty_sz118 : szT Tryd.prog 118 = some 12 := by kernel_rfl
theorem ty_int118 : intT Tryd.prog 118 = none := by kernel_rfl
theorem ty_ifc118 : ifaceT Tryd.prog 118 = false := by kernel_rfl
theorem ty_bool118 : boolT Tryd.prog 118 = false := by kernel_rfl
theorem ty_f118_0 : fieldT Tryd.prog 118 0 = some (0, 1, false) := by kernel_rfl
theorem ty_f118_1 : fieldT Tryd.prog 118 1 = some (1, 1, false) := by kernel_rfl
theorem ty_f118_2 : fieldT Tryd.prog 118 2 = some (2, 1, false) := by kernel_rfl
theorem ty_f118_3 : fieldT Tryd.prog 118 3 = some (3, 1, false) := by kernel_rfl
theorem ty_f118_4 : fieldT Tryd.prog 118 4 = some (4, 1, false) := by kernel_rfl
theorem ty_f118_5 : fieldT Tryd.prog 118 5 = some (5, 1, false) := by kernel_rfl
theorem ty_f118_6 : fieldT Tryd.prog 118 6 = some (6, 6, true) := by kernel_rfl
theorem ty_pl118 : placeT Tryd.prog 118 = some (fun i => #[(0, 1), (1, 1), (2, 1), (3, 1), (4, 1), (5, 1), (6, 6)][i]?) := by kernel_rfl
theorem ty_z118 : zeroT Tryd.prog 118 = some [.int .u8 (0), .int .u8 (0), .int .u8 (0), .bool false, .int .i64 (0), .slice none 0 0, .int .u8 (0), .int .u8 (0), .int .u8 (0), .int .u16 (0), .int .u8 (0), .slice none 0 0] := by kernel_rfl
theorem ty_ag119 : aggT Tryd.prog 119 = some true := by kernel_rfl
theorem ty_sz119 : szT Tryd.prog 119 = some 12 := by kernel_rfl
theorem ty_int119 : intT Tryd.prog 119 = none := by kernel_rfl
theorem ty_ifc119 : ifaceT Tryd.prog 119 = false := by kernel_rfl
theorem ty_bool119 : boolT Tryd.prog 119 = false := by kernel_rfl
theorem ty_f119_0 : fieldT Tryd.prog 119 0 = some (0, 1, false) := by kernel_rfl
theorem ty_f119_1 : fieldT Tryd.prog 119 1 = some (1, 1, false) := by kernel_rfl
theorem ty_f119_2 : fieldT Tryd.prog 119 2 = some (2, 1, false) := by kernel_rfl
theorem ty_f119_3 : fieldT Tryd.prog 119 3 = some (3, 1, false) := by kernel_rfl
theorem ty_f119_4 : fieldT Tryd.prog 119 4 = some (4, 1, false) := by kernel_rfl
theorem ty_f119_5 : fieldT Tryd.prog 119 5 = some (5, 1, false) := by kernel_rfl
theorem ty_f119_6 : fieldT Tryd.prog 119 6 = some (6, 6, true) := by kernel_rfl
theorem ty_pl119 : placeT Tryd.prog 119 = some (fun i => #[(0, 1), (1, 1), (2, 1), (3, 1), (4, 1), (5, 1), (6, 6)][i]?) := by kernel_rfl
theorem ty_z119 : zeroT Tryd.prog 119 = some [.int .u8 (0), .int .u8 (0), .int .u8 (0), .bool false, .int .i64 (0), .slice none 0 0, .int .u8 (0), .int .u8 (0), .int .u8 (0), .int .u16 (0), .int .u8 (0), .slice none 0 0] := by kernel_rfl
theorem ty_ag120 : aggT Tryd.prog 120 = some true := by kernel_rfl
theorem ty_sz120 : szT Tryd.prog 120 = some 11 := by kernel_rfl
theorem ty_int120 : intT Tryd.prog 120 = none := by kernel_rfl
theorem ty_ifc120 : ifaceT Tryd.prog 120 = false := by kernel_rfl
theorem ty_bool120 : boolT Tryd.prog 120 = false := by kernel_rfl
theorem ty_f120_0 : fieldT Tryd.prog 120 0 = some (0, 1, false) := by kernel_rfl
theorem ty_f120_1 : fieldT Tryd.prog 120 1 = some (1, 10, true) := by kernel_rfl
theorem ty_pl120 : placeT Tryd.prog 120 = some (fun i => #[(0, 1), (1, 10)][i]?) := by kernel_rfl
theorem ty_z120 : zeroT Tryd.prog 120 = some [.int .u8 (0), .int .u8 (0), .int .u8 (0), .int .u8 (0), .int .u16 (0), .int .u8 (0), .int .u8 (0), .bool false, .bool false, .int .u8 (0), .slice none 0 0] := by kernel_rfl
theorem ty_ag121 : aggT Tryd.prog 121 = some true := by kernel_rfl
theorem ty_sz121 : szT Tryd.prog 121 = some 11 := by kernel_rfl
theorem ty_int121 : intT Tryd.prog 121 = none := by kernel_rfl
theorem ty_ifc121 : ifaceT Tryd.prog 121 = false := by kernel_rfl
theorem ty_bool121 : boolT Tryd.prog 121 = false := by kernel_rfl
theorem ty_f121_0 : fieldT Tryd.prog 121 0 = some (0, 1, false) := by kernel_rfl
theorem ty_f121_1 : fieldT Tryd.prog 121 1 = some (1, 10, true) := by kernel_rfl
theorem ty_pl121 : placeT Tryd.prog 121 = some (fun i => #[(0, 1), (1, 10)][i]?) := by kernel_rfl
theorem ty_z121 : zeroT Tryd.prog 121 = some [.int .u8 (0), .int .u8 (0), .int .u8 (0), .int .u8 (0), .int .u16 (0), .int .u8 (0), .int .u8 (0), .bool false, .bool false, .int .u8 (0), .slice none 0 0] := by kernel_rfl
theorem ty_ag122 : aggT Tryd.prog 122 = some false := by kernel_rfl
theorem ty_sz122 : szT Tryd.prog 122 = some 1 := by kernel_rfl
theorem ty_int122 : intT Tryd.prog 122 = none := by kernel_rfl
theorem ty_ifc122 : ifaceT Tryd.prog 122 = false := by kernel_rfl
theorem ty_bool122 : boolT Tryd.prog 122 = false := by kernel_rfl
theorem ty_z122 : zeroT Tryd.prog 122 = some [.nilFunc] := by kernel_rfl
theorem ty_ag123 : aggT Tryd.prog 123 = some false := by kernel_rfl
theorem ty_sz123 : szT Tryd.prog 123 = some 1 := by kernel_rfl
theorem ty_int123 : intT Tryd.prog 123 = some .u8 := by kernel_rfl
theorem ty_ifc123 : ifaceT Tryd.prog 123 = false := by kernel_rfl
theorem ty_bool123 : boolT Tryd.prog 123 = false := by kernel_rfl
theorem ty_z123 : zeroT Tryd.prog 123 = some [.int .u8 (0)] := by kernel_rfl
theorem ty_ag124 : aggT Tryd.prog 124 = some true := by kernel_rfl
theorem ty_sz124 : szT Tryd.prog 124 = some 11 := by kernel_rfl
theorem ty_int124 : intT Tryd.prog 124 = none := by kernel_rfl
theorem ty_eq124 : eqT Tryd.prog 124 = some [true, true, false, true, true, true, true, true, true, false, false] := by kernel_rfl
theorem ty_ifc124 : ifaceT Tryd.prog 124 = false := by kernel_rfl
theorem ty_bool124 : boolT Tryd.prog 124 = false := by kernel_rfl
theorem ty_f124_0 : fieldT Tryd.prog 124 0 = some (0, 1, false) := by kernel_rfl
theorem ty_f124_1 : fieldT Tryd.prog 124 1 = some (1, 1, false) := by kernel_rfl
theorem ty_f124_2 : fieldT Tryd.prog 124 2 = some (2, 1, false) := by kernel_rfl
theorem ty_f124_3 : fieldT Tryd.prog 124 3 = some (3, 1, false) := by kernel_rfl
theorem ty_f124_4 : fieldT Tryd.prog 124 4 = some (4, 1, false) := by kernel_rfl
theorem ty_f124_5 : fieldT Tryd.prog 124 5 = some (5, 1, false) := by kernel_rfl
theorem ty_f124_6 : fieldT Tryd.prog 124 6 = some (6, 1, false) := by kernel_rfl
theorem ty_f124_7 : fieldT Tryd.prog 124 7 = some (7, 1, false) := by kernel_rfl
theorem ty_f124_8 : fieldT Tryd.prog 124 8 = some (8, 1, false) := by kernel_rfl
theorem ty_f124_9 : fieldT Tryd.prog 124 9 = some (9, 1, false) := by kernel_rfl
theorem ty_f124_10 : fieldT Tryd.prog 124 10 = some (10, 1, false) := by kernel_rfl
theorem ty_pl124 : placeT Tryd.prog 124 = some (fun i => #[(0, 1), (1, 1), (2, 1), (3, 1), (4, 1), (5, 1), (6, 1), (7, 1), (8, 1), (9, 1), (10, 1)][i]?) := by kernel_rfl
theorem ty_z124 : zeroT Tryd.prog 124 = some [.int .u8 (0), .int .u8 (0), .bool false, .int .u8 (0), .int .i64 (0), .int .i64 (0), .int .u8 (0), .int .u8 (0), .int .u8 (0), .bool false, .bool false] := by kernel_rfl
theorem ty_ag125 : aggT Tryd.prog 125 = some true := by kernel_rfl
theorem ty_sz125 : szT Tryd.prog 125 = some 11 := by kernel_rfl
theorem ty_int125 : intT Tryd.prog 125 = none := by kernel_rfl
theorem ty_eq125 : eqT Tryd.prog 125 = some [true, true, false, true, true, true, true, true, true, false, false] := by kernel_rfl
theorem ty_ifc125 : ifaceT Tryd.prog 125 = false := by kernel_rfl
theorem ty_m125_0 : methA Tryd.prog 125 "plugboard/pipes.endpoint" = some 82 := by kernel_rfl
theorem ty_k125_0 : nilOk Tryd.prog 125 "plugboard/pipes.endpoint" = true := by kernel_rfl
theorem ty_m125_1 : methA Tryd.prog 125 "plugboard/pipes.paced" = some 79 := by kernel_rfl
theorem ty_k125_1 : nilOk Tryd.prog 125 "plugboard/pipes.paced" = true := by kernel_rfl
theorem ty_m125_2 : methA Tryd.prog 125 "plugboard/pipes.periodic" = some 123 := by kernel_rfl
theorem ty_k125_2 : nilOk Tryd.prog 125 "plugboard/pipes.periodic" = true := by kernel_rfl
theorem ty_m125_3 : methA Tryd.prog 125 "plugboard/pipes.placed" = some 78 := by kernel_rfl
theorem ty_k125_3 : nilOk Tryd.prog 125 "plugboard/pipes.placed" = true := by kernel_rfl
theorem ty_bool125 : boolT Tryd.prog 125 = false := by kernel_rfl
theorem ty_f125_0 : fieldT Tryd.prog 125 0 = some (0, 1, false) := by kernel_rfl
theorem ty_f125_1 : fieldT Tryd.prog 125 1 = some (1, 1, false) := by kernel_rfl
theorem ty_f125_2 : fieldT Tryd.prog 125 2 = some (2, 1, false) := by kernel_rfl
theorem ty_f125_3 : fieldT Tryd.prog 125 3 = some (3, 1, false) := by kernel_rfl
theorem ty_f125_4 : fieldT Tryd.prog 125 4 = some (4, 1, false) := by kernel_rfl
theorem ty_f125_5 : fieldT Tryd.prog 125 5 = some (5, 1, false) := by kernel_rfl
theorem ty_f125_6 : fieldT Tryd.prog 125 6 = some (6, 1, false) := by kernel_rfl
theorem ty_f125_7 : fieldT Tryd.prog 125 7 = some (7, 1, false) := by kernel_rfl
theorem ty_f125_8 : fieldT Tryd.prog 125 8 = some (8, 1, false) := by kernel_rfl
theorem ty_f125_9 : fieldT Tryd.prog 125 9 = some (9, 1, false) := by kernel_rfl
theorem ty_f125_10 : fieldT Tryd.prog 125 10 = some (10, 1, false) := by kernel_rfl
theorem ty_pl125 : placeT Tryd.prog 125 = some (fun i => #[(0, 1), (1, 1), (2, 1), (3, 1), (4, 1), (5, 1), (6, 1), (7, 1), (8, 1), (9, 1), (10, 1)][i]?) := by kernel_rfl
theorem ty_z125 : zeroT Tryd.prog 125 = some [.int .u8 (0), .int .u8 (0), .bool false, .int .u8 (0), .int .i64 (0), .int .i64 (0), .int .u8 (0), .int .u8 (0), .int .u8 (0), .bool false, .bool false] := by kernel_rfl
theorem ty_ag126 : aggT Tryd.prog 126 = some true := by kernel_rfl
theorem ty_sz126 : szT Tryd.prog 126 = some 5 := by kernel_rfl
theorem ty_int126 : intT Tryd.prog 126 = none := by kernel_rfl
theorem ty_eq126 : eqT Tryd.prog 126 = some [true, true, true, true, true] := by kernel_rfl
theorem ty_ifc126 : ifaceT Tryd.prog 126 = false := by kernel_rfl
theorem ty_bool126 : boolT Tryd.prog 126 = false := by kernel_rfl
theorem ty_f126_0 : fieldT Tryd.prog 126 0 = some (0, 1, false) := by kernel_rfl
theorem ty_f126_1 : fieldT Tryd.prog 126 1 = some (1, 1, false) := by kernel_rfl
theorem ty_f126_2 : fieldT Tryd.prog 126 2 = some (2, 1, false) := by kernel_rfl
theorem ty_f126_3 : fieldT Tryd.prog 126 3 = some (3, 1, false) := by kernel_rfl
theorem ty_f126_4 : fieldT Tryd.prog 126 4 = some (4, 1, false) := by kernel_rfl
theorem ty_pl126 : placeT Tryd.prog 126 = some (fun i => #[(0, 1), (1, 1), (2, 1), (3, 1), (4, 1)][i]?) := by kernel_rfl
theorem ty_z126 : zeroT Tryd.prog 126 = some [.int .u8 (0), .int .u8 (0), .int .u16 (0), .int .u16 (0), .int .u16 (0)] := by kernel_rfl
theorem ty_ag127 : aggT Tryd.prog 127 = some true := by kernel_rfl
theorem ty_sz127 : szT Tryd.prog 127 = some 5 := by kernel_rfl
theorem ty_int127 : intT Tryd.prog 127 = none := by kernel_rfl
theorem ty_eq127 : eqT Tryd.prog 127 = some [true, true, true, true, true] := by kernel_rfl
theorem ty_ifc127 : ifaceT Tryd.prog 127 = false := by kernel_rfl
theorem ty_bool127 : boolT Tryd.prog 127 = false := by kernel_rfl
theorem ty_f127_0 : fieldT Tryd.prog 127 0 = some (0, 1, false) := by kernel_rfl
theorem ty_f127_1 : fieldT Tryd.prog 127 1 = some (1, 1, false) := by kernel_rfl
theorem ty_f127_2 : fieldT Tryd.prog 127 2 = some (2, 1, false) := by kernel_rfl
theorem ty_f127_3 : fieldT Tryd.prog 127 3 = some (3, 1, false) := by kernel_rfl
theorem ty_f127_4 : fieldT Tryd.prog 127 4 = some (4, 1, false) := by kernel_rfl
theorem ty_pl127 : placeT Tryd.prog 127 = some (fun i => #[(0, 1), (1, 1), (2, 1), (3, 1), (4, 1)][i]?) := by kernel_rfl
theorem ty_z127 : zeroT Tryd.prog 127 = some [.int .u8 (0), .int .u8 (0), .int .u16 (0), .int .u16 (0), .int .u16 (0)] := by kernel_rfl
theorem ty_ag128 : aggT Tryd.prog 128 = some true := by kernel_rfl
theorem ty_sz128 : szT Tryd.prog 128 = some 10 := by kernel_rfl
theorem ty_int128 : intT Tryd.prog 128 = none := by kernel_rfl
theorem ty_ifc128 : ifaceT Tryd.prog 128 = false := by kernel_rfl
theorem ty_bool128 : boolT Tryd.prog 128 = false := by kernel_rfl
theorem ty_f128_0 : fieldT Tryd.prog 128 0 = some (0, 5, true) := by kernel_rfl
theorem ty_f128_1 : fieldT Tryd.prog 128 1 = some (5, 1, false) := by kernel_rfl
theorem ty_f128_2 : fieldT Tryd.prog 128 2 = some (6, 1, false) := by kernel_rfl
theorem ty_f128_3 : fieldT Tryd.prog 128 3 = some (7, 1, false) := by kernel_rfl
theorem ty_f128_4 : fieldT Tryd.prog 128 4 = some (8, 1, false) := by kernel_rfl
theorem ty_f128_5 : fieldT Tryd.prog 128 5 = some (9, 1, false) := by kernel_rfl
theorem ty_pl128 : placeT Tryd.prog 128 = some (fun i => #[(0, 5), (5, 1), (6, 1), (7, 1), (8, 1), (9, 1)][i]?) := by kernel_rfl
theorem ty_z128 : zeroT Tryd.prog 128 = some [.int .u8 (0), .int .u8 (0), .int .u16 (0), .int .u16 (0), .int .u16 (0), .slice none 0 0, .int .i64 (0), .bool false, .slice none 0 0, .int .i64 (0)] := by kernel_rfl
theorem ty_ag129 : aggT Tryd.prog 129 = some true := by kernel_rfl
theorem ty_sz129 : szT Tryd.prog 129 = some 10 := by kernel_rfl
theorem ty_int129 : intT Tryd.prog 129 = none := by kernel_rfl
theorem ty_ifc129 : ifaceT Tryd.prog 129 = false := by kernel_rfl
theorem ty_m129_0 : methA Tryd.prog 129 "plugboard/pipes.great" = some 88 := by kernel_rfl
theorem ty_k129_0 : nilOk Tryd.prog 129 "plugboard/pipes.great" = true := by kernel_rfl
theorem ty_m129_1 : methA Tryd.prog 129 "plugboard/pipes.strange" = some 87 := by kernel_rfl
theorem ty_k129_1 : nilOk Tryd.prog 129 "plugboard/pipes.strange" = true := by kernel_rfl
theorem ty_bool129 : boolT Tryd.prog 129 = false := by kernel_rfl
theorem ty_f129_0 : fieldT Tryd.prog 129 0 = some (0, 5, true) := by kernel_rfl
theorem ty_f129_1 : fieldT Tryd.prog 129 1 = some (5, 1, false) := by kernel_rfl
theorem ty_f129_2 : fieldT Tryd.prog 129 2 = some (6, 1, false) := by kernel_rfl
theorem ty_f129_3 : fieldT Tryd.prog 129 3 = some (7, 1, false) := by kernel_rfl
theorem ty_f129_4 : fieldT Tryd.prog 129 4 = some (8, 1, false) := by kernel_rfl
theorem ty_f129_5 : fieldT Tryd.prog 129 5 = some (9, 1, false) := by kernel_rfl
theorem ty_pl129 : placeT Tryd.prog 129 = some (fun i => #[(0, 5), (5, 1), (6, 1), (7, 1), (8, 1), (9, 1)][i]?) := by kernel_rfl
theorem ty_z129 : zeroT Tryd.prog 129 = some [.int .u8 (0), .int .u8 (0), .int .u16 (0), .int .u16 (0), .int .u16 (0), .slice none 0 0, .int .i64 (0), .bool false, .slice none 0 0, .int .i64 (0)] := by kernel_rfl
theorem ty_ag130 : aggT Tryd.prog 130 = some false := by kernel_rfl
theorem ty_sz130 : szT Tryd.prog 130 = some 1 := by kernel_rfl
theorem ty_int130 : intT Tryd.prog 130 = none := by kernel_rfl
theorem ty_ifc130 : ifaceT Tryd.prog 130 = false := by kernel_rfl
theorem ty_m130_0 : methA Tryd.prog 130 "Add" = some 45 := by kernel_rfl
theorem ty_k130_0 : nilOk Tryd.prog 130 "Add" = true := by kernel_rfl
theorem ty_m130_1 : methA Tryd.prog 130 "Answer" = some 50 := by kernel_rfl
theorem ty_k130_1 : nilOk Tryd.prog 130 "Answer" = true := by kernel_rfl
theorem ty_m130_2 : methA Tryd.prog 130 "Cancel" = some 51 := by kernel_rfl
theorem ty_k130_2 : nilOk Tryd.prog 130 "Cancel" = true := by kernel_rfl
theorem ty_m130_3 : methA Tryd.prog 130 "Clear" = some 52 := by kernel_rfl
theorem ty_k130_3 : nilOk Tryd.prog 130 "Clear" = true := by kernel_rfl
theorem ty_m130_4 : methA Tryd.prog 130 "Done" = some 53 := by kernel_rfl
theorem ty_k130_4 : nilOk Tryd.prog 130 "Done" = true := by kernel_rfl
theorem ty_m130_5 : methA Tryd.prog 130 "Next" = some 49 := by kernel_rfl
theorem ty_k130_5 : nilOk Tryd.prog 130 "Next" = true := by kernel_rfl
theorem ty_m130_6 : methA Tryd.prog 130 "Open" = some 55 := by kernel_rfl
theorem ty_k130_6 : nilOk Tryd.prog 130 "Open" = true := by kernel_rfl
theorem ty_m130_7 : methA Tryd.prog 130 "Pipe" = some 48 := by kernel_rfl
theorem ty_k130_7 : nilOk Tryd.prog 130 "Pipe" = true := by kernel_rfl
theorem ty_m130_8 : methA Tryd.prog 130 "Remove" = some 44 := by kernel_rfl
theorem ty_k130_8 : nilOk Tryd.prog 130 "Remove" = true := by kernel_rfl
theorem ty_m130_9 : methA Tryd.prog 130 "Submit" = some 46 := by kernel_rfl
theorem ty_k130_9 : nilOk Tryd.prog 130 "Submit" = true := by kernel_rfl
theorem ty_m130_10 : methA Tryd.prog 130 "Waiting" = some 54 := by kernel_rfl
theorem ty_k130_10 : nilOk Tryd.prog 130 "Waiting" = true := by kernel_rfl
theorem ty_m130_11 : methA Tryd.prog 130 "plugboard/urbs.at" = some 92 := by kernel_rfl
theorem ty_k130_11 : nilOk Tryd.prog 130 "plugboard/urbs.at" = true := by kernel_rfl
theorem ty_m130_12 : methA Tryd.prog 130 "plugboard/urbs.end" = some 93 := by kernel_rfl
theorem ty_k130_12 : nilOk Tryd.prog 130 "plugboard/urbs.end" = true := by kernel_rfl
theorem ty_m130_13 : methA Tryd.prog 130 "plugboard/urbs.found" = some 84 := by kernel_rfl
theorem ty_k130_13 : nilOk Tryd.prog 130 "plugboard/urbs.found" = true := by kernel_rfl
theorem ty_m130_14 : methA Tryd.prog 130 "plugboard/urbs.none" = some 83 := by kernel_rfl
theorem ty_k130_14 : nilOk Tryd.prog 130 "plugboard/urbs.none" = true := by kernel_rfl
theorem ty_m130_15 : methA Tryd.prog 130 "plugboard/urbs.settle" = some 95 := by kernel_rfl
theorem ty_k130_15 : nilOk Tryd.prog 130 "plugboard/urbs.settle" = true := by kernel_rfl
theorem ty_m130_16 : methA Tryd.prog 130 "plugboard/urbs.stop" = some 85 := by kernel_rfl
theorem ty_k130_16 : nilOk Tryd.prog 130 "plugboard/urbs.stop" = true := by kernel_rfl
theorem ty_bool130 : boolT Tryd.prog 130 = false := by kernel_rfl
theorem ty_z130 : zeroT Tryd.prog 130 = some [.pointer none] := by kernel_rfl
theorem ty_ag131 : aggT Tryd.prog 131 = some false := by kernel_rfl
theorem ty_sz131 : szT Tryd.prog 131 = some 1 := by kernel_rfl
theorem ty_int131 : intT Tryd.prog 131 = none := by kernel_rfl
theorem ty_ifc131 : ifaceT Tryd.prog 131 = false := by kernel_rfl
theorem ty_bool131 : boolT Tryd.prog 131 = false := by kernel_rfl
theorem ty_z131 : zeroT Tryd.prog 131 = some [.nilFunc] := by kernel_rfl
theorem ty_ag132 : aggT Tryd.prog 132 = some false := by kernel_rfl
theorem ty_sz132 : szT Tryd.prog 132 = some 1 := by kernel_rfl
theorem ty_int132 : intT Tryd.prog 132 = none := by kernel_rfl
theorem ty_ifc132 : ifaceT Tryd.prog 132 = false := by kernel_rfl
theorem ty_bool132 : boolT Tryd.prog 132 = false := by kernel_rfl
theorem ty_z132 : zeroT Tryd.prog 132 = some [.nilFunc] := by kernel_rfl
theorem ty_ag133 : aggT Tryd.prog 133 = some false := by kernel_rfl
theorem ty_sz133 : szT Tryd.prog 133 = some 1 := by kernel_rfl
theorem ty_int133 : intT Tryd.prog 133 = none := by kernel_rfl
theorem ty_ifc133 : ifaceT Tryd.prog 133 = false := by kernel_rfl
theorem ty_bool133 : boolT Tryd.prog 133 = false := by kernel_rfl
theorem ty_z133 : zeroT Tryd.prog 133 = some [.nilFunc] := by kernel_rfl
theorem ty_ag134 : aggT Tryd.prog 134 = some false := by kernel_rfl
theorem ty_sz134 : szT Tryd.prog 134 = some 1 := by kernel_rfl
theorem ty_int134 : intT Tryd.prog 134 = none := by kernel_rfl
theorem ty_ifc134 : ifaceT Tryd.prog 134 = false := by kernel_rfl
theorem ty_bool134 : boolT Tryd.prog 134 = false := by kernel_rfl
theorem ty_z134 : zeroT Tryd.prog 134 = some [.nilFunc] := by kernel_rfl
theorem ty_ag136 : aggT Tryd.prog 136 = some false := by kernel_rfl
theorem ty_sz136 : szT Tryd.prog 136 = some 1 := by kernel_rfl
theorem ty_int136 : intT Tryd.prog 136 = none := by kernel_rfl
theorem ty_ifc136 : ifaceT Tryd.prog 136 = false := by kernel_rfl
theorem ty_bool136 : boolT Tryd.prog 136 = false := by kernel_rfl
theorem ty_z136 : zeroT Tryd.prog 136 = some [.nilFunc] := by kernel_rfl
theorem ty_ag137 : aggT Tryd.prog 137 = some true := by kernel_rfl
theorem ty_sz137 : szT Tryd.prog 137 = some 11 := by kernel_rfl
theorem ty_int137 : intT Tryd.prog 137 = none := by kernel_rfl
theorem ty_ifc137 : ifaceT Tryd.prog 137 = false := by kernel_rfl
theorem ty_bool137 : boolT Tryd.prog 137 = false := by kernel_rfl
theorem ty_f137_0 : fieldT Tryd.prog 137 0 = some (0, 1, false) := by kernel_rfl
theorem ty_f137_1 : fieldT Tryd.prog 137 1 = some (1, 10, true) := by kernel_rfl
theorem ty_pl137 : placeT Tryd.prog 137 = some (fun i => #[(0, 1), (1, 10)][i]?) := by kernel_rfl
theorem ty_z137 : zeroT Tryd.prog 137 = some [.int .i64 (0), .int .u8 (0), .int .u8 (0), .int .u16 (0), .int .u16 (0), .int .u16 (0), .slice none 0 0, .int .i64 (0), .bool false, .slice none 0 0, .int .i64 (0)] := by kernel_rfl
theorem ty_ag138 : aggT Tryd.prog 138 = some true := by kernel_rfl
theorem ty_sz138 : szT Tryd.prog 138 = some 11 := by kernel_rfl
theorem ty_int138 : intT Tryd.prog 138 = none := by kernel_rfl
theorem ty_ifc138 : ifaceT Tryd.prog 138 = false := by kernel_rfl
theorem ty_bool138 : boolT Tryd.prog 138 = false := by kernel_rfl
theorem ty_f138_0 : fieldT Tryd.prog 138 0 = some (0, 1, false) := by kernel_rfl
theorem ty_f138_1 : fieldT Tryd.prog 138 1 = some (1, 10, true) := by kernel_rfl
theorem ty_pl138 : placeT Tryd.prog 138 = some (fun i => #[(0, 1), (1, 10)][i]?) := by kernel_rfl
theorem ty_z138 : zeroT Tryd.prog 138 = some [.int .i64 (0), .int .u8 (0), .int .u8 (0), .int .u16 (0), .int .u16 (0), .int .u16 (0), .slice none 0 0, .int .i64 (0), .bool false, .slice none 0 0, .int .i64 (0)] := by kernel_rfl
theorem ty_ag139 : aggT Tryd.prog 139 = some false := by kernel_rfl
theorem ty_sz139 : szT Tryd.prog 139 = some 1 := by kernel_rfl
theorem ty_int139 : intT Tryd.prog 139 = some .u8 := by kernel_rfl
theorem ty_ifc139 : ifaceT Tryd.prog 139 = false := by kernel_rfl
theorem ty_bool139 : boolT Tryd.prog 139 = false := by kernel_rfl
theorem ty_z139 : zeroT Tryd.prog 139 = some [.int .u8 (0)] := by kernel_rfl
theorem ty_ag140 : aggT Tryd.prog 140 = some true := by kernel_rfl
theorem ty_sz140 : szT Tryd.prog 140 = some 13 := by kernel_rfl
theorem ty_int140 : intT Tryd.prog 140 = none := by kernel_rfl
theorem ty_ifc140 : ifaceT Tryd.prog 140 = false := by kernel_rfl
theorem ty_bool140 : boolT Tryd.prog 140 = false := by kernel_rfl
theorem ty_f140_0 : fieldT Tryd.prog 140 0 = some (0, 1, false) := by kernel_rfl
theorem ty_f140_1 : fieldT Tryd.prog 140 1 = some (1, 5, true) := by kernel_rfl
theorem ty_f140_2 : fieldT Tryd.prog 140 2 = some (6, 1, false) := by kernel_rfl
theorem ty_f140_3 : fieldT Tryd.prog 140 3 = some (7, 1, false) := by kernel_rfl
theorem ty_f140_4 : fieldT Tryd.prog 140 4 = some (8, 1, false) := by kernel_rfl
theorem ty_f140_5 : fieldT Tryd.prog 140 5 = some (9, 1, false) := by kernel_rfl
theorem ty_f140_6 : fieldT Tryd.prog 140 6 = some (10, 1, false) := by kernel_rfl
theorem ty_f140_7 : fieldT Tryd.prog 140 7 = some (11, 1, false) := by kernel_rfl
theorem ty_f140_8 : fieldT Tryd.prog 140 8 = some (12, 1, false) := by kernel_rfl
theorem ty_pl140 : placeT Tryd.prog 140 = some (fun i => #[(0, 1), (1, 5), (6, 1), (7, 1), (8, 1), (9, 1), (10, 1), (11, 1), (12, 1)][i]?) := by kernel_rfl
theorem ty_z140 : zeroT Tryd.prog 140 = some [.int .u8 (0), .int .u8 (0), .int .u8 (0), .int .u16 (0), .int .u16 (0), .int .u16 (0), .slice none 0 0, .int .i64 (0), .bool false, .int .i64 (0), .slice none 0 0, .int .i64 (0), .int .i64 (0)] := by kernel_rfl
theorem ty_ag141 : aggT Tryd.prog 141 = some true := by kernel_rfl
theorem ty_sz141 : szT Tryd.prog 141 = some 13 := by kernel_rfl
theorem ty_int141 : intT Tryd.prog 141 = none := by kernel_rfl
theorem ty_ifc141 : ifaceT Tryd.prog 141 = false := by kernel_rfl
theorem ty_bool141 : boolT Tryd.prog 141 = false := by kernel_rfl
theorem ty_f141_0 : fieldT Tryd.prog 141 0 = some (0, 1, false) := by kernel_rfl
theorem ty_f141_1 : fieldT Tryd.prog 141 1 = some (1, 5, true) := by kernel_rfl
theorem ty_f141_2 : fieldT Tryd.prog 141 2 = some (6, 1, false) := by kernel_rfl
theorem ty_f141_3 : fieldT Tryd.prog 141 3 = some (7, 1, false) := by kernel_rfl
theorem ty_f141_4 : fieldT Tryd.prog 141 4 = some (8, 1, false) := by kernel_rfl
theorem ty_f141_5 : fieldT Tryd.prog 141 5 = some (9, 1, false) := by kernel_rfl
theorem ty_f141_6 : fieldT Tryd.prog 141 6 = some (10, 1, false) := by kernel_rfl
theorem ty_f141_7 : fieldT Tryd.prog 141 7 = some (11, 1, false) := by kernel_rfl
theorem ty_f141_8 : fieldT Tryd.prog 141 8 = some (12, 1, false) := by kernel_rfl
theorem ty_pl141 : placeT Tryd.prog 141 = some (fun i => #[(0, 1), (1, 5), (6, 1), (7, 1), (8, 1), (9, 1), (10, 1), (11, 1), (12, 1)][i]?) := by kernel_rfl
theorem ty_z141 : zeroT Tryd.prog 141 = some [.int .u8 (0), .int .u8 (0), .int .u8 (0), .int .u16 (0), .int .u16 (0), .int .u16 (0), .slice none 0 0, .int .i64 (0), .bool false, .int .i64 (0), .slice none 0 0, .int .i64 (0), .int .i64 (0)] := by kernel_rfl
theorem ty_ag142 : aggT Tryd.prog 142 = some true := by kernel_rfl
theorem ty_sz142 : szT Tryd.prog 142 = some 7 := by kernel_rfl
theorem ty_int142 : intT Tryd.prog 142 = none := by kernel_rfl
theorem ty_ifc142 : ifaceT Tryd.prog 142 = false := by kernel_rfl
theorem ty_bool142 : boolT Tryd.prog 142 = false := by kernel_rfl
theorem ty_f142_0 : fieldT Tryd.prog 142 0 = some (0, 1, false) := by kernel_rfl
theorem ty_f142_1 : fieldT Tryd.prog 142 1 = some (1, 1, false) := by kernel_rfl
theorem ty_f142_2 : fieldT Tryd.prog 142 2 = some (2, 1, false) := by kernel_rfl
theorem ty_f142_3 : fieldT Tryd.prog 142 3 = some (3, 1, false) := by kernel_rfl
theorem ty_f142_4 : fieldT Tryd.prog 142 4 = some (4, 1, false) := by kernel_rfl
theorem ty_f142_5 : fieldT Tryd.prog 142 5 = some (5, 1, false) := by kernel_rfl
theorem ty_f142_6 : fieldT Tryd.prog 142 6 = some (6, 1, false) := by kernel_rfl
theorem ty_pl142 : placeT Tryd.prog 142 = some (fun i => #[(0, 1), (1, 1), (2, 1), (3, 1), (4, 1), (5, 1), (6, 1)][i]?) := by kernel_rfl
theorem ty_z142 : zeroT Tryd.prog 142 = some [.bool false, .int .u8 (0), .int .i64 (0), .bool false, .slice none 0 0, .bool false, .int .i64 (0)] := by kernel_rfl
theorem ty_ag143 : aggT Tryd.prog 143 = some true := by kernel_rfl
theorem ty_sz143 : szT Tryd.prog 143 = some 7 := by kernel_rfl
theorem ty_int143 : intT Tryd.prog 143 = none := by kernel_rfl
theorem ty_ifc143 : ifaceT Tryd.prog 143 = false := by kernel_rfl
theorem ty_bool143 : boolT Tryd.prog 143 = false := by kernel_rfl
theorem ty_f143_0 : fieldT Tryd.prog 143 0 = some (0, 1, false) := by kernel_rfl
theorem ty_f143_1 : fieldT Tryd.prog 143 1 = some (1, 1, false) := by kernel_rfl
theorem ty_f143_2 : fieldT Tryd.prog 143 2 = some (2, 1, false) := by kernel_rfl
theorem ty_f143_3 : fieldT Tryd.prog 143 3 = some (3, 1, false) := by kernel_rfl
theorem ty_f143_4 : fieldT Tryd.prog 143 4 = some (4, 1, false) := by kernel_rfl
theorem ty_f143_5 : fieldT Tryd.prog 143 5 = some (5, 1, false) := by kernel_rfl
theorem ty_f143_6 : fieldT Tryd.prog 143 6 = some (6, 1, false) := by kernel_rfl
theorem ty_pl143 : placeT Tryd.prog 143 = some (fun i => #[(0, 1), (1, 1), (2, 1), (3, 1), (4, 1), (5, 1), (6, 1)][i]?) := by kernel_rfl
theorem ty_z143 : zeroT Tryd.prog 143 = some [.bool false, .int .u8 (0), .int .i64 (0), .bool false, .slice none 0 0, .bool false, .int .i64 (0)] := by kernel_rfl
theorem ty_ag144 : aggT Tryd.prog 144 = some true := by kernel_rfl
theorem ty_sz144 : szT Tryd.prog 144 = some 13 := by kernel_rfl
theorem ty_int144 : intT Tryd.prog 144 = none := by kernel_rfl
theorem ty_ifc144 : ifaceT Tryd.prog 144 = false := by kernel_rfl
theorem ty_bool144 : boolT Tryd.prog 144 = false := by kernel_rfl
theorem ty_f144_0 : fieldT Tryd.prog 144 0 = some (0, 7, true) := by kernel_rfl
theorem ty_f144_1 : fieldT Tryd.prog 144 1 = some (7, 1, false) := by kernel_rfl
theorem ty_f144_2 : fieldT Tryd.prog 144 2 = some (8, 1, false) := by kernel_rfl
theorem ty_f144_3 : fieldT Tryd.prog 144 3 = some (9, 1, false) := by kernel_rfl
theorem ty_f144_4 : fieldT Tryd.prog 144 4 = some (10, 1, false) := by kernel_rfl
theorem ty_f144_5 : fieldT Tryd.prog 144 5 = some (11, 1, false) := by kernel_rfl
theorem ty_f144_6 : fieldT Tryd.prog 144 6 = some (12, 1, false) := by kernel_rfl
theorem ty_pl144 : placeT Tryd.prog 144 = some (fun i => #[(0, 7), (7, 1), (8, 1), (9, 1), (10, 1), (11, 1), (12, 1)][i]?) := by kernel_rfl
theorem ty_z144 : zeroT Tryd.prog 144 = some [.bool false, .int .u8 (0), .int .i64 (0), .bool false, .slice none 0 0, .bool false, .int .i64 (0), .slice none 0 0, .slice none 0 0, .int .i64 (0), .int .i64 (0), .bool false, .int .i64 (0)] := by kernel_rfl
theorem ty_ag145 : aggT Tryd.prog 145 = some true := by kernel_rfl
theorem ty_sz145 : szT Tryd.prog 145 = some 13 := by kernel_rfl
theorem ty_int145 : intT Tryd.prog 145 = none := by kernel_rfl
theorem ty_ifc145 : ifaceT Tryd.prog 145 = false := by kernel_rfl
theorem ty_bool145 : boolT Tryd.prog 145 = false := by kernel_rfl
theorem ty_f145_0 : fieldT Tryd.prog 145 0 = some (0, 7, true) := by kernel_rfl
theorem ty_f145_1 : fieldT Tryd.prog 145 1 = some (7, 1, false) := by kernel_rfl
theorem ty_f145_2 : fieldT Tryd.prog 145 2 = some (8, 1, false) := by kernel_rfl
theorem ty_f145_3 : fieldT Tryd.prog 145 3 = some (9, 1, false) := by kernel_rfl
theorem ty_f145_4 : fieldT Tryd.prog 145 4 = some (10, 1, false) := by kernel_rfl
theorem ty_f145_5 : fieldT Tryd.prog 145 5 = some (11, 1, false) := by kernel_rfl
theorem ty_f145_6 : fieldT Tryd.prog 145 6 = some (12, 1, false) := by kernel_rfl
theorem ty_pl145 : placeT Tryd.prog 145 = some (fun i => #[(0, 7), (7, 1), (8, 1), (9, 1), (10, 1), (11, 1), (12, 1)][i]?) := by kernel_rfl
theorem ty_z145 : zeroT Tryd.prog 145 = some [.bool false, .int .u8 (0), .int .i64 (0), .bool false, .slice none 0 0, .bool false, .int .i64 (0), .slice none 0 0, .slice none 0 0, .int .i64 (0), .int .i64 (0), .bool false, .int .i64 (0)] := by kernel_rfl
theorem ty_ag146 : aggT Tryd.prog 146 = some true := by kernel_rfl
theorem ty_sz146 : szT Tryd.prog 146 = some 5 := by kernel_rfl
theorem ty_int146 : intT Tryd.prog 146 = none := by kernel_rfl
theorem ty_ifc146 : ifaceT Tryd.prog 146 = false := by kernel_rfl
theorem ty_bool146 : boolT Tryd.prog 146 = false := by kernel_rfl
theorem ty_f146_0 : fieldT Tryd.prog 146 0 = some (0, 1, false) := by kernel_rfl
theorem ty_f146_1 : fieldT Tryd.prog 146 1 = some (1, 1, false) := by kernel_rfl
theorem ty_f146_2 : fieldT Tryd.prog 146 2 = some (2, 1, false) := by kernel_rfl
theorem ty_f146_3 : fieldT Tryd.prog 146 3 = some (3, 1, false) := by kernel_rfl
theorem ty_f146_4 : fieldT Tryd.prog 146 4 = some (4, 1, false) := by kernel_rfl
theorem ty_pl146 : placeT Tryd.prog 146 = some (fun i => #[(0, 1), (1, 1), (2, 1), (3, 1), (4, 1)][i]?) := by kernel_rfl
theorem ty_z146 : zeroT Tryd.prog 146 = some [.bool false, .int .u8 (0), .int .i64 (0), .slice none 0 0, .int .i64 (0)] := by kernel_rfl
theorem ty_ag147 : aggT Tryd.prog 147 = some true := by kernel_rfl
theorem ty_sz147 : szT Tryd.prog 147 = some 5 := by kernel_rfl
theorem ty_int147 : intT Tryd.prog 147 = none := by kernel_rfl
theorem ty_ifc147 : ifaceT Tryd.prog 147 = false := by kernel_rfl
theorem ty_bool147 : boolT Tryd.prog 147 = false := by kernel_rfl
theorem ty_f147_0 : fieldT Tryd.prog 147 0 = some (0, 1, false) := by kernel_rfl
theorem ty_f147_1 : fieldT Tryd.prog 147 1 = some (1, 1, false) := by kernel_rfl
theorem ty_f147_2 : fieldT Tryd.prog 147 2 = some (2, 1, false) := by kernel_rfl
theorem ty_f147_3 : fieldT Tryd.prog 147 3 = some (3, 1, false) := by kernel_rfl
theorem ty_f147_4 : fieldT Tryd.prog 147 4 = some (4, 1, false) := by kernel_rfl
theorem ty_pl147 : placeT Tryd.prog 147 = some (fun i => #[(0, 1), (1, 1), (2, 1), (3, 1), (4, 1)][i]?) := by kernel_rfl
theorem ty_z147 : zeroT Tryd.prog 147 = some [.bool false, .int .u8 (0), .int .i64 (0), .slice none 0 0, .int .i64 (0)] := by kernel_rfl
theorem ty_ag148 : aggT Tryd.prog 148 = some false := by kernel_rfl
theorem ty_sz148 : szT Tryd.prog 148 = some 1 := by kernel_rfl
theorem ty_int148 : intT Tryd.prog 148 = none := by kernel_rfl
theorem ty_ifc148 : ifaceT Tryd.prog 148 = false := by kernel_rfl
theorem ty_bool148 : boolT Tryd.prog 148 = false := by kernel_rfl
theorem ty_elem148 : elemT Tryd.prog 148 = some (319, 2, true) := by kernel_rfl
theorem ty_app148 : appT Tryd.prog 148 = some (319, 2, 32) := by kernel_rfl
theorem ty_z148 : zeroT Tryd.prog 148 = some [.slice none 0 0] := by kernel_rfl
theorem ty_ag149 : aggT Tryd.prog 149 = some true := by kernel_rfl
theorem ty_sz149 : szT Tryd.prog 149 = some 7 := by kernel_rfl
theorem ty_int149 : intT Tryd.prog 149 = none := by kernel_rfl
theorem ty_ifc149 : ifaceT Tryd.prog 149 = false := by kernel_rfl
theorem ty_bool149 : boolT Tryd.prog 149 = false := by kernel_rfl
theorem ty_f149_0 : fieldT Tryd.prog 149 0 = some (0, 5, true) := by kernel_rfl
theorem ty_f149_1 : fieldT Tryd.prog 149 1 = some (5, 1, false) := by kernel_rfl
theorem ty_f149_2 : fieldT Tryd.prog 149 2 = some (6, 1, false) := by kernel_rfl
theorem ty_pl149 : placeT Tryd.prog 149 = some (fun i => #[(0, 5), (5, 1), (6, 1)][i]?) := by kernel_rfl
theorem ty_z149 : zeroT Tryd.prog 149 = some [.bool false, .int .u8 (0), .int .i64 (0), .slice none 0 0, .int .i64 (0), .int .i64 (0), .slice none 0 0] := by kernel_rfl
theorem ty_ag150 : aggT Tryd.prog 150 = some true := by kernel_rfl
theorem ty_sz150 : szT Tryd.prog 150 = some 7 := by kernel_rfl
theorem ty_int150 : intT Tryd.prog 150 = none := by kernel_rfl
theorem ty_ifc150 : ifaceT Tryd.prog 150 = false := by kernel_rfl
theorem ty_bool150 : boolT Tryd.prog 150 = false := by kernel_rfl
theorem ty_f150_0 : fieldT Tryd.prog 150 0 = some (0, 5, true) := by kernel_rfl
theorem ty_f150_1 : fieldT Tryd.prog 150 1 = some (5, 1, false) := by kernel_rfl
theorem ty_f150_2 : fieldT Tryd.prog 150 2 = some (6, 1, false) := by kernel_rfl
theorem ty_pl150 : placeT Tryd.prog 150 = some (fun i => #[(0, 5), (5, 1), (6, 1)][i]?) := by kernel_rfl
theorem ty_z150 : zeroT Tryd.prog 150 = some [.bool false, .int .u8 (0), .int .i64 (0), .slice none 0 0, .int .i64 (0), .int .i64 (0), .slice none 0 0] := by kernel_rfl
theorem ty_ag151 : aggT Tryd.prog 151 = some true := by kernel_rfl
theorem ty_sz151 : szT Tryd.prog 151 = some 47 := by kernel_rfl
theorem ty_int151 : intT Tryd.prog 151 = none := by kernel_rfl
theorem ty_ifc151 : ifaceT Tryd.prog 151 = false := by kernel_rfl
theorem ty_bool151 : boolT Tryd.prog 151 = false := by kernel_rfl
theorem ty_f151_0 : fieldT Tryd.prog 151 0 = some (0, 1, false) := by kernel_rfl
theorem ty_f151_1 : fieldT Tryd.prog 151 1 = some (1, 11, true) := by kernel_rfl
theorem ty_f151_2 : fieldT Tryd.prog 151 2 = some (12, 13, true) := by kernel_rfl
theorem ty_f151_3 : fieldT Tryd.prog 151 3 = some (25, 13, true) := by kernel_rfl
theorem ty_f151_4 : fieldT Tryd.prog 151 4 = some (38, 7, true) := by kernel_rfl
theorem ty_f151_5 : fieldT Tryd.prog 151 5 = some (45, 1, false) := by kernel_rfl
theorem ty_f151_6 : fieldT Tryd.prog 151 6 = some (46, 1, false) := by kernel_rfl
theorem ty_pl151 : placeT Tryd.prog 151 = some (fun i => #[(0, 1), (1, 11), (12, 13), (25, 13), (38, 7), (45, 1), (46, 1)][i]?) := by kernel_rfl
theorem ty_z151 : zeroT Tryd.prog 151 = some [.bool false, .int .u8 (0), .int .u8 (0), .bool false, .int .u8 (0), .int .i64 (0), .int .i64 (0), .int .u8 (0), .int .u8 (0), .int .u8 (0), .bool false, .bool false, .int .u8 (0), .int .u8 (0), .int .u8 (0), .int .u16 (0), .int .u16 (0), .int .u16 (0), .slice none 0 0, .int .i64 (0), .bool false, .int .i64 (0), .slice none 0 0, .int .i64 (0), .int .i64 (0), .bool false, .int .u8 (0), .int .i64 (0), .bool false, .slice none 0 0, .bool false, .int .i64 (0), .slice none 0 0, .slice none 0 0, .int .i64 (0), .int .i64 (0), .bool false, .int .i64 (0), .bool false, .int .u8 (0), .int .i64 (0), .slice none 0 0, .int .i64 (0), .int .i64 (0), .slice none 0 0, .slice none 0 0, .int .i64 (0)] := by kernel_rfl
theorem ty_ag152 : aggT Tryd.prog 152 = some true := by kernel_rfl
theorem ty_sz152 : szT Tryd.prog 152 = some 47 := by kernel_rfl
theorem ty_int152 : intT Tryd.prog 152 = none := by kernel_rfl
theorem ty_ifc152 : ifaceT Tryd.prog 152 = false := by kernel_rfl
theorem ty_bool152 : boolT Tryd.prog 152 = false := by kernel_rfl
theorem ty_f152_0 : fieldT Tryd.prog 152 0 = some (0, 1, false) := by kernel_rfl
theorem ty_f152_1 : fieldT Tryd.prog 152 1 = some (1, 11, true) := by kernel_rfl
theorem ty_f152_2 : fieldT Tryd.prog 152 2 = some (12, 13, true) := by kernel_rfl
theorem ty_f152_3 : fieldT Tryd.prog 152 3 = some (25, 13, true) := by kernel_rfl
theorem ty_f152_4 : fieldT Tryd.prog 152 4 = some (38, 7, true) := by kernel_rfl
theorem ty_f152_5 : fieldT Tryd.prog 152 5 = some (45, 1, false) := by kernel_rfl
theorem ty_f152_6 : fieldT Tryd.prog 152 6 = some (46, 1, false) := by kernel_rfl
theorem ty_pl152 : placeT Tryd.prog 152 = some (fun i => #[(0, 1), (1, 11), (12, 13), (25, 13), (38, 7), (45, 1), (46, 1)][i]?) := by kernel_rfl
theorem ty_z152 : zeroT Tryd.prog 152 = some [.bool false, .int .u8 (0), .int .u8 (0), .bool false, .int .u8 (0), .int .i64 (0), .int .i64 (0), .int .u8 (0), .int .u8 (0), .int .u8 (0), .bool false, .bool false, .int .u8 (0), .int .u8 (0), .int .u8 (0), .int .u16 (0), .int .u16 (0), .int .u16 (0), .slice none 0 0, .int .i64 (0), .bool false, .int .i64 (0), .slice none 0 0, .int .i64 (0), .int .i64 (0), .bool false, .int .u8 (0), .int .i64 (0), .bool false, .slice none 0 0, .bool false, .int .i64 (0), .slice none 0 0, .slice none 0 0, .int .i64 (0), .int .i64 (0), .bool false, .int .i64 (0), .bool false, .int .u8 (0), .int .i64 (0), .slice none 0 0, .int .i64 (0), .int .i64 (0), .slice none 0 0, .slice none 0 0, .int .i64 (0)] := by kernel_rfl
theorem ty_ag154 : aggT Tryd.prog 154 = some false := by kernel_rfl
theorem ty_sz154 : szT Tryd.prog 154 = some 1 := by kernel_rfl
theorem ty_int154 : intT Tryd.prog 154 = none := by kernel_rfl
theorem ty_ifc154 : ifaceT Tryd.prog 154 = false := by kernel_rfl
theorem ty_bool154 : boolT Tryd.prog 154 = false := by kernel_rfl
theorem ty_z154 : zeroT Tryd.prog 154 = some [.nilFunc] := by kernel_rfl
theorem ty_ag155 : aggT Tryd.prog 155 = some false := by kernel_rfl
theorem ty_sz155 : szT Tryd.prog 155 = some 1 := by kernel_rfl
theorem ty_int155 : intT Tryd.prog 155 = none := by kernel_rfl
theorem ty_ifc155 : ifaceT Tryd.prog 155 = false := by kernel_rfl
theorem ty_bool155 : boolT Tryd.prog 155 = false := by kernel_rfl
theorem ty_z155 : zeroT Tryd.prog 155 = some [.map none] := by kernel_rfl
theorem ty_ag156 : aggT Tryd.prog 156 = some false := by kernel_rfl
theorem ty_sz156 : szT Tryd.prog 156 = some 1 := by kernel_rfl
theorem ty_int156 : intT Tryd.prog 156 = none := by kernel_rfl
theorem ty_ifc156 : ifaceT Tryd.prog 156 = false := by kernel_rfl
theorem ty_bool156 : boolT Tryd.prog 156 = false := by kernel_rfl
theorem ty_elem156 : elemT Tryd.prog 156 = some (173, 6, true) := by kernel_rfl
theorem ty_app156 : appT Tryd.prog 156 = some (173, 6, 80) := by kernel_rfl
theorem ty_z156 : zeroT Tryd.prog 156 = some [.slice none 0 0] := by kernel_rfl
theorem ty_ag157 : aggT Tryd.prog 157 = some true := by kernel_rfl
theorem ty_sz157 : szT Tryd.prog 157 = some 4 := by kernel_rfl
theorem ty_int157 : intT Tryd.prog 157 = none := by kernel_rfl
theorem ty_ifc157 : ifaceT Tryd.prog 157 = false := by kernel_rfl
theorem ty_bool157 : boolT Tryd.prog 157 = false := by kernel_rfl
theorem ty_f157_0 : fieldT Tryd.prog 157 0 = some (0, 1, false) := by kernel_rfl
theorem ty_f157_1 : fieldT Tryd.prog 157 1 = some (1, 1, false) := by kernel_rfl
theorem ty_f157_2 : fieldT Tryd.prog 157 2 = some (2, 1, false) := by kernel_rfl
theorem ty_f157_3 : fieldT Tryd.prog 157 3 = some (3, 1, false) := by kernel_rfl
theorem ty_pl157 : placeT Tryd.prog 157 = some (fun i => #[(0, 1), (1, 1), (2, 1), (3, 1)][i]?) := by kernel_rfl
theorem ty_z157 : zeroT Tryd.prog 157 = some [.map none, .int .i64 (0), .int .i64 (0), .slice none 0 0] := by kernel_rfl
theorem ty_ag158 : aggT Tryd.prog 158 = some true := by kernel_rfl
theorem ty_sz158 : szT Tryd.prog 158 = some 4 := by kernel_rfl
theorem ty_int158 : intT Tryd.prog 158 = none := by kernel_rfl
theorem ty_ifc158 : ifaceT Tryd.prog 158 = false := by kernel_rfl
theorem ty_bool158 : boolT Tryd.prog 158 = false := by kernel_rfl
theorem ty_f158_0 : fieldT Tryd.prog 158 0 = some (0, 1, false) := by kernel_rfl
theorem ty_f158_1 : fieldT Tryd.prog 158 1 = some (1, 1, false) := by kernel_rfl
theorem ty_f158_2 : fieldT Tryd.prog 158 2 = some (2, 1, false) := by kernel_rfl
theorem ty_f158_3 : fieldT Tryd.prog 158 3 = some (3, 1, false) := by kernel_rfl
theorem ty_pl158 : placeT Tryd.prog 158 = some (fun i => #[(0, 1), (1, 1), (2, 1), (3, 1)][i]?) := by kernel_rfl
theorem ty_z158 : zeroT Tryd.prog 158 = some [.map none, .int .i64 (0), .int .i64 (0), .slice none 0 0] := by kernel_rfl
theorem ty_ag159 : aggT Tryd.prog 159 = some false := by kernel_rfl
theorem ty_sz159 : szT Tryd.prog 159 = some 1 := by kernel_rfl
theorem ty_int159 : intT Tryd.prog 159 = none := by kernel_rfl
theorem ty_ifc159 : ifaceT Tryd.prog 159 = false := by kernel_rfl
theorem ty_bool159 : boolT Tryd.prog 159 = false := by kernel_rfl
theorem ty_elem159 : elemT Tryd.prog 159 = some (130, 1, false) := by kernel_rfl
theorem ty_app159 : appT Tryd.prog 159 = some (130, 1, 8) := by kernel_rfl
theorem ty_z159 : zeroT Tryd.prog 159 = some [.slice none 0 0] := by kernel_rfl
theorem ty_ag161 : aggT Tryd.prog 161 = some false := by kernel_rfl
theorem ty_sz161 : szT Tryd.prog 161 = some 1 := by kernel_rfl
theorem ty_int161 : intT Tryd.prog 161 = none := by kernel_rfl
theorem ty_ifc161 : ifaceT Tryd.prog 161 = false := by kernel_rfl
theorem ty_bool161 : boolT Tryd.prog 161 = false := by kernel_rfl
theorem ty_z161 : zeroT Tryd.prog 161 = some [.nilFunc] := by kernel_rfl
theorem ty_ag163 : aggT Tryd.prog 163 = some false := by kernel_rfl
theorem ty_sz163 : szT Tryd.prog 163 = some 1 := by kernel_rfl
theorem ty_int163 : intT Tryd.prog 163 = none := by kernel_rfl
theorem ty_ifc163 : ifaceT Tryd.prog 163 = false := by kernel_rfl
theorem ty_bool163 : boolT Tryd.prog 163 = false := by kernel_rfl
theorem ty_z163 : zeroT Tryd.prog 163 = some [.nilFunc] := by kernel_rfl
theorem ty_ag164 : aggT Tryd.prog 164 = some false := by kernel_rfl
theorem ty_sz164 : szT Tryd.prog 164 = some 1 := by kernel_rfl
theorem ty_int164 : intT Tryd.prog 164 = none := by kernel_rfl
theorem ty_ifc164 : ifaceT Tryd.prog 164 = false := by kernel_rfl
theorem ty_bool164 : boolT Tryd.prog 164 = false := by kernel_rfl
theorem ty_z164 : zeroT Tryd.prog 164 = some [.nilFunc] := by kernel_rfl
theorem ty_ag165 : aggT Tryd.prog 165 = some false := by kernel_rfl
theorem ty_sz165 : szT Tryd.prog 165 = some 1 := by kernel_rfl
theorem ty_int165 : intT Tryd.prog 165 = none := by kernel_rfl
theorem ty_ifc165 : ifaceT Tryd.prog 165 = false := by kernel_rfl
theorem ty_bool165 : boolT Tryd.prog 165 = false := by kernel_rfl
theorem ty_z165 : zeroT Tryd.prog 165 = some [.nilFunc] := by kernel_rfl
theorem ty_ag166 : aggT Tryd.prog 166 = some false := by kernel_rfl
theorem ty_sz166 : szT Tryd.prog 166 = some 1 := by kernel_rfl
theorem ty_int166 : intT Tryd.prog 166 = none := by kernel_rfl
theorem ty_ifc166 : ifaceT Tryd.prog 166 = false := by kernel_rfl
theorem ty_bool166 : boolT Tryd.prog 166 = false := by kernel_rfl
theorem ty_z166 : zeroT Tryd.prog 166 = some [.nilFunc] := by kernel_rfl
theorem ty_ag167 : aggT Tryd.prog 167 = some false := by kernel_rfl
theorem ty_sz167 : szT Tryd.prog 167 = some 1 := by kernel_rfl
theorem ty_int167 : intT Tryd.prog 167 = none := by kernel_rfl
theorem ty_ifc167 : ifaceT Tryd.prog 167 = false := by kernel_rfl
theorem ty_bool167 : boolT Tryd.prog 167 = false := by kernel_rfl
theorem ty_z167 : zeroT Tryd.prog 167 = some [.nilFunc] := by kernel_rfl
theorem ty_ag168 : aggT Tryd.prog 168 = some false := by kernel_rfl
theorem ty_sz168 : szT Tryd.prog 168 = some 1 := by kernel_rfl
theorem ty_int168 : intT Tryd.prog 168 = none := by kernel_rfl
theorem ty_ifc168 : ifaceT Tryd.prog 168 = false := by kernel_rfl
theorem ty_bool168 : boolT Tryd.prog 168 = false := by kernel_rfl
theorem ty_z168 : zeroT Tryd.prog 168 = some [.nilFunc] := by kernel_rfl
theorem ty_ag169 : aggT Tryd.prog 169 = some false := by kernel_rfl
theorem ty_sz169 : szT Tryd.prog 169 = some 1 := by kernel_rfl
theorem ty_int169 : intT Tryd.prog 169 = none := by kernel_rfl
theorem ty_ifc169 : ifaceT Tryd.prog 169 = false := by kernel_rfl
theorem ty_bool169 : boolT Tryd.prog 169 = false := by kernel_rfl
theorem ty_z169 : zeroT Tryd.prog 169 = some [.nilFunc] := by kernel_rfl
theorem ty_ag170 : aggT Tryd.prog 170 = some true := by kernel_rfl
theorem ty_sz170 : szT Tryd.prog 170 = some 4 := by kernel_rfl
theorem ty_int170 : intT Tryd.prog 170 = none := by kernel_rfl
theorem ty_ifc170 : ifaceT Tryd.prog 170 = false := by kernel_rfl
theorem ty_bool170 : boolT Tryd.prog 170 = false := by kernel_rfl
theorem ty_f170_0 : fieldT Tryd.prog 170 0 = some (0, 1, false) := by kernel_rfl
theorem ty_f170_1 : fieldT Tryd.prog 170 1 = some (1, 1, false) := by kernel_rfl
theorem ty_f170_2 : fieldT Tryd.prog 170 2 = some (2, 1, false) := by kernel_rfl
theorem ty_f170_3 : fieldT Tryd.prog 170 3 = some (3, 1, false) := by kernel_rfl
theorem ty_pl170 : placeT Tryd.prog 170 = some (fun i => #[(0, 1), (1, 1), (2, 1), (3, 1)][i]?) := by kernel_rfl
theorem ty_z170 : zeroT Tryd.prog 170 = some [.int .i64 (0), .slice none 0 0, .int .i64 (0), .slice none 0 0] := by kernel_rfl
theorem ty_ag171 : aggT Tryd.prog 171 = some true := by kernel_rfl
theorem ty_sz171 : szT Tryd.prog 171 = some 4 := by kernel_rfl
theorem ty_int171 : intT Tryd.prog 171 = none := by kernel_rfl
theorem ty_ifc171 : ifaceT Tryd.prog 171 = false := by kernel_rfl
theorem ty_bool171 : boolT Tryd.prog 171 = false := by kernel_rfl
theorem ty_f171_0 : fieldT Tryd.prog 171 0 = some (0, 1, false) := by kernel_rfl
theorem ty_f171_1 : fieldT Tryd.prog 171 1 = some (1, 1, false) := by kernel_rfl
theorem ty_f171_2 : fieldT Tryd.prog 171 2 = some (2, 1, false) := by kernel_rfl
theorem ty_f171_3 : fieldT Tryd.prog 171 3 = some (3, 1, false) := by kernel_rfl
theorem ty_pl171 : placeT Tryd.prog 171 = some (fun i => #[(0, 1), (1, 1), (2, 1), (3, 1)][i]?) := by kernel_rfl
theorem ty_z171 : zeroT Tryd.prog 171 = some [.int .i64 (0), .slice none 0 0, .int .i64 (0), .slice none 0 0] := by kernel_rfl
theorem ty_ag172 : aggT Tryd.prog 172 = some true := by kernel_rfl
theorem ty_sz172 : szT Tryd.prog 172 = some 6 := by kernel_rfl
theorem ty_int172 : intT Tryd.prog 172 = none := by kernel_rfl
theorem ty_ifc172 : ifaceT Tryd.prog 172 = false := by kernel_rfl
theorem ty_bool172 : boolT Tryd.prog 172 = false := by kernel_rfl
theorem ty_f172_0 : fieldT Tryd.prog 172 0 = some (0, 1, false) := by kernel_rfl
theorem ty_f172_1 : fieldT Tryd.prog 172 1 = some (1, 1, false) := by kernel_rfl
theorem ty_f172_2 : fieldT Tryd.prog 172 2 = some (2, 4, true) := by kernel_rfl
theorem ty_pl172 : placeT Tryd.prog 172 = some (fun i => #[(0, 1), (1, 1), (2, 4)][i]?) := by kernel_rfl
theorem ty_z172 : zeroT Tryd.prog 172 = some [.int .i64 (0), .int .i64 (0), .int .i64 (0), .slice none 0 0, .int .i64 (0), .slice none 0 0] := by kernel_rfl
theorem ty_ag173 : aggT Tryd.prog 173 = some true := by kernel_rfl
theorem ty_sz173 : szT Tryd.prog 173 = some 6 := by kernel_rfl
theorem ty_int173 : intT Tryd.prog 173 = none := by kernel_rfl
theorem ty_ifc173 : ifaceT Tryd.prog 173 = false := by kernel_rfl
theorem ty_bool173 : boolT Tryd.prog 173 = false := by kernel_rfl
theorem ty_f173_0 : fieldT Tryd.prog 173 0 = some (0, 1, false) := by kernel_rfl
theorem ty_f173_1 : fieldT Tryd.prog 173 1 = some (1, 1, false) := by kernel_rfl
theorem ty_f173_2 : fieldT Tryd.prog 173 2 = some (2, 4, true) := by kernel_rfl
theorem ty_pl173 : placeT Tryd.prog 173 = some (fun i => #[(0, 1), (1, 1), (2, 4)][i]?) := by kernel_rfl
theorem ty_z173 : zeroT Tryd.prog 173 = some [.int .i64 (0), .int .i64 (0), .int .i64 (0), .slice none 0 0, .int .i64 (0), .slice none 0 0] := by kernel_rfl
theorem ty_ag174 : aggT Tryd.prog 174 = some false := by kernel_rfl
theorem ty_sz174 : szT Tryd.prog 174 = some 1 := by kernel_rfl
theorem ty_int174 : intT Tryd.prog 174 = none := by kernel_rfl
theorem ty_ifc174 : ifaceT Tryd.prog 174 = false := by kernel_rfl
theorem ty_bool174 : boolT Tryd.prog 174 = false := by kernel_rfl
theorem ty_z174 : zeroT Tryd.prog 174 = some [.nilFunc] := by kernel_rfl
theorem ty_ag175 : aggT Tryd.prog 175 = some false := by kernel_rfl
theorem ty_sz175 : szT Tryd.prog 175 = some 1 := by kernel_rfl
theorem ty_int175 : intT Tryd.prog 175 = none := by kernel_rfl
theorem ty_ifc175 : ifaceT Tryd.prog 175 = false := by kernel_rfl
theorem ty_bool175 : boolT Tryd.prog 175 = false := by kernel_rfl
theorem ty_z175 : zeroT Tryd.prog 175 = some [.nilFunc] := by kernel_rfl
theorem ty_ag176 : aggT Tryd.prog 176 = some false := by kernel_rfl
theorem ty_sz176 : szT Tryd.prog 176 = some 1 := by kernel_rfl
theorem ty_int176 : intT Tryd.prog 176 = none := by kernel_rfl
theorem ty_ifc176 : ifaceT Tryd.prog 176 = false := by kernel_rfl
theorem ty_bool176 : boolT Tryd.prog 176 = false := by kernel_rfl
theorem ty_z176 : zeroT Tryd.prog 176 = some [.nilFunc] := by kernel_rfl
theorem ty_ag177 : aggT Tryd.prog 177 = some false := by kernel_rfl
theorem ty_sz177 : szT Tryd.prog 177 = some 1 := by kernel_rfl
theorem ty_int177 : intT Tryd.prog 177 = none := by kernel_rfl
theorem ty_ifc177 : ifaceT Tryd.prog 177 = false := by kernel_rfl
theorem ty_bool177 : boolT Tryd.prog 177 = false := by kernel_rfl
theorem ty_z177 : zeroT Tryd.prog 177 = some [.nilFunc] := by kernel_rfl
theorem ty_ag178 : aggT Tryd.prog 178 = some false := by kernel_rfl
theorem ty_sz178 : szT Tryd.prog 178 = some 1 := by kernel_rfl
theorem ty_int178 : intT Tryd.prog 178 = none := by kernel_rfl
theorem ty_ifc178 : ifaceT Tryd.prog 178 = false := by kernel_rfl
theorem ty_bool178 : boolT Tryd.prog 178 = false := by kernel_rfl
theorem ty_z178 : zeroT Tryd.prog 178 = some [.nilFunc] := by kernel_rfl
theorem ty_ag179 : aggT Tryd.prog 179 = some true := by kernel_rfl
theorem ty_sz179 : szT Tryd.prog 179 = some 2 := by kernel_rfl
theorem ty_int179 : intT Tryd.prog 179 = none := by kernel_rfl
theorem ty_eq179 : eqT Tryd.prog 179 = some [true, false] := by kernel_rfl
theorem ty_ifc179 : ifaceT Tryd.prog 179 = false := by kernel_rfl
theorem ty_bool179 : boolT Tryd.prog 179 = false := by kernel_rfl
theorem ty_f179_0 : fieldT Tryd.prog 179 0 = some (0, 1, false) := by kernel_rfl
theorem ty_f179_1 : fieldT Tryd.prog 179 1 = some (1, 1, false) := by kernel_rfl
theorem ty_pl179 : placeT Tryd.prog 179 = some (fun i => #[(0, 1), (1, 1)][i]?) := by kernel_rfl
theorem ty_z179 : zeroT Tryd.prog 179 = some [.int .u8 (0), .bool false] := by kernel_rfl
theorem ty_ag180 : aggT Tryd.prog 180 = some true := by kernel_rfl
theorem ty_sz180 : szT Tryd.prog 180 = some 2 := by kernel_rfl
theorem ty_int180 : intT Tryd.prog 180 = none := by kernel_rfl
theorem ty_eq180 : eqT Tryd.prog 180 = some [true, false] := by kernel_rfl
theorem ty_ifc180 : ifaceT Tryd.prog 180 = false := by kernel_rfl
theorem ty_bool180 : boolT Tryd.prog 180 = false := by kernel_rfl
theorem ty_f180_0 : fieldT Tryd.prog 180 0 = some (0, 1, false) := by kernel_rfl
theorem ty_f180_1 : fieldT Tryd.prog 180 1 = some (1, 1, false) := by kernel_rfl
theorem ty_pl180 : placeT Tryd.prog 180 = some (fun i => #[(0, 1), (1, 1)][i]?) := by kernel_rfl
theorem ty_z180 : zeroT Tryd.prog 180 = some [.int .u8 (0), .bool false] := by kernel_rfl
theorem ty_ag181 : aggT Tryd.prog 181 = some false := by kernel_rfl
theorem ty_sz181 : szT Tryd.prog 181 = some 1 := by kernel_rfl
theorem ty_int181 : intT Tryd.prog 181 = none := by kernel_rfl
theorem ty_ifc181 : ifaceT Tryd.prog 181 = false := by kernel_rfl
theorem ty_bool181 : boolT Tryd.prog 181 = false := by kernel_rfl
theorem ty_z181 : zeroT Tryd.prog 181 = some [.nilFunc] := by kernel_rfl
theorem ty_ag182 : aggT Tryd.prog 182 = some false := by kernel_rfl
theorem ty_sz182 : szT Tryd.prog 182 = some 1 := by kernel_rfl
theorem ty_int182 : intT Tryd.prog 182 = none := by kernel_rfl
theorem ty_ifc182 : ifaceT Tryd.prog 182 = false := by kernel_rfl
theorem ty_bool182 : boolT Tryd.prog 182 = false := by kernel_rfl
theorem ty_z182 : zeroT Tryd.prog 182 = some [.nilFunc] := by kernel_rfl
theorem ty_ag183 : aggT Tryd.prog 183 = some false := by kernel_rfl
theorem ty_sz183 : szT Tryd.prog 183 = some 1 := by kernel_rfl
theorem ty_int183 : intT Tryd.prog 183 = none := by kernel_rfl
theorem ty_ifc183 : ifaceT Tryd.prog 183 = false := by kernel_rfl
theorem ty_bool183 : boolT Tryd.prog 183 = false := by kernel_rfl
theorem ty_elem183 : elemT Tryd.prog 183 = some (91, 1, false) := by kernel_rfl
theorem ty_app183 : appT Tryd.prog 183 = some (91, 1, 1) := by kernel_rfl
theorem ty_z183 : zeroT Tryd.prog 183 = some [.slice none 0 0] := by kernel_rfl
theorem ty_ag184 : aggT Tryd.prog 184 = some false := by kernel_rfl
theorem ty_sz184 : szT Tryd.prog 184 = some 1 := by kernel_rfl
theorem ty_int184 : intT Tryd.prog 184 = none := by kernel_rfl
theorem ty_ifc184 : ifaceT Tryd.prog 184 = false := by kernel_rfl
theorem ty_bool184 : boolT Tryd.prog 184 = false := by kernel_rfl
theorem ty_z184 : zeroT Tryd.prog 184 = some [.nilFunc] := by kernel_rfl
theorem ty_ag185 : aggT Tryd.prog 185 = some false := by kernel_rfl
theorem ty_sz185 : szT Tryd.prog 185 = some 1 := by kernel_rfl
theorem ty_int185 : intT Tryd.prog 185 = none := by kernel_rfl
theorem ty_ifc185 : ifaceT Tryd.prog 185 = true := by kernel_rfl
theorem ty_bool185 : boolT Tryd.prog 185 = false := by kernel_rfl
theorem ty_z185 : zeroT Tryd.prog 185 = some [.nilIface] := by kernel_rfl
theorem ty_ag186 : aggT Tryd.prog 186 = some false := by kernel_rfl
theorem ty_sz186 : szT Tryd.prog 186 = some 1 := by kernel_rfl
theorem ty_int186 : intT Tryd.prog 186 = none := by kernel_rfl
theorem ty_ifc186 : ifaceT Tryd.prog 186 = true := by kernel_rfl
theorem ty_bool186 : boolT Tryd.prog 186 = false := by kernel_rfl
theorem ty_z186 : zeroT Tryd.prog 186 = some [.nilIface] := by kernel_rfl
theorem ty_ag187 : aggT Tryd.prog 187 = some false := by kernel_rfl
theorem ty_sz187 : szT Tryd.prog 187 = some 1 := by kernel_rfl
theorem ty_int187 : intT Tryd.prog 187 = none := by kernel_rfl
theorem ty_ifc187 : ifaceT Tryd.prog 187 = true := by kernel_rfl
theorem ty_bool187 : boolT Tryd.prog 187 = false := by kernel_rfl
theorem ty_z187 : zeroT Tryd.prog 187 = some [.nilIface] := by kernel_rfl
theorem ty_ag188 : aggT Tryd.prog 188 = some false := by kernel_rfl
theorem ty_sz188 : szT Tryd.prog 188 = some 1 := by kernel_rfl
theorem ty_int188 : intT Tryd.prog 188 = none := by kernel_rfl
theorem ty_ifc188 : ifaceT Tryd.prog 188 = true := by kernel_rfl
theorem ty_bool188 : boolT Tryd.prog 188 = false := by kernel_rfl
theorem ty_z188 : zeroT Tryd.prog 188 = some [.nilIface] := by kernel_rfl
theorem ty_ag189 : aggT Tryd.prog 189 = some false := by kernel_rfl
theorem ty_sz189 : szT Tryd.prog 189 = some 1 := by kernel_rfl
theorem ty_int189 : intT Tryd.prog 189 = none := by kernel_rfl
theorem ty_ifc189 : ifaceT Tryd.prog 189 = false := by kernel_rfl
theorem ty_bool189 : boolT Tryd.prog 189 = false := by kernel_rfl
theorem ty_z189 : zeroT Tryd.prog 189 = some [.nilFunc] := by kernel_rfl
theorem ty_ag191 : aggT Tryd.prog 191 = some false := by kernel_rfl
theorem ty_sz191 : szT Tryd.prog 191 = some 1 := by kernel_rfl
theorem ty_int191 : intT Tryd.prog 191 = none := by kernel_rfl
theorem ty_ifc191 : ifaceT Tryd.prog 191 = false := by kernel_rfl
theorem ty_bool191 : boolT Tryd.prog 191 = false := by kernel_rfl
theorem ty_z191 : zeroT Tryd.prog 191 = some [.nilFunc] := by kernel_rfl
theorem ty_ag192 : aggT Tryd.prog 192 = some false := by kernel_rfl
theorem ty_sz192 : szT Tryd.prog 192 = some 1 := by kernel_rfl
theorem ty_int192 : intT Tryd.prog 192 = none := by kernel_rfl
theorem ty_ifc192 : ifaceT Tryd.prog 192 = false := by kernel_rfl
theorem ty_bool192 : boolT Tryd.prog 192 = false := by kernel_rfl
theorem ty_z192 : zeroT Tryd.prog 192 = some [.nilFunc] := by kernel_rfl
theorem ty_ag193 : aggT Tryd.prog 193 = some false := by kernel_rfl
theorem ty_sz193 : szT Tryd.prog 193 = some 1 := by kernel_rfl
theorem ty_int193 : intT Tryd.prog 193 = none := by kernel_rfl
theorem ty_ifc193 : ifaceT Tryd.prog 193 = false := by kernel_rfl
theorem ty_bool193 : boolT Tryd.prog 193 = false := by kernel_rfl
theorem ty_z193 : zeroT Tryd.prog 193 = some [.nilFunc] := by kernel_rfl
theorem ty_ag194 : aggT Tryd.prog 194 = some false := by kernel_rfl
theorem ty_sz194 : szT Tryd.prog 194 = some 1 := by kernel_rfl
theorem ty_int194 : intT Tryd.prog 194 = none := by kernel_rfl
theorem ty_ifc194 : ifaceT Tryd.prog 194 = false := by kernel_rfl
theorem ty_bool194 : boolT Tryd.prog 194 = false := by kernel_rfl
theorem ty_elem194 : elemT Tryd.prog 194 = some (24, 4, true) := by kernel_rfl
theorem ty_app194 : appT Tryd.prog 194 = some (24, 4, 16) := by kernel_rfl
theorem ty_z194 : zeroT Tryd.prog 194 = some [.slice none 0 0] := by kernel_rfl
theorem ty_ag195 : aggT Tryd.prog 195 = some false := by kernel_rfl
theorem ty_sz195 : szT Tryd.prog 195 = some 1 := by kernel_rfl
theorem ty_int195 : intT Tryd.prog 195 = none := by kernel_rfl
theorem ty_ifc195 : ifaceT Tryd.prog 195 = false := by kernel_rfl
theorem ty_bool195 : boolT Tryd.prog 195 = false := by kernel_rfl
theorem ty_elem195 : elemT Tryd.prog 195 = some (44, 1, false) := by kernel_rfl
theorem ty_app195 : appT Tryd.prog 195 = some (44, 1, 1) := by kernel_rfl
theorem ty_z195 : zeroT Tryd.prog 195 = some [.slice none 0 0] := by kernel_rfl
theorem ty_ag196 : aggT Tryd.prog 196 = some false := by kernel_rfl
theorem ty_sz196 : szT Tryd.prog 196 = some 1 := by kernel_rfl
theorem ty_int196 : intT Tryd.prog 196 = some .u64 := by kernel_rfl
theorem ty_ifc196 : ifaceT Tryd.prog 196 = false := by kernel_rfl
theorem ty_bool196 : boolT Tryd.prog 196 = false := by kernel_rfl
theorem ty_z196 : zeroT Tryd.prog 196 = some [.int .u64 (0)] := by kernel_rfl
theorem ty_ag197 : aggT Tryd.prog 197 = some false := by kernel_rfl
theorem ty_sz197 : szT Tryd.prog 197 = some 1 := by kernel_rfl
theorem ty_int197 : intT Tryd.prog 197 = none := by kernel_rfl
theorem ty_ifc197 : ifaceT Tryd.prog 197 = false := by kernel_rfl
theorem ty_bool197 : boolT Tryd.prog 197 = false := by kernel_rfl
theorem ty_z197 : zeroT Tryd.prog 197 = some [.nilFunc] := by kernel_rfl
theorem ty_ag199 : aggT Tryd.prog 199 = some false := by kernel_rfl
theorem ty_sz199 : szT Tryd.prog 199 = some 1 := by kernel_rfl
theorem ty_int199 : intT Tryd.prog 199 = none := by kernel_rfl
theorem ty_ifc199 : ifaceT Tryd.prog 199 = false := by kernel_rfl
theorem ty_bool199 : boolT Tryd.prog 199 = false := by kernel_rfl
theorem ty_z199 : zeroT Tryd.prog 199 = some [.nilFunc] := by kernel_rfl
theorem ty_ag200 : aggT Tryd.prog 200 = some false := by kernel_rfl
theorem ty_sz200 : szT Tryd.prog 200 = some 1 := by kernel_rfl
theorem ty_int200 : intT Tryd.prog 200 = none := by kernel_rfl
theorem ty_ifc200 : ifaceT Tryd.prog 200 = false := by kernel_rfl
theorem ty_bool200 : boolT Tryd.prog 200 = false := by kernel_rfl
theorem ty_z200 : zeroT Tryd.prog 200 = some [.nilFunc] := by kernel_rfl
theorem ty_ag201 : aggT Tryd.prog 201 = some false := by kernel_rfl
theorem ty_sz201 : szT Tryd.prog 201 = some 1 := by kernel_rfl
theorem ty_int201 : intT Tryd.prog 201 = none := by kernel_rfl
theorem ty_ifc201 : ifaceT Tryd.prog 201 = false := by kernel_rfl
theorem ty_bool201 : boolT Tryd.prog 201 = false := by kernel_rfl
theorem ty_z201 : zeroT Tryd.prog 201 = some [.nilFunc] := by kernel_rfl
theorem ty_ag202 : aggT Tryd.prog 202 = some true := by kernel_rfl
theorem ty_sz202 : szT Tryd.prog 202 = some 5 := by kernel_rfl
theorem ty_int202 : intT Tryd.prog 202 = none := by kernel_rfl
theorem ty_eq202 : eqT Tryd.prog 202 = some [true, false, true, true, true] := by kernel_rfl
theorem ty_ifc202 : ifaceT Tryd.prog 202 = false := by kernel_rfl
theorem ty_bool202 : boolT Tryd.prog 202 = false := by kernel_rfl
theorem ty_f202_0 : fieldT Tryd.prog 202 0 = some (0, 1, false) := by kernel_rfl
theorem ty_f202_1 : fieldT Tryd.prog 202 1 = some (1, 1, false) := by kernel_rfl
theorem ty_f202_2 : fieldT Tryd.prog 202 2 = some (2, 1, false) := by kernel_rfl
theorem ty_f202_3 : fieldT Tryd.prog 202 3 = some (3, 1, false) := by kernel_rfl
theorem ty_f202_4 : fieldT Tryd.prog 202 4 = some (4, 1, false) := by kernel_rfl
theorem ty_pl202 : placeT Tryd.prog 202 = some (fun i => #[(0, 1), (1, 1), (2, 1), (3, 1), (4, 1)][i]?) := by kernel_rfl
theorem ty_z202 : zeroT Tryd.prog 202 = some [.int .u8 (0), .bool false, .int .u8 (0), .int .u16 (0), .int .u8 (0)] := by kernel_rfl
theorem ty_ag203 : aggT Tryd.prog 203 = some true := by kernel_rfl
theorem ty_sz203 : szT Tryd.prog 203 = some 5 := by kernel_rfl
theorem ty_int203 : intT Tryd.prog 203 = none := by kernel_rfl
theorem ty_eq203 : eqT Tryd.prog 203 = some [true, false, true, true, true] := by kernel_rfl
theorem ty_ifc203 : ifaceT Tryd.prog 203 = false := by kernel_rfl
theorem ty_bool203 : boolT Tryd.prog 203 = false := by kernel_rfl
theorem ty_f203_0 : fieldT Tryd.prog 203 0 = some (0, 1, false) := by kernel_rfl
theorem ty_f203_1 : fieldT Tryd.prog 203 1 = some (1, 1, false) := by kernel_rfl
theorem ty_f203_2 : fieldT Tryd.prog 203 2 = some (2, 1, false) := by kernel_rfl
theorem ty_f203_3 : fieldT Tryd.prog 203 3 = some (3, 1, false) := by kernel_rfl
theorem ty_f203_4 : fieldT Tryd.prog 203 4 = some (4, 1, false) := by kernel_rfl
theorem ty_pl203 : placeT Tryd.prog 203 = some (fun i => #[(0, 1), (1, 1), (2, 1), (3, 1), (4, 1)][i]?) := by kernel_rfl
theorem ty_z203 : zeroT Tryd.prog 203 = some [.int .u8 (0), .bool false, .int .u8 (0), .int .u16 (0), .int .u8 (0)] := by kernel_rfl
theorem ty_ag204 : aggT Tryd.prog 204 = some false := by kernel_rfl
theorem ty_sz204 : szT Tryd.prog 204 = some 1 := by kernel_rfl
theorem ty_int204 : intT Tryd.prog 204 = none := by kernel_rfl
theorem ty_ifc204 : ifaceT Tryd.prog 204 = false := by kernel_rfl
theorem ty_bool204 : boolT Tryd.prog 204 = false := by kernel_rfl
theorem ty_z204 : zeroT Tryd.prog 204 = some [.nilFunc] := by kernel_rfl
theorem ty_ag205 : aggT Tryd.prog 205 = some false := by kernel_rfl
theorem ty_sz205 : szT Tryd.prog 205 = some 1 := by kernel_rfl
theorem ty_int205 : intT Tryd.prog 205 = none := by kernel_rfl
theorem ty_ifc205 : ifaceT Tryd.prog 205 = false := by kernel_rfl
theorem ty_bool205 : boolT Tryd.prog 205 = false := by kernel_rfl
theorem ty_z205 : zeroT Tryd.prog 205 = some [.pointer none] := by kernel_rfl
theorem ty_ag207 : aggT Tryd.prog 207 = some false := by kernel_rfl
theorem ty_sz207 : szT Tryd.prog 207 = some 1 := by kernel_rfl
theorem ty_int207 : intT Tryd.prog 207 = none := by kernel_rfl
theorem ty_ifc207 : ifaceT Tryd.prog 207 = false := by kernel_rfl
theorem ty_bool207 : boolT Tryd.prog 207 = false := by kernel_rfl
theorem ty_z207 : zeroT Tryd.prog 207 = some [.nilFunc] := by kernel_rfl
theorem ty_ag208 : aggT Tryd.prog 208 = some false := by kernel_rfl
theorem ty_sz208 : szT Tryd.prog 208 = some 1 := by kernel_rfl
theorem ty_int208 : intT Tryd.prog 208 = none := by kernel_rfl
theorem ty_ifc208 : ifaceT Tryd.prog 208 = false := by kernel_rfl
theorem ty_bool208 : boolT Tryd.prog 208 = false := by kernel_rfl
theorem ty_elem208 : elemT Tryd.prog 208 = some (214, 11, true) := by kernel_rfl
theorem ty_app208 : appT Tryd.prog 208 = some (214, 11, 88) := by kernel_rfl
theorem ty_z208 : zeroT Tryd.prog 208 = some [.slice none 0 0] := by kernel_rfl
theorem ty_ag209 : aggT Tryd.prog 209 = some true := by kernel_rfl
theorem ty_sz209 : szT Tryd.prog 209 = some 60 := by kernel_rfl
theorem ty_int209 : intT Tryd.prog 209 = none := by kernel_rfl
theorem ty_ifc209 : ifaceT Tryd.prog 209 = false := by kernel_rfl
theorem ty_bool209 : boolT Tryd.prog 209 = false := by kernel_rfl
theorem ty_f209_0 : fieldT Tryd.prog 209 0 = some (0, 11, true) := by kernel_rfl
theorem ty_f209_1 : fieldT Tryd.prog 209 1 = some (11, 1, false) := by kernel_rfl
theorem ty_f209_2 : fieldT Tryd.prog 209 2 = some (12, 1, false) := by kernel_rfl
theorem ty_f209_3 : fieldT Tryd.prog 209 3 = some (13, 47, true) := by kernel_rfl
theorem ty_pl209 : placeT Tryd.prog 209 = some (fun i => #[(0, 11), (11, 1), (12, 1), (13, 47)][i]?) := by kernel_rfl
theorem ty_z209 : zeroT Tryd.prog 209 = some [.int .u8 (0), .int .u8 (0), .bool false, .int .u8 (0), .int .i64 (0), .int .i64 (0), .int .u8 (0), .int .u8 (0), .int .u8 (0), .bool false, .bool false, .slice none 0 0, .bool false, .bool false, .int .u8 (0), .int .u8 (0), .bool false, .int .u8 (0), .int .i64 (0), .int .i64 (0), .int .u8 (0), .int .u8 (0), .int .u8 (0), .bool false, .bool false, .int .u8 (0), .int .u8 (0), .int .u8 (0), .int .u16 (0), .int .u16 (0), .int .u16 (0), .slice none 0 0, .int .i64 (0), .bool false, .int .i64 (0), .slice none 0 0, .int .i64 (0), .int .i64 (0), .bool false, .int .u8 (0), .int .i64 (0), .bool false, .slice none 0 0, .bool false, .int .i64 (0), .slice none 0 0, .slice none 0 0, .int .i64 (0), .int .i64 (0), .bool false, .int .i64 (0), .bool false, .int .u8 (0), .int .i64 (0), .slice none 0 0, .int .i64 (0), .int .i64 (0), .slice none 0 0, .slice none 0 0, .int .i64 (0)] := by kernel_rfl
theorem ty_ag210 : aggT Tryd.prog 210 = some true := by kernel_rfl
theorem ty_sz210 : szT Tryd.prog 210 = some 60 := by kernel_rfl
theorem ty_int210 : intT Tryd.prog 210 = none := by kernel_rfl
theorem ty_ifc210 : ifaceT Tryd.prog 210 = false := by kernel_rfl
theorem ty_bool210 : boolT Tryd.prog 210 = false := by kernel_rfl
theorem ty_f210_0 : fieldT Tryd.prog 210 0 = some (0, 11, true) := by kernel_rfl
theorem ty_f210_1 : fieldT Tryd.prog 210 1 = some (11, 1, false) := by kernel_rfl
theorem ty_f210_2 : fieldT Tryd.prog 210 2 = some (12, 1, false) := by kernel_rfl
theorem ty_f210_3 : fieldT Tryd.prog 210 3 = some (13, 47, true) := by kernel_rfl
theorem ty_pl210 : placeT Tryd.prog 210 = some (fun i => #[(0, 11), (11, 1), (12, 1), (13, 47)][i]?) := by kernel_rfl
theorem ty_z210 : zeroT Tryd.prog 210 = some [.int .u8 (0), .int .u8 (0), .bool false, .int .u8 (0), .int .i64 (0), .int .i64 (0), .int .u8 (0), .int .u8 (0), .int .u8 (0), .bool false, .bool false, .slice none 0 0, .bool false, .bool false, .int .u8 (0), .int .u8 (0), .bool false, .int .u8 (0), .int .i64 (0), .int .i64 (0), .int .u8 (0), .int .u8 (0), .int .u8 (0), .bool false, .bool false, .int .u8 (0), .int .u8 (0), .int .u8 (0), .int .u16 (0), .int .u16 (0), .int .u16 (0), .slice none 0 0, .int .i64 (0), .bool false, .int .i64 (0), .slice none 0 0, .int .i64 (0), .int .i64 (0), .bool false, .int .u8 (0), .int .i64 (0), .bool false, .slice none 0 0, .bool false, .int .i64 (0), .slice none 0 0, .slice none 0 0, .int .i64 (0), .int .i64 (0), .bool false, .int .i64 (0), .bool false, .int .u8 (0), .int .i64 (0), .slice none 0 0, .int .i64 (0), .int .i64 (0), .slice none 0 0, .slice none 0 0, .int .i64 (0)] := by kernel_rfl
theorem ty_ag211 : aggT Tryd.prog 211 = some false := by kernel_rfl
theorem ty_sz211 : szT Tryd.prog 211 = some 1 := by kernel_rfl
theorem ty_int211 : intT Tryd.prog 211 = none := by kernel_rfl
theorem ty_ifc211 : ifaceT Tryd.prog 211 = false := by kernel_rfl
theorem ty_bool211 : boolT Tryd.prog 211 = false := by kernel_rfl
theorem ty_z211 : zeroT Tryd.prog 211 = some [.nilFunc] := by kernel_rfl
theorem ty_ag212 : aggT Tryd.prog 212 = some false := by kernel_rfl
theorem ty_sz212 : szT Tryd.prog 212 = some 1 := by kernel_rfl
theorem ty_int212 : intT Tryd.prog 212 = none := by kernel_rfl
theorem ty_ifc212 : ifaceT Tryd.prog 212 = false := by kernel_rfl
theorem ty_bool212 : boolT Tryd.prog 212 = false := by kernel_rfl
theorem ty_z212 : zeroT Tryd.prog 212 = some [.nilFunc] := by kernel_rfl
theorem ty_ag213 : aggT Tryd.prog 213 = some true := by kernel_rfl
theorem ty_sz213 : szT Tryd.prog 213 = some 11 := by kernel_rfl
theorem ty_int213 : intT Tryd.prog 213 = none := by kernel_rfl
theorem ty_ifc213 : ifaceT Tryd.prog 213 = false := by kernel_rfl
theorem ty_bool213 : boolT Tryd.prog 213 = false := by kernel_rfl
theorem ty_f213_0 : fieldT Tryd.prog 213 0 = some (0, 1, false) := by kernel_rfl
theorem ty_f213_1 : fieldT Tryd.prog 213 1 = some (1, 10, true) := by kernel_rfl
theorem ty_pl213 : placeT Tryd.prog 213 = some (fun i => #[(0, 1), (1, 10)][i]?) := by kernel_rfl
theorem ty_z213 : zeroT Tryd.prog 213 = some [.int .i64 (0), .int .u8 (0), .int .u8 (0), .int .u16 (0), .int .u16 (0), .int .u16 (0), .slice none 0 0, .int .i64 (0), .bool false, .slice none 0 0, .int .i64 (0)] := by kernel_rfl
theorem ty_ag214 : aggT Tryd.prog 214 = some true := by kernel_rfl
theorem ty_sz214 : szT Tryd.prog 214 = some 11 := by kernel_rfl
theorem ty_int214 : intT Tryd.prog 214 = none := by kernel_rfl
theorem ty_ifc214 : ifaceT Tryd.prog 214 = false := by kernel_rfl
theorem ty_bool214 : boolT Tryd.prog 214 = false := by kernel_rfl
theorem ty_f214_0 : fieldT Tryd.prog 214 0 = some (0, 1, false) := by kernel_rfl
theorem ty_f214_1 : fieldT Tryd.prog 214 1 = some (1, 10, true) := by kernel_rfl
theorem ty_pl214 : placeT Tryd.prog 214 = some (fun i => #[(0, 1), (1, 10)][i]?) := by kernel_rfl
theorem ty_z214 : zeroT Tryd.prog 214 = some [.int .i64 (0), .int .u8 (0), .int .u8 (0), .int .u16 (0), .int .u16 (0), .int .u16 (0), .slice none 0 0, .int .i64 (0), .bool false, .slice none 0 0, .int .i64 (0)] := by kernel_rfl
theorem ty_ag215 : aggT Tryd.prog 215 = some false := by kernel_rfl
theorem ty_sz215 : szT Tryd.prog 215 = some 1 := by kernel_rfl
theorem ty_int215 : intT Tryd.prog 215 = none := by kernel_rfl
theorem ty_ifc215 : ifaceT Tryd.prog 215 = false := by kernel_rfl
theorem ty_bool215 : boolT Tryd.prog 215 = false := by kernel_rfl
theorem ty_z215 : zeroT Tryd.prog 215 = some [.nilFunc] := by kernel_rfl
theorem ty_ag217 : aggT Tryd.prog 217 = some false := by kernel_rfl
theorem ty_sz217 : szT Tryd.prog 217 = some 1 := by kernel_rfl
theorem ty_int217 : intT Tryd.prog 217 = none := by kernel_rfl
theorem ty_ifc217 : ifaceT Tryd.prog 217 = false := by kernel_rfl
theorem ty_bool217 : boolT Tryd.prog 217 = false := by kernel_rfl
theorem ty_z217 : zeroT Tryd.prog 217 = some [.nilFunc] := by kernel_rfl
theorem ty_ag219 : aggT Tryd.prog 219 = some false := by kernel_rfl
theorem ty_sz219 : szT Tryd.prog 219 = some 1 := by kernel_rfl
theorem ty_int219 : intT Tryd.prog 219 = none := by kernel_rfl
theorem ty_ifc219 : ifaceT Tryd.prog 219 = false := by kernel_rfl
theorem ty_bool219 : boolT Tryd.prog 219 = false := by kernel_rfl
theorem ty_z219 : zeroT Tryd.prog 219 = some [.nilFunc] := by kernel_rfl
theorem ty_ag221 : aggT Tryd.prog 221 = some false := by kernel_rfl
theorem ty_sz221 : szT Tryd.prog 221 = some 1 := by kernel_rfl
theorem ty_int221 : intT Tryd.prog 221 = none := by kernel_rfl
theorem ty_ifc221 : ifaceT Tryd.prog 221 = false := by kernel_rfl
theorem ty_bool221 : boolT Tryd.prog 221 = false := by kernel_rfl
theorem ty_z221 : zeroT Tryd.prog 221 = some [.nilFunc] := by kernel_rfl
theorem ty_ag222 : aggT Tryd.prog 222 = some false := by kernel_rfl
theorem ty_sz222 : szT Tryd.prog 222 = some 1 := by kernel_rfl
theorem ty_int222 : intT Tryd.prog 222 = none := by kernel_rfl
theorem ty_ifc222 : ifaceT Tryd.prog 222 = false := by kernel_rfl
theorem ty_bool222 : boolT Tryd.prog 222 = false := by kernel_rfl
theorem ty_z222 : zeroT Tryd.prog 222 = some [.nilFunc] := by kernel_rfl
theorem ty_ag223 : aggT Tryd.prog 223 = some false := by kernel_rfl
theorem ty_sz223 : szT Tryd.prog 223 = some 1 := by kernel_rfl
theorem ty_int223 : intT Tryd.prog 223 = none := by kernel_rfl
theorem ty_ifc223 : ifaceT Tryd.prog 223 = false := by kernel_rfl
theorem ty_bool223 : boolT Tryd.prog 223 = false := by kernel_rfl
theorem ty_z223 : zeroT Tryd.prog 223 = some [.nilFunc] := by kernel_rfl
theorem ty_ag224 : aggT Tryd.prog 224 = some false := by kernel_rfl
theorem ty_sz224 : szT Tryd.prog 224 = some 1 := by kernel_rfl
theorem ty_int224 : intT Tryd.prog 224 = none := by kernel_rfl
theorem ty_ifc224 : ifaceT Tryd.prog 224 = false := by kernel_rfl
theorem ty_bool224 : boolT Tryd.prog 224 = false := by kernel_rfl
theorem ty_z224 : zeroT Tryd.prog 224 = some [.nilFunc] := by kernel_rfl
theorem ty_ag225 : aggT Tryd.prog 225 = some false := by kernel_rfl
theorem ty_sz225 : szT Tryd.prog 225 = some 1 := by kernel_rfl
theorem ty_int225 : intT Tryd.prog 225 = none := by kernel_rfl
theorem ty_ifc225 : ifaceT Tryd.prog 225 = false := by kernel_rfl
theorem ty_bool225 : boolT Tryd.prog 225 = false := by kernel_rfl
theorem ty_z225 : zeroT Tryd.prog 225 = some [.nilFunc] := by kernel_rfl
theorem ty_ag226 : aggT Tryd.prog 226 = some false := by kernel_rfl
theorem ty_sz226 : szT Tryd.prog 226 = some 1 := by kernel_rfl
theorem ty_int226 : intT Tryd.prog 226 = none := by kernel_rfl
theorem ty_ifc226 : ifaceT Tryd.prog 226 = false := by kernel_rfl
theorem ty_bool226 : boolT Tryd.prog 226 = false := by kernel_rfl
theorem ty_z226 : zeroT Tryd.prog 226 = some [.nilFunc] := by kernel_rfl
theorem ty_ag227 : aggT Tryd.prog 227 = some false := by kernel_rfl
theorem ty_sz227 : szT Tryd.prog 227 = some 1 := by kernel_rfl
theorem ty_int227 : intT Tryd.prog 227 = none := by kernel_rfl
theorem ty_ifc227 : ifaceT Tryd.prog 227 = false := by kernel_rfl
theorem ty_bool227 : boolT Tryd.prog 227 = false := by kernel_rfl
theorem ty_z227 : zeroT Tryd.prog 227 = some [.nilFunc] := by kernel_rfl
theorem ty_ag228 : aggT Tryd.prog 228 = some false := by kernel_rfl
theorem ty_sz228 : szT Tryd.prog 228 = some 1 := by kernel_rfl
theorem ty_int228 : intT Tryd.prog 228 = none := by kernel_rfl
theorem ty_ifc228 : ifaceT Tryd.prog 228 = false := by kernel_rfl
theorem ty_bool228 : boolT Tryd.prog 228 = false := by kernel_rfl
theorem ty_z228 : zeroT Tryd.prog 228 = some [.nilFunc] := by kernel_rfl
theorem ty_ag229 : aggT Tryd.prog 229 = some false := by kernel_rfl
theorem ty_sz229 : szT Tryd.prog 229 = some 1 := by kernel_rfl
theorem ty_int229 : intT Tryd.prog 229 = none := by kernel_rfl
theorem ty_ifc229 : ifaceT Tryd.prog 229 = false := by kernel_rfl
theorem ty_bool229 : boolT Tryd.prog 229 = false := by kernel_rfl
theorem ty_z229 : zeroT Tryd.prog 229 = some [.nilFunc] := by kernel_rfl
theorem ty_ag230 : aggT Tryd.prog 230 = some false := by kernel_rfl
theorem ty_sz230 : szT Tryd.prog 230 = some 1 := by kernel_rfl
theorem ty_int230 : intT Tryd.prog 230 = none := by kernel_rfl
theorem ty_ifc230 : ifaceT Tryd.prog 230 = false := by kernel_rfl
theorem ty_bool230 : boolT Tryd.prog 230 = false := by kernel_rfl
theorem ty_z230 : zeroT Tryd.prog 230 = some [.nilFunc] := by kernel_rfl
theorem ty_ag231 : aggT Tryd.prog 231 = some false := by kernel_rfl
theorem ty_sz231 : szT Tryd.prog 231 = some 1 := by kernel_rfl
theorem ty_int231 : intT Tryd.prog 231 = some .u8 := by kernel_rfl
theorem ty_ifc231 : ifaceT Tryd.prog 231 = false := by kernel_rfl
theorem ty_bool231 : boolT Tryd.prog 231 = false := by kernel_rfl
theorem ty_z231 : zeroT Tryd.prog 231 = some [.int .u8 (0)] := by kernel_rfl
theorem ty_ag232 : aggT Tryd.prog 232 = some false := by kernel_rfl
theorem ty_sz232 : szT Tryd.prog 232 = some 1 := by kernel_rfl
theorem ty_int232 : intT Tryd.prog 232 = none := by kernel_rfl
theorem ty_ifc232 : ifaceT Tryd.prog 232 = false := by kernel_rfl
theorem ty_bool232 : boolT Tryd.prog 232 = false := by kernel_rfl
theorem ty_z232 : zeroT Tryd.prog 232 = some [.nilFunc] := by kernel_rfl
theorem ty_ag233 : aggT Tryd.prog 233 = some false := by kernel_rfl
theorem ty_sz233 : szT Tryd.prog 233 = some 1 := by kernel_rfl
theorem ty_int233 : intT Tryd.prog 233 = none := by kernel_rfl
theorem ty_ifc233 : ifaceT Tryd.prog 233 = false := by kernel_rfl
theorem ty_bool233 : boolT Tryd.prog 233 = false := by kernel_rfl
theorem ty_elem233 : elemT Tryd.prog 233 = some (238, 3, true) := by kernel_rfl
theorem ty_app233 : appT Tryd.prog 233 = some (238, 3, 24) := by kernel_rfl
theorem ty_z233 : zeroT Tryd.prog 233 = some [.slice none 0 0] := by kernel_rfl
theorem ty_ag234 : aggT Tryd.prog 234 = some false := by kernel_rfl
theorem ty_sz234 : szT Tryd.prog 234 = some 1 := by kernel_rfl
theorem ty_int234 : intT Tryd.prog 234 = none := by kernel_rfl
theorem ty_ifc234 : ifaceT Tryd.prog 234 = false := by kernel_rfl
theorem ty_bool234 : boolT Tryd.prog 234 = false := by kernel_rfl
theorem ty_z234 : zeroT Tryd.prog 234 = some [.nilFunc] := by kernel_rfl
theorem ty_ag235 : aggT Tryd.prog 235 = some false := by kernel_rfl
theorem ty_sz235 : szT Tryd.prog 235 = some 1 := by kernel_rfl
theorem ty_int235 : intT Tryd.prog 235 = none := by kernel_rfl
theorem ty_ifc235 : ifaceT Tryd.prog 235 = false := by kernel_rfl
theorem ty_bool235 : boolT Tryd.prog 235 = false := by kernel_rfl
theorem ty_z235 : zeroT Tryd.prog 235 = some [.nilFunc] := by kernel_rfl
theorem ty_ag236 : aggT Tryd.prog 236 = some false := by kernel_rfl
theorem ty_sz236 : szT Tryd.prog 236 = some 1 := by kernel_rfl
theorem ty_int236 : intT Tryd.prog 236 = none := by kernel_rfl
theorem ty_ifc236 : ifaceT Tryd.prog 236 = false := by kernel_rfl
theorem ty_bool236 : boolT Tryd.prog 236 = false := by kernel_rfl
theorem ty_z236 : zeroT Tryd.prog 236 = some [.nilFunc] := by kernel_rfl
theorem ty_ag237 : aggT Tryd.prog 237 = some true := by kernel_rfl
theorem ty_sz237 : szT Tryd.prog 237 = some 3 := by kernel_rfl
theorem ty_int237 : intT Tryd.prog 237 = none := by kernel_rfl
theorem ty_ifc237 : ifaceT Tryd.prog 237 = false := by kernel_rfl
theorem ty_bool237 : boolT Tryd.prog 237 = false := by kernel_rfl
theorem ty_f237_0 : fieldT Tryd.prog 237 0 = some (0, 1, false) := by kernel_rfl
theorem ty_f237_1 : fieldT Tryd.prog 237 1 = some (1, 1, false) := by kernel_rfl
theorem ty_f237_2 : fieldT Tryd.prog 237 2 = some (2, 1, false) := by kernel_rfl
theorem ty_pl237 : placeT Tryd.prog 237 = some (fun i => #[(0, 1), (1, 1), (2, 1)][i]?) := by kernel_rfl
theorem ty_z237 : zeroT Tryd.prog 237 = some [.int .i64 (0), .nilFunc, .nilFunc] := by kernel_rfl
theorem ty_ag238 : aggT Tryd.prog 238 = some true := by kernel_rfl
theorem ty_sz238 : szT Tryd.prog 238 = some 3 := by kernel_rfl
theorem ty_int238 : intT Tryd.prog 238 = none := by kernel_rfl
theorem ty_ifc238 : ifaceT Tryd.prog 238 = false := by kernel_rfl
theorem ty_bool238 : boolT Tryd.prog 238 = false := by kernel_rfl
theorem ty_f238_0 : fieldT Tryd.prog 238 0 = some (0, 1, false) := by kernel_rfl
theorem ty_f238_1 : fieldT Tryd.prog 238 1 = some (1, 1, false) := by kernel_rfl
theorem ty_f238_2 : fieldT Tryd.prog 238 2 = some (2, 1, false) := by kernel_rfl
theorem ty_pl238 : placeT Tryd.prog 238 = some (fun i => #[(0, 1), (1, 1), (2, 1)][i]?) := by kernel_rfl
theorem ty_z238 : zeroT Tryd.prog 238 = some [.int .i64 (0), .nilFunc, .nilFunc] := by kernel_rfl
theorem ty_ag239 : aggT Tryd.prog 239 = some false := by kernel_rfl
theorem ty_sz239 : szT Tryd.prog 239 = some 1 := by kernel_rfl
theorem ty_int239 : intT Tryd.prog 239 = some .u32 := by kernel_rfl
theorem ty_ifc239 : ifaceT Tryd.prog 239 = false := by kernel_rfl
theorem ty_bool239 : boolT Tryd.prog 239 = false := by kernel_rfl
theorem ty_z239 : zeroT Tryd.prog 239 = some [.int .u32 (0)] := by kernel_rfl
theorem ty_ag240 : aggT Tryd.prog 240 = some false := by kernel_rfl
theorem ty_sz240 : szT Tryd.prog 240 = some 1 := by kernel_rfl
theorem ty_int240 : intT Tryd.prog 240 = none := by kernel_rfl
theorem ty_ifc240 : ifaceT Tryd.prog 240 = false := by kernel_rfl
theorem ty_m240_0 : methA Tryd.prog 240 "plugboard/packets.from" = some 104 := by kernel_rfl
theorem ty_k240_0 : nilOk Tryd.prog 240 "plugboard/packets.from" = true := by kernel_rfl
theorem ty_m240_1 : methA Tryd.prog 240 "plugboard/packets.number" = some 103 := by kernel_rfl
theorem ty_k240_1 : nilOk Tryd.prog 240 "plugboard/packets.number" = true := by kernel_rfl
theorem ty_bool240 : boolT Tryd.prog 240 = false := by kernel_rfl
theorem ty_z240 : zeroT Tryd.prog 240 = some [.pointer none] := by kernel_rfl
theorem ty_ag242 : aggT Tryd.prog 242 = some false := by kernel_rfl
theorem ty_sz242 : szT Tryd.prog 242 = some 1 := by kernel_rfl
theorem ty_int242 : intT Tryd.prog 242 = none := by kernel_rfl
theorem ty_ifc242 : ifaceT Tryd.prog 242 = false := by kernel_rfl
theorem ty_bool242 : boolT Tryd.prog 242 = false := by kernel_rfl
theorem ty_z242 : zeroT Tryd.prog 242 = some [.nilFunc] := by kernel_rfl
theorem ty_ag243 : aggT Tryd.prog 243 = some false := by kernel_rfl
theorem ty_sz243 : szT Tryd.prog 243 = some 1 := by kernel_rfl
theorem ty_int243 : intT Tryd.prog 243 = none := by kernel_rfl
theorem ty_ifc243 : ifaceT Tryd.prog 243 = false := by kernel_rfl
theorem ty_bool243 : boolT Tryd.prog 243 = false := by kernel_rfl
theorem ty_z243 : zeroT Tryd.prog 243 = some [.nilFunc] := by kernel_rfl
theorem ty_ag244 : aggT Tryd.prog 244 = some false := by kernel_rfl
theorem ty_sz244 : szT Tryd.prog 244 = some 1 := by kernel_rfl
theorem ty_int244 : intT Tryd.prog 244 = none := by kernel_rfl
theorem ty_ifc244 : ifaceT Tryd.prog 244 = false := by kernel_rfl
theorem ty_bool244 : boolT Tryd.prog 244 = false := by kernel_rfl
theorem ty_z244 : zeroT Tryd.prog 244 = some [.nilFunc] := by kernel_rfl
theorem ty_ag245 : aggT Tryd.prog 245 = some false := by kernel_rfl
theorem ty_sz245 : szT Tryd.prog 245 = some 1 := by kernel_rfl
theorem ty_int245 : intT Tryd.prog 245 = none := by kernel_rfl
theorem ty_ifc245 : ifaceT Tryd.prog 245 = false := by kernel_rfl
theorem ty_bool245 : boolT Tryd.prog 245 = false := by kernel_rfl
theorem ty_z245 : zeroT Tryd.prog 245 = some [.nilFunc] := by kernel_rfl
theorem ty_ag246 : aggT Tryd.prog 246 = some false := by kernel_rfl
theorem ty_sz246 : szT Tryd.prog 246 = some 1 := by kernel_rfl
theorem ty_int246 : intT Tryd.prog 246 = none := by kernel_rfl
theorem ty_ifc246 : ifaceT Tryd.prog 246 = false := by kernel_rfl
theorem ty_bool246 : boolT Tryd.prog 246 = false := by kernel_rfl
theorem ty_z246 : zeroT Tryd.prog 246 = some [.nilFunc] := by kernel_rfl
theorem ty_ag247 : aggT Tryd.prog 247 = some false := by kernel_rfl
theorem ty_sz247 : szT Tryd.prog 247 = some 1 := by kernel_rfl
theorem ty_int247 : intT Tryd.prog 247 = none := by kernel_rfl
theorem ty_ifc247 : ifaceT Tryd.prog 247 = false := by kernel_rfl
theorem ty_bool247 : boolT Tryd.prog 247 = false := by kernel_rfl
theorem ty_z247 : zeroT Tryd.prog 247 = some [.nilFunc] := by kernel_rfl
theorem ty_ag248 : aggT Tryd.prog 248 = some false := by kernel_rfl
theorem ty_sz248 : szT Tryd.prog 248 = some 1 := by kernel_rfl
theorem ty_int248 : intT Tryd.prog 248 = none := by kernel_rfl
theorem ty_ifc248 : ifaceT Tryd.prog 248 = false := by kernel_rfl
theorem ty_bool248 : boolT Tryd.prog 248 = false := by kernel_rfl
theorem ty_z248 : zeroT Tryd.prog 248 = some [.nilFunc] := by kernel_rfl
theorem ty_ag249 : aggT Tryd.prog 249 = some false := by kernel_rfl
theorem ty_sz249 : szT Tryd.prog 249 = some 1 := by kernel_rfl
theorem ty_int249 : intT Tryd.prog 249 = none := by kernel_rfl
theorem ty_ifc249 : ifaceT Tryd.prog 249 = false := by kernel_rfl
theorem ty_bool249 : boolT Tryd.prog 249 = false := by kernel_rfl
theorem ty_z249 : zeroT Tryd.prog 249 = some [.nilFunc] := by kernel_rfl
theorem ty_ag250 : aggT Tryd.prog 250 = some true := by kernel_rfl
theorem ty_sz250 : szT Tryd.prog 250 = some 1 := by kernel_rfl
theorem ty_int250 : intT Tryd.prog 250 = none := by kernel_rfl
theorem ty_ifc250 : ifaceT Tryd.prog 250 = false := by kernel_rfl
theorem ty_bool250 : boolT Tryd.prog 250 = false := by kernel_rfl
theorem ty_f250_0 : fieldT Tryd.prog 250 0 = some (0, 1, false) := by kernel_rfl
theorem ty_pl250 : placeT Tryd.prog 250 = some (fun i => #[(0, 1)][i]?) := by kernel_rfl
theorem ty_z250 : zeroT Tryd.prog 250 = some [.slice none 0 0] := by kernel_rfl
theorem ty_ag251 : aggT Tryd.prog 251 = some true := by kernel_rfl
theorem ty_sz251 : szT Tryd.prog 251 = some 1 := by kernel_rfl
theorem ty_int251 : intT Tryd.prog 251 = none := by kernel_rfl
theorem ty_ifc251 : ifaceT Tryd.prog 251 = false := by kernel_rfl
theorem ty_bool251 : boolT Tryd.prog 251 = false := by kernel_rfl
theorem ty_f251_0 : fieldT Tryd.prog 251 0 = some (0, 1, false) := by kernel_rfl
theorem ty_pl251 : placeT Tryd.prog 251 = some (fun i => #[(0, 1)][i]?) := by kernel_rfl
theorem ty_z251 : zeroT Tryd.prog 251 = some [.slice none 0 0] := by kernel_rfl
theorem ty_ag252 : aggT Tryd.prog 252 = some false := by kernel_rfl
theorem ty_sz252 : szT Tryd.prog 252 = some 1 := by kernel_rfl
theorem ty_int252 : intT Tryd.prog 252 = none := by kernel_rfl
theorem ty_ifc252 : ifaceT Tryd.prog 252 = false := by kernel_rfl
theorem ty_bool252 : boolT Tryd.prog 252 = false := by kernel_rfl
theorem ty_z252 : zeroT Tryd.prog 252 = some [.nilFunc] := by kernel_rfl
theorem ty_ag253 : aggT Tryd.prog 253 = some false := by kernel_rfl
theorem ty_sz253 : szT Tryd.prog 253 = some 1 := by kernel_rfl
theorem ty_int253 : intT Tryd.prog 253 = none := by kernel_rfl
theorem ty_ifc253 : ifaceT Tryd.prog 253 = false := by kernel_rfl
theorem ty_bool253 : boolT Tryd.prog 253 = false := by kernel_rfl
theorem ty_z253 : zeroT Tryd.prog 253 = some [.nilFunc] := by kernel_rfl
theorem ty_ag254 : aggT Tryd.prog 254 = some false := by kernel_rfl
theorem ty_sz254 : szT Tryd.prog 254 = some 1 := by kernel_rfl
theorem ty_int254 : intT Tryd.prog 254 = none := by kernel_rfl
theorem ty_ifc254 : ifaceT Tryd.prog 254 = false := by kernel_rfl
theorem ty_bool254 : boolT Tryd.prog 254 = false := by kernel_rfl
theorem ty_z254 : zeroT Tryd.prog 254 = some [.nilFunc] := by kernel_rfl
theorem ty_ag255 : aggT Tryd.prog 255 = some false := by kernel_rfl
theorem ty_sz255 : szT Tryd.prog 255 = some 1 := by kernel_rfl
theorem ty_int255 : intT Tryd.prog 255 = none := by kernel_rfl
theorem ty_ifc255 : ifaceT Tryd.prog 255 = false := by kernel_rfl
theorem ty_bool255 : boolT Tryd.prog 255 = false := by kernel_rfl
theorem ty_z255 : zeroT Tryd.prog 255 = some [.nilFunc] := by kernel_rfl
theorem ty_ag256 : aggT Tryd.prog 256 = some false := by kernel_rfl
theorem ty_sz256 : szT Tryd.prog 256 = some 1 := by kernel_rfl
theorem ty_int256 : intT Tryd.prog 256 = none := by kernel_rfl
theorem ty_ifc256 : ifaceT Tryd.prog 256 = false := by kernel_rfl
theorem ty_bool256 : boolT Tryd.prog 256 = false := by kernel_rfl
theorem ty_z256 : zeroT Tryd.prog 256 = some [.nilFunc] := by kernel_rfl
theorem ty_ag257 : aggT Tryd.prog 257 = some false := by kernel_rfl
theorem ty_sz257 : szT Tryd.prog 257 = some 1 := by kernel_rfl
theorem ty_int257 : intT Tryd.prog 257 = none := by kernel_rfl
theorem ty_ifc257 : ifaceT Tryd.prog 257 = false := by kernel_rfl
theorem ty_bool257 : boolT Tryd.prog 257 = false := by kernel_rfl
theorem ty_z257 : zeroT Tryd.prog 257 = some [.nilFunc] := by kernel_rfl
theorem ty_ag258 : aggT Tryd.prog 258 = some false := by kernel_rfl
theorem ty_sz258 : szT Tryd.prog 258 = some 1 := by kernel_rfl
theorem ty_int258 : intT Tryd.prog 258 = none := by kernel_rfl
theorem ty_ifc258 : ifaceT Tryd.prog 258 = false := by kernel_rfl
theorem ty_bool258 : boolT Tryd.prog 258 = false := by kernel_rfl
theorem ty_z258 : zeroT Tryd.prog 258 = some [.nilFunc] := by kernel_rfl
theorem ty_ag259 : aggT Tryd.prog 259 = some false := by kernel_rfl
theorem ty_sz259 : szT Tryd.prog 259 = some 1 := by kernel_rfl
theorem ty_int259 : intT Tryd.prog 259 = none := by kernel_rfl
theorem ty_ifc259 : ifaceT Tryd.prog 259 = false := by kernel_rfl
theorem ty_bool259 : boolT Tryd.prog 259 = false := by kernel_rfl
theorem ty_z259 : zeroT Tryd.prog 259 = some [.nilFunc] := by kernel_rfl
theorem ty_ag261 : aggT Tryd.prog 261 = some false := by kernel_rfl
theorem ty_sz261 : szT Tryd.prog 261 = some 1 := by kernel_rfl
theorem ty_int261 : intT Tryd.prog 261 = none := by kernel_rfl
theorem ty_ifc261 : ifaceT Tryd.prog 261 = false := by kernel_rfl
theorem ty_bool261 : boolT Tryd.prog 261 = false := by kernel_rfl
theorem ty_z261 : zeroT Tryd.prog 261 = some [.nilFunc] := by kernel_rfl
theorem ty_ag262 : aggT Tryd.prog 262 = some false := by kernel_rfl
theorem ty_sz262 : szT Tryd.prog 262 = some 1 := by kernel_rfl
theorem ty_int262 : intT Tryd.prog 262 = none := by kernel_rfl
theorem ty_ifc262 : ifaceT Tryd.prog 262 = false := by kernel_rfl
theorem ty_bool262 : boolT Tryd.prog 262 = false := by kernel_rfl
theorem ty_z262 : zeroT Tryd.prog 262 = some [.nilFunc] := by kernel_rfl
theorem ty_ag263 : aggT Tryd.prog 263 = some false := by kernel_rfl
theorem ty_sz263 : szT Tryd.prog 263 = some 1 := by kernel_rfl
theorem ty_int263 : intT Tryd.prog 263 = none := by kernel_rfl
theorem ty_ifc263 : ifaceT Tryd.prog 263 = false := by kernel_rfl
theorem ty_bool263 : boolT Tryd.prog 263 = false := by kernel_rfl
theorem ty_z263 : zeroT Tryd.prog 263 = some [.nilFunc] := by kernel_rfl
theorem ty_ag264 : aggT Tryd.prog 264 = some false := by kernel_rfl
theorem ty_sz264 : szT Tryd.prog 264 = some 1 := by kernel_rfl
theorem ty_int264 : intT Tryd.prog 264 = none := by kernel_rfl
theorem ty_ifc264 : ifaceT Tryd.prog 264 = false := by kernel_rfl
theorem ty_bool264 : boolT Tryd.prog 264 = false := by kernel_rfl
theorem ty_elem264 : elemT Tryd.prog 264 = some (52, 1, false) := by kernel_rfl
theorem ty_app264 : appT Tryd.prog 264 = some (52, 1, 2) := by kernel_rfl
theorem ty_z264 : zeroT Tryd.prog 264 = some [.slice none 0 0] := by kernel_rfl
theorem ty_ag265 : aggT Tryd.prog 265 = some false := by kernel_rfl
theorem ty_sz265 : szT Tryd.prog 265 = some 1 := by kernel_rfl
theorem ty_int265 : intT Tryd.prog 265 = none := by kernel_rfl
theorem ty_ifc265 : ifaceT Tryd.prog 265 = false := by kernel_rfl
theorem ty_bool265 : boolT Tryd.prog 265 = false := by kernel_rfl
theorem ty_z265 : zeroT Tryd.prog 265 = some [.nilFunc] := by kernel_rfl
theorem ty_ag267 : aggT Tryd.prog 267 = some false := by kernel_rfl
theorem ty_sz267 : szT Tryd.prog 267 = some 1 := by kernel_rfl
theorem ty_int267 : intT Tryd.prog 267 = none := by kernel_rfl
theorem ty_ifc267 : ifaceT Tryd.prog 267 = false := by kernel_rfl
theorem ty_bool267 : boolT Tryd.prog 267 = false := by kernel_rfl
theorem ty_z267 : zeroT Tryd.prog 267 = some [.nilFunc] := by kernel_rfl
theorem ty_ag268 : aggT Tryd.prog 268 = some false := by kernel_rfl
theorem ty_sz268 : szT Tryd.prog 268 = some 1 := by kernel_rfl
theorem ty_int268 : intT Tryd.prog 268 = none := by kernel_rfl
theorem ty_ifc268 : ifaceT Tryd.prog 268 = false := by kernel_rfl
theorem ty_bool268 : boolT Tryd.prog 268 = false := by kernel_rfl
theorem ty_z268 : zeroT Tryd.prog 268 = some [.nilFunc] := by kernel_rfl
theorem ty_ag269 : aggT Tryd.prog 269 = some false := by kernel_rfl
theorem ty_sz269 : szT Tryd.prog 269 = some 1 := by kernel_rfl
theorem ty_int269 : intT Tryd.prog 269 = none := by kernel_rfl
theorem ty_ifc269 : ifaceT Tryd.prog 269 = false := by kernel_rfl
theorem ty_bool269 : boolT Tryd.prog 269 = false := by kernel_rfl
theorem ty_z269 : zeroT Tryd.prog 269 = some [.nilFunc] := by kernel_rfl
theorem ty_ag270 : aggT Tryd.prog 270 = some false := by kernel_rfl
theorem ty_sz270 : szT Tryd.prog 270 = some 1 := by kernel_rfl
theorem ty_int270 : intT Tryd.prog 270 = none := by kernel_rfl
theorem ty_ifc270 : ifaceT Tryd.prog 270 = false := by kernel_rfl
theorem ty_bool270 : boolT Tryd.prog 270 = false := by kernel_rfl
theorem ty_z270 : zeroT Tryd.prog 270 = some [.nilFunc] := by kernel_rfl
theorem ty_ag271 : aggT Tryd.prog 271 = some false := by kernel_rfl
theorem ty_sz271 : szT Tryd.prog 271 = some 1 := by kernel_rfl
theorem ty_int271 : intT Tryd.prog 271 = none := by kernel_rfl
theorem ty_ifc271 : ifaceT Tryd.prog 271 = false := by kernel_rfl
theorem ty_bool271 : boolT Tryd.prog 271 = false := by kernel_rfl
theorem ty_z271 : zeroT Tryd.prog 271 = some [.nilFunc] := by kernel_rfl
theorem ty_ag272 : aggT Tryd.prog 272 = some false := by kernel_rfl
theorem ty_sz272 : szT Tryd.prog 272 = some 1 := by kernel_rfl
theorem ty_int272 : intT Tryd.prog 272 = none := by kernel_rfl
theorem ty_ifc272 : ifaceT Tryd.prog 272 = false := by kernel_rfl
theorem ty_bool272 : boolT Tryd.prog 272 = false := by kernel_rfl
theorem ty_z272 : zeroT Tryd.prog 272 = some [.nilFunc] := by kernel_rfl
theorem ty_ag273 : aggT Tryd.prog 273 = some false := by kernel_rfl
theorem ty_sz273 : szT Tryd.prog 273 = some 1 := by kernel_rfl
theorem ty_int273 : intT Tryd.prog 273 = none := by kernel_rfl
theorem ty_ifc273 : ifaceT Tryd.prog 273 = false := by kernel_rfl
theorem ty_bool273 : boolT Tryd.prog 273 = false := by kernel_rfl
theorem ty_z273 : zeroT Tryd.prog 273 = some [.nilFunc] := by kernel_rfl
theorem ty_ag275 : aggT Tryd.prog 275 = some false := by kernel_rfl
theorem ty_sz275 : szT Tryd.prog 275 = some 1 := by kernel_rfl
theorem ty_int275 : intT Tryd.prog 275 = none := by kernel_rfl
theorem ty_ifc275 : ifaceT Tryd.prog 275 = false := by kernel_rfl
theorem ty_bool275 : boolT Tryd.prog 275 = false := by kernel_rfl
theorem ty_z275 : zeroT Tryd.prog 275 = some [.nilFunc] := by kernel_rfl
theorem ty_ag276 : aggT Tryd.prog 276 = some false := by kernel_rfl
theorem ty_sz276 : szT Tryd.prog 276 = some 1 := by kernel_rfl
theorem ty_int276 : intT Tryd.prog 276 = none := by kernel_rfl
theorem ty_ifc276 : ifaceT Tryd.prog 276 = false := by kernel_rfl
theorem ty_bool276 : boolT Tryd.prog 276 = false := by kernel_rfl
theorem ty_z276 : zeroT Tryd.prog 276 = some [.nilFunc] := by kernel_rfl
theorem ty_ag277 : aggT Tryd.prog 277 = some false := by kernel_rfl
theorem ty_sz277 : szT Tryd.prog 277 = some 1 := by kernel_rfl
theorem ty_int277 : intT Tryd.prog 277 = none := by kernel_rfl
theorem ty_ifc277 : ifaceT Tryd.prog 277 = false := by kernel_rfl
theorem ty_bool277 : boolT Tryd.prog 277 = false := by kernel_rfl
theorem ty_z277 : zeroT Tryd.prog 277 = some [.nilFunc] := by kernel_rfl
theorem ty_ag278 : aggT Tryd.prog 278 = some false := by kernel_rfl
theorem ty_sz278 : szT Tryd.prog 278 = some 1 := by kernel_rfl
theorem ty_int278 : intT Tryd.prog 278 = none := by kernel_rfl
theorem ty_ifc278 : ifaceT Tryd.prog 278 = false := by kernel_rfl
theorem ty_bool278 : boolT Tryd.prog 278 = false := by kernel_rfl
theorem ty_z278 : zeroT Tryd.prog 278 = some [.nilFunc] := by kernel_rfl
theorem ty_ag279 : aggT Tryd.prog 279 = some false := by kernel_rfl
theorem ty_sz279 : szT Tryd.prog 279 = some 1 := by kernel_rfl
theorem ty_int279 : intT Tryd.prog 279 = none := by kernel_rfl
theorem ty_ifc279 : ifaceT Tryd.prog 279 = false := by kernel_rfl
theorem ty_bool279 : boolT Tryd.prog 279 = false := by kernel_rfl
theorem ty_z279 : zeroT Tryd.prog 279 = some [.nilFunc] := by kernel_rfl
theorem ty_ag281 : aggT Tryd.prog 281 = some false := by kernel_rfl
theorem ty_sz281 : szT Tryd.prog 281 = some 1 := by kernel_rfl
theorem ty_int281 : intT Tryd.prog 281 = none := by kernel_rfl
theorem ty_ifc281 : ifaceT Tryd.prog 281 = false := by kernel_rfl
theorem ty_bool281 : boolT Tryd.prog 281 = false := by kernel_rfl
theorem ty_z281 : zeroT Tryd.prog 281 = some [.nilFunc] := by kernel_rfl
theorem ty_ag282 : aggT Tryd.prog 282 = some false := by kernel_rfl
theorem ty_sz282 : szT Tryd.prog 282 = some 1 := by kernel_rfl
theorem ty_int282 : intT Tryd.prog 282 = none := by kernel_rfl
theorem ty_ifc282 : ifaceT Tryd.prog 282 = false := by kernel_rfl
theorem ty_bool282 : boolT Tryd.prog 282 = false := by kernel_rfl
theorem ty_z282 : zeroT Tryd.prog 282 = some [.nilFunc] := by kernel_rfl
theorem ty_ag283 : aggT Tryd.prog 283 = some false := by kernel_rfl
theorem ty_sz283 : szT Tryd.prog 283 = some 1 := by kernel_rfl
theorem ty_int283 : intT Tryd.prog 283 = none := by kernel_rfl
theorem ty_ifc283 : ifaceT Tryd.prog 283 = false := by kernel_rfl
theorem ty_bool283 : boolT Tryd.prog 283 = false := by kernel_rfl
theorem ty_z283 : zeroT Tryd.prog 283 = some [.nilFunc] := by kernel_rfl
theorem ty_ag284 : aggT Tryd.prog 284 = some false := by kernel_rfl
theorem ty_sz284 : szT Tryd.prog 284 = some 1 := by kernel_rfl
theorem ty_int284 : intT Tryd.prog 284 = none := by kernel_rfl
theorem ty_ifc284 : ifaceT Tryd.prog 284 = false := by kernel_rfl
theorem ty_bool284 : boolT Tryd.prog 284 = false := by kernel_rfl
theorem ty_z284 : zeroT Tryd.prog 284 = some [.nilFunc] := by kernel_rfl
theorem ty_ag285 : aggT Tryd.prog 285 = some false := by kernel_rfl
theorem ty_sz285 : szT Tryd.prog 285 = some 1 := by kernel_rfl
theorem ty_int285 : intT Tryd.prog 285 = none := by kernel_rfl
theorem ty_ifc285 : ifaceT Tryd.prog 285 = false := by kernel_rfl
theorem ty_bool285 : boolT Tryd.prog 285 = false := by kernel_rfl
theorem ty_z285 : zeroT Tryd.prog 285 = some [.nilFunc] := by kernel_rfl
theorem ty_ag286 : aggT Tryd.prog 286 = some false := by kernel_rfl
theorem ty_sz286 : szT Tryd.prog 286 = some 1 := by kernel_rfl
theorem ty_int286 : intT Tryd.prog 286 = none := by kernel_rfl
theorem ty_ifc286 : ifaceT Tryd.prog 286 = false := by kernel_rfl
theorem ty_bool286 : boolT Tryd.prog 286 = false := by kernel_rfl
theorem ty_z286 : zeroT Tryd.prog 286 = some [.nilFunc] := by kernel_rfl
theorem ty_ag287 : aggT Tryd.prog 287 = some false := by kernel_rfl
theorem ty_sz287 : szT Tryd.prog 287 = some 1 := by kernel_rfl
theorem ty_int287 : intT Tryd.prog 287 = none := by kernel_rfl
theorem ty_ifc287 : ifaceT Tryd.prog 287 = false := by kernel_rfl
theorem ty_bool287 : boolT Tryd.prog 287 = false := by kernel_rfl
theorem ty_z287 : zeroT Tryd.prog 287 = some [.nilFunc] := by kernel_rfl
theorem ty_ag288 : aggT Tryd.prog 288 = some true := by kernel_rfl
theorem ty_sz288 : szT Tryd.prog 288 = some 16 := by kernel_rfl
theorem ty_int288 : intT Tryd.prog 288 = none := by kernel_rfl
theorem ty_ifc288 : ifaceT Tryd.prog 288 = false := by kernel_rfl
theorem ty_bool288 : boolT Tryd.prog 288 = false := by kernel_rfl
theorem ty_arr288 : arrT Tryd.prog 288 = some (16, 9, 1, false) := by kernel_rfl
theorem ty_pl288 : placeT Tryd.prog 288 = some (fun i => some (i * 1, 1)) := by kernel_rfl
theorem ty_z288 : zeroT Tryd.prog 288 = some [.string ⟨#[]⟩, .string ⟨#[]⟩, .string ⟨#[]⟩, .string ⟨#[]⟩, .string ⟨#[]⟩, .string ⟨#[]⟩, .string ⟨#[]⟩, .string ⟨#[]⟩, .string ⟨#[]⟩, .string ⟨#[]⟩, .string ⟨#[]⟩, .string ⟨#[]⟩, .string ⟨#[]⟩, .string ⟨#[]⟩, .string ⟨#[]⟩, .string ⟨#[]⟩] := by kernel_rfl
theorem ty_ag289 : aggT Tryd.prog 289 = some true := by kernel_rfl
theorem ty_sz289 : szT Tryd.prog 289 = some 4 := by kernel_rfl
theorem ty_int289 : intT Tryd.prog 289 = none := by kernel_rfl
theorem ty_ifc289 : ifaceT Tryd.prog 289 = false := by kernel_rfl
theorem ty_bool289 : boolT Tryd.prog 289 = false := by kernel_rfl
theorem ty_arr289 : arrT Tryd.prog 289 = some (4, 9, 1, false) := by kernel_rfl
theorem ty_pl289 : placeT Tryd.prog 289 = some (fun i => some (i * 1, 1)) := by kernel_rfl
theorem ty_z289 : zeroT Tryd.prog 289 = some [.string ⟨#[]⟩, .string ⟨#[]⟩, .string ⟨#[]⟩, .string ⟨#[]⟩] := by kernel_rfl
theorem ty_ag290 : aggT Tryd.prog 290 = some false := by kernel_rfl
theorem ty_sz290 : szT Tryd.prog 290 = some 1 := by kernel_rfl
theorem ty_int290 : intT Tryd.prog 290 = none := by kernel_rfl
theorem ty_ifc290 : ifaceT Tryd.prog 290 = false := by kernel_rfl
theorem ty_bool290 : boolT Tryd.prog 290 = false := by kernel_rfl
theorem ty_z290 : zeroT Tryd.prog 290 = some [.nilFunc] := by kernel_rfl
theorem ty_ag291 : aggT Tryd.prog 291 = some false := by kernel_rfl
theorem ty_sz291 : szT Tryd.prog 291 = some 1 := by kernel_rfl
theorem ty_int291 : intT Tryd.prog 291 = none := by kernel_rfl
theorem ty_ifc291 : ifaceT Tryd.prog 291 = false := by kernel_rfl
theorem ty_bool291 : boolT Tryd.prog 291 = false := by kernel_rfl
theorem ty_z291 : zeroT Tryd.prog 291 = some [.nilFunc] := by kernel_rfl
theorem ty_ag292 : aggT Tryd.prog 292 = some false := by kernel_rfl
theorem ty_sz292 : szT Tryd.prog 292 = some 1 := by kernel_rfl
theorem ty_int292 : intT Tryd.prog 292 = none := by kernel_rfl
theorem ty_ifc292 : ifaceT Tryd.prog 292 = false := by kernel_rfl
theorem ty_bool292 : boolT Tryd.prog 292 = false := by kernel_rfl
theorem ty_z292 : zeroT Tryd.prog 292 = some [.nilFunc] := by kernel_rfl
theorem ty_ag293 : aggT Tryd.prog 293 = some false := by kernel_rfl
theorem ty_sz293 : szT Tryd.prog 293 = some 1 := by kernel_rfl
theorem ty_int293 : intT Tryd.prog 293 = none := by kernel_rfl
theorem ty_ifc293 : ifaceT Tryd.prog 293 = false := by kernel_rfl
theorem ty_bool293 : boolT Tryd.prog 293 = false := by kernel_rfl
theorem ty_z293 : zeroT Tryd.prog 293 = some [.nilFunc] := by kernel_rfl
theorem ty_ag294 : aggT Tryd.prog 294 = some false := by kernel_rfl
theorem ty_sz294 : szT Tryd.prog 294 = some 1 := by kernel_rfl
theorem ty_int294 : intT Tryd.prog 294 = none := by kernel_rfl
theorem ty_ifc294 : ifaceT Tryd.prog 294 = false := by kernel_rfl
theorem ty_bool294 : boolT Tryd.prog 294 = false := by kernel_rfl
theorem ty_z294 : zeroT Tryd.prog 294 = some [.nilFunc] := by kernel_rfl
theorem ty_ag296 : aggT Tryd.prog 296 = some false := by kernel_rfl
theorem ty_sz296 : szT Tryd.prog 296 = some 1 := by kernel_rfl
theorem ty_int296 : intT Tryd.prog 296 = none := by kernel_rfl
theorem ty_ifc296 : ifaceT Tryd.prog 296 = false := by kernel_rfl
theorem ty_bool296 : boolT Tryd.prog 296 = false := by kernel_rfl
theorem ty_z296 : zeroT Tryd.prog 296 = some [.nilFunc] := by kernel_rfl
theorem ty_ag297 : aggT Tryd.prog 297 = some false := by kernel_rfl
theorem ty_sz297 : szT Tryd.prog 297 = some 1 := by kernel_rfl
theorem ty_int297 : intT Tryd.prog 297 = none := by kernel_rfl
theorem ty_ifc297 : ifaceT Tryd.prog 297 = false := by kernel_rfl
theorem ty_bool297 : boolT Tryd.prog 297 = false := by kernel_rfl
theorem ty_z297 : zeroT Tryd.prog 297 = some [.nilFunc] := by kernel_rfl
theorem ty_ag298 : aggT Tryd.prog 298 = some false := by kernel_rfl
theorem ty_sz298 : szT Tryd.prog 298 = some 1 := by kernel_rfl
theorem ty_int298 : intT Tryd.prog 298 = none := by kernel_rfl
theorem ty_ifc298 : ifaceT Tryd.prog 298 = false := by kernel_rfl
theorem ty_bool298 : boolT Tryd.prog 298 = false := by kernel_rfl
theorem ty_z298 : zeroT Tryd.prog 298 = some [.nilFunc] := by kernel_rfl
theorem ty_ag299 : aggT Tryd.prog 299 = some false := by kernel_rfl
theorem ty_sz299 : szT Tryd.prog 299 = some 1 := by kernel_rfl
theorem ty_int299 : intT Tryd.prog 299 = none := by kernel_rfl
theorem ty_ifc299 : ifaceT Tryd.prog 299 = false := by kernel_rfl
theorem ty_bool299 : boolT Tryd.prog 299 = false := by kernel_rfl
theorem ty_z299 : zeroT Tryd.prog 299 = some [.nilFunc] := by kernel_rfl
theorem ty_ag300 : aggT Tryd.prog 300 = some false := by kernel_rfl
theorem ty_sz300 : szT Tryd.prog 300 = some 1 := by kernel_rfl
theorem ty_int300 : intT Tryd.prog 300 = none := by kernel_rfl
theorem ty_ifc300 : ifaceT Tryd.prog 300 = false := by kernel_rfl
theorem ty_bool300 : boolT Tryd.prog 300 = false := by kernel_rfl
theorem ty_z300 : zeroT Tryd.prog 300 = some [.nilFunc] := by kernel_rfl
theorem ty_ag301 : aggT Tryd.prog 301 = some false := by kernel_rfl
theorem ty_sz301 : szT Tryd.prog 301 = some 1 := by kernel_rfl
theorem ty_int301 : intT Tryd.prog 301 = none := by kernel_rfl
theorem ty_ifc301 : ifaceT Tryd.prog 301 = false := by kernel_rfl
theorem ty_bool301 : boolT Tryd.prog 301 = false := by kernel_rfl
theorem ty_z301 : zeroT Tryd.prog 301 = some [.nilFunc] := by kernel_rfl
theorem ty_ag302 : aggT Tryd.prog 302 = some false := by kernel_rfl
theorem ty_sz302 : szT Tryd.prog 302 = some 1 := by kernel_rfl
theorem ty_int302 : intT Tryd.prog 302 = none := by kernel_rfl
theorem ty_ifc302 : ifaceT Tryd.prog 302 = false := by kernel_rfl
theorem ty_bool302 : boolT Tryd.prog 302 = false := by kernel_rfl
theorem ty_z302 : zeroT Tryd.prog 302 = some [.nilFunc] := by kernel_rfl
theorem ty_ag303 : aggT Tryd.prog 303 = some false := by kernel_rfl
theorem ty_sz303 : szT Tryd.prog 303 = some 1 := by kernel_rfl
theorem ty_int303 : intT Tryd.prog 303 = none := by kernel_rfl
theorem ty_ifc303 : ifaceT Tryd.prog 303 = false := by kernel_rfl
theorem ty_bool303 : boolT Tryd.prog 303 = false := by kernel_rfl
theorem ty_z303 : zeroT Tryd.prog 303 = some [.nilFunc] := by kernel_rfl
theorem ty_ag305 : aggT Tryd.prog 305 = some false := by kernel_rfl
theorem ty_sz305 : szT Tryd.prog 305 = some 1 := by kernel_rfl
theorem ty_int305 : intT Tryd.prog 305 = none := by kernel_rfl
theorem ty_ifc305 : ifaceT Tryd.prog 305 = false := by kernel_rfl
theorem ty_bool305 : boolT Tryd.prog 305 = false := by kernel_rfl
theorem ty_z305 : zeroT Tryd.prog 305 = some [.nilFunc] := by kernel_rfl
theorem ty_ag307 : aggT Tryd.prog 307 = some false := by kernel_rfl
theorem ty_sz307 : szT Tryd.prog 307 = some 1 := by kernel_rfl
theorem ty_int307 : intT Tryd.prog 307 = none := by kernel_rfl
theorem ty_ifc307 : ifaceT Tryd.prog 307 = false := by kernel_rfl
theorem ty_bool307 : boolT Tryd.prog 307 = false := by kernel_rfl
theorem ty_z307 : zeroT Tryd.prog 307 = some [.nilFunc] := by kernel_rfl
theorem ty_ag308 : aggT Tryd.prog 308 = some true := by kernel_rfl
theorem ty_sz308 : szT Tryd.prog 308 = some 3 := by kernel_rfl
theorem ty_int308 : intT Tryd.prog 308 = none := by kernel_rfl
theorem ty_ifc308 : ifaceT Tryd.prog 308 = false := by kernel_rfl
theorem ty_bool308 : boolT Tryd.prog 308 = false := by kernel_rfl
theorem ty_f308_0 : fieldT Tryd.prog 308 0 = some (0, 1, false) := by kernel_rfl
theorem ty_f308_1 : fieldT Tryd.prog 308 1 = some (1, 1, false) := by kernel_rfl
theorem ty_f308_2 : fieldT Tryd.prog 308 2 = some (2, 1, false) := by kernel_rfl
theorem ty_pl308 : placeT Tryd.prog 308 = some (fun i => #[(0, 1), (1, 1), (2, 1)][i]?) := by kernel_rfl
theorem ty_z308 : zeroT Tryd.prog 308 = some [.int .i64 (0), .slice none 0 0, .int .i64 (0)] := by kernel_rfl
theorem ty_ag309 : aggT Tryd.prog 309 = some true := by kernel_rfl
theorem ty_sz309 : szT Tryd.prog 309 = some 3 := by kernel_rfl
theorem ty_int309 : intT Tryd.prog 309 = none := by kernel_rfl
theorem ty_ifc309 : ifaceT Tryd.prog 309 = false := by kernel_rfl
theorem ty_bool309 : boolT Tryd.prog 309 = false := by kernel_rfl
theorem ty_f309_0 : fieldT Tryd.prog 309 0 = some (0, 1, false) := by kernel_rfl
theorem ty_f309_1 : fieldT Tryd.prog 309 1 = some (1, 1, false) := by kernel_rfl
theorem ty_f309_2 : fieldT Tryd.prog 309 2 = some (2, 1, false) := by kernel_rfl
theorem ty_pl309 : placeT Tryd.prog 309 = some (fun i => #[(0, 1), (1, 1), (2, 1)][i]?) := by kernel_rfl
theorem ty_z309 : zeroT Tryd.prog 309 = some [.int .i64 (0), .slice none 0 0, .int .i64 (0)] := by kernel_rfl
theorem ty_ag311 : aggT Tryd.prog 311 = some false := by kernel_rfl
theorem ty_sz311 : szT Tryd.prog 311 = some 1 := by kernel_rfl
theorem ty_int311 : intT Tryd.prog 311 = none := by kernel_rfl
theorem ty_ifc311 : ifaceT Tryd.prog 311 = false := by kernel_rfl
theorem ty_bool311 : boolT Tryd.prog 311 = false := by kernel_rfl
theorem ty_z311 : zeroT Tryd.prog 311 = some [.nilFunc] := by kernel_rfl
theorem ty_ag312 : aggT Tryd.prog 312 = some false := by kernel_rfl
theorem ty_sz312 : szT Tryd.prog 312 = some 1 := by kernel_rfl
theorem ty_int312 : intT Tryd.prog 312 = none := by kernel_rfl
theorem ty_ifc312 : ifaceT Tryd.prog 312 = false := by kernel_rfl
theorem ty_bool312 : boolT Tryd.prog 312 = false := by kernel_rfl
theorem ty_z312 : zeroT Tryd.prog 312 = some [.map none] := by kernel_rfl
theorem ty_ag313 : aggT Tryd.prog 313 = some false := by kernel_rfl
theorem ty_sz313 : szT Tryd.prog 313 = some 1 := by kernel_rfl
theorem ty_int313 : intT Tryd.prog 313 = none := by kernel_rfl
theorem ty_ifc313 : ifaceT Tryd.prog 313 = false := by kernel_rfl
theorem ty_bool313 : boolT Tryd.prog 313 = false := by kernel_rfl
theorem ty_z313 : zeroT Tryd.prog 313 = some [.nilFunc] := by kernel_rfl
theorem ty_ag314 : aggT Tryd.prog 314 = some false := by kernel_rfl
theorem ty_sz314 : szT Tryd.prog 314 = some 1 := by kernel_rfl
theorem ty_int314 : intT Tryd.prog 314 = none := by kernel_rfl
theorem ty_ifc314 : ifaceT Tryd.prog 314 = false := by kernel_rfl
theorem ty_bool314 : boolT Tryd.prog 314 = false := by kernel_rfl
theorem ty_z314 : zeroT Tryd.prog 314 = some [.nilFunc] := by kernel_rfl
theorem ty_ag315 : aggT Tryd.prog 315 = some false := by kernel_rfl
theorem ty_sz315 : szT Tryd.prog 315 = some 1 := by kernel_rfl
theorem ty_int315 : intT Tryd.prog 315 = none := by kernel_rfl
theorem ty_ifc315 : ifaceT Tryd.prog 315 = false := by kernel_rfl
theorem ty_m315_0 : methA Tryd.prog 315 "plugboard/controls.begun" = some 187 := by kernel_rfl
theorem ty_k315_0 : nilOk Tryd.prog 315 "plugboard/controls.begun" = true := by kernel_rfl
theorem ty_m315_1 : methA Tryd.prog 315 "plugboard/controls.end" = some 186 := by kernel_rfl
theorem ty_k315_1 : nilOk Tryd.prog 315 "plugboard/controls.end" = true := by kernel_rfl
theorem ty_m315_2 : methA Tryd.prog 315 "plugboard/controls.finished" = some 189 := by kernel_rfl
theorem ty_k315_2 : nilOk Tryd.prog 315 "plugboard/controls.finished" = true := by kernel_rfl
theorem ty_m315_3 : methA Tryd.prog 315 "plugboard/controls.moved" = some 188 := by kernel_rfl
theorem ty_k315_3 : nilOk Tryd.prog 315 "plugboard/controls.moved" = true := by kernel_rfl
theorem ty_bool315 : boolT Tryd.prog 315 = false := by kernel_rfl
theorem ty_z315 : zeroT Tryd.prog 315 = some [.pointer none] := by kernel_rfl
theorem ty_ag316 : aggT Tryd.prog 316 = some true := by kernel_rfl
theorem ty_sz316 : szT Tryd.prog 316 = some 4 := by kernel_rfl
theorem ty_int316 : intT Tryd.prog 316 = none := by kernel_rfl
theorem ty_ifc316 : ifaceT Tryd.prog 316 = false := by kernel_rfl
theorem ty_bool316 : boolT Tryd.prog 316 = false := by kernel_rfl
theorem ty_arr316 : arrT Tryd.prog 316 = some (4, 314, 1, false) := by kernel_rfl
theorem ty_pl316 : placeT Tryd.prog 316 = some (fun i => some (i * 1, 1)) := by kernel_rfl
theorem ty_z316 : zeroT Tryd.prog 316 = some [.nilFunc, .nilFunc, .nilFunc, .nilFunc] := by kernel_rfl
theorem ty_ag317 : aggT Tryd.prog 317 = some true := by kernel_rfl
theorem ty_sz317 : szT Tryd.prog 317 = some 7 := by kernel_rfl
theorem ty_int317 : intT Tryd.prog 317 = none := by kernel_rfl
theorem ty_ifc317 : ifaceT Tryd.prog 317 = false := by kernel_rfl
theorem ty_bool317 : boolT Tryd.prog 317 = false := by kernel_rfl
theorem ty_arr317 : arrT Tryd.prog 317 = some (7, 26, 1, false) := by kernel_rfl
theorem ty_pl317 : placeT Tryd.prog 317 = some (fun i => some (i * 1, 1)) := by kernel_rfl
theorem ty_z317 : zeroT Tryd.prog 317 = some [.int .i64 (0), .int .i64 (0), .int .i64 (0), .int .i64 (0), .int .i64 (0), .int .i64 (0), .int .i64 (0)] := by kernel_rfl
theorem ty_ag318 : aggT Tryd.prog 318 = some true := by kernel_rfl
theorem ty_sz318 : szT Tryd.prog 318 = some 2 := by kernel_rfl
theorem ty_int318 : intT Tryd.prog 318 = none := by kernel_rfl
theorem ty_ifc318 : ifaceT Tryd.prog 318 = false := by kernel_rfl
theorem ty_bool318 : boolT Tryd.prog 318 = false := by kernel_rfl
theorem ty_f318_0 : fieldT Tryd.prog 318 0 = some (0, 1, false) := by kernel_rfl
theorem ty_f318_1 : fieldT Tryd.prog 318 1 = some (1, 1, false) := by kernel_rfl
theorem ty_pl318 : placeT Tryd.prog 318 = some (fun i => #[(0, 1), (1, 1)][i]?) := by kernel_rfl
theorem ty_z318 : zeroT Tryd.prog 318 = some [.int .i64 (0), .slice none 0 0] := by kernel_rfl
theorem ty_ag319 : aggT Tryd.prog 319 = some true := by kernel_rfl
theorem ty_sz319 : szT Tryd.prog 319 = some 2 := by kernel_rfl
theorem ty_int319 : intT Tryd.prog 319 = none := by kernel_rfl
theorem ty_ifc319 : ifaceT Tryd.prog 319 = false := by kernel_rfl
theorem ty_bool319 : boolT Tryd.prog 319 = false := by kernel_rfl
theorem ty_f319_0 : fieldT Tryd.prog 319 0 = some (0, 1, false) := by kernel_rfl
theorem ty_f319_1 : fieldT Tryd.prog 319 1 = some (1, 1, false) := by kernel_rfl
theorem ty_pl319 : placeT Tryd.prog 319 = some (fun i => #[(0, 1), (1, 1)][i]?) := by kernel_rfl
theorem ty_z319 : zeroT Tryd.prog 319 = some [.int .i64 (0), .slice none 0 0] := by kernel_rfl
theorem ty_ag320 : aggT Tryd.prog 320 = some false := by kernel_rfl
theorem ty_sz320 : szT Tryd.prog 320 = some 1 := by kernel_rfl
theorem ty_int320 : intT Tryd.prog 320 = none := by kernel_rfl
theorem ty_ifc320 : ifaceT Tryd.prog 320 = false := by kernel_rfl
theorem ty_bool320 : boolT Tryd.prog 320 = false := by kernel_rfl
theorem ty_z320 : zeroT Tryd.prog 320 = some [.nilFunc] := by kernel_rfl
theorem ty_ag321 : aggT Tryd.prog 321 = some true := by kernel_rfl
theorem ty_sz321 : szT Tryd.prog 321 = some 1 := by kernel_rfl
theorem ty_int321 : intT Tryd.prog 321 = none := by kernel_rfl
theorem ty_ifc321 : ifaceT Tryd.prog 321 = false := by kernel_rfl
theorem ty_bool321 : boolT Tryd.prog 321 = false := by kernel_rfl
theorem ty_f321_0 : fieldT Tryd.prog 321 0 = some (0, 1, false) := by kernel_rfl
theorem ty_pl321 : placeT Tryd.prog 321 = some (fun i => #[(0, 1)][i]?) := by kernel_rfl
theorem ty_z321 : zeroT Tryd.prog 321 = some [.nilFunc] := by kernel_rfl
theorem ty_ag322 : aggT Tryd.prog 322 = some true := by kernel_rfl
theorem ty_sz322 : szT Tryd.prog 322 = some 1 := by kernel_rfl
theorem ty_int322 : intT Tryd.prog 322 = none := by kernel_rfl
theorem ty_ifc322 : ifaceT Tryd.prog 322 = false := by kernel_rfl
theorem ty_bool322 : boolT Tryd.prog 322 = false := by kernel_rfl
theorem ty_f322_0 : fieldT Tryd.prog 322 0 = some (0, 1, false) := by kernel_rfl
theorem ty_pl322 : placeT Tryd.prog 322 = some (fun i => #[(0, 1)][i]?) := by kernel_rfl
theorem ty_z322 : zeroT Tryd.prog 322 = some [.nilFunc] := by kernel_rfl
theorem ty_ag323 : aggT Tryd.prog 323 = some false := by kernel_rfl
theorem ty_sz323 : szT Tryd.prog 323 = some 1 := by kernel_rfl
theorem ty_int323 : intT Tryd.prog 323 = none := by kernel_rfl
theorem ty_ifc323 : ifaceT Tryd.prog 323 = false := by kernel_rfl
theorem ty_m323_0 : methA Tryd.prog 323 "plugboard/bulks.end" = some 190 := by kernel_rfl
theorem ty_k323_0 : nilOk Tryd.prog 323 "plugboard/bulks.end" = true := by kernel_rfl
theorem ty_m323_1 : methA Tryd.prog 323 "plugboard/bulks.idle" = some 182 := by kernel_rfl
theorem ty_k323_1 : nilOk Tryd.prog 323 "plugboard/bulks.idle" = true := by kernel_rfl
theorem ty_bool323 : boolT Tryd.prog 323 = false := by kernel_rfl
theorem ty_z323 : zeroT Tryd.prog 323 = some [.pointer none] := by kernel_rfl
theorem ty_ag324 : aggT Tryd.prog 324 = some false := by kernel_rfl
theorem ty_sz324 : szT Tryd.prog 324 = some 1 := by kernel_rfl
theorem ty_int324 : intT Tryd.prog 324 = none := by kernel_rfl
theorem ty_ifc324 : ifaceT Tryd.prog 324 = false := by kernel_rfl
theorem ty_bool324 : boolT Tryd.prog 324 = false := by kernel_rfl
theorem ty_z324 : zeroT Tryd.prog 324 = some [.nilFunc] := by kernel_rfl
theorem ty_ag325 : aggT Tryd.prog 325 = some true := by kernel_rfl
theorem ty_sz325 : szT Tryd.prog 325 = some 8 := by kernel_rfl
theorem ty_int325 : intT Tryd.prog 325 = none := by kernel_rfl
theorem ty_ifc325 : ifaceT Tryd.prog 325 = false := by kernel_rfl
theorem ty_bool325 : boolT Tryd.prog 325 = false := by kernel_rfl
theorem ty_arr325 : arrT Tryd.prog 325 = some (8, 5, 1, false) := by kernel_rfl
theorem ty_pl325 : placeT Tryd.prog 325 = some (fun i => some (i * 1, 1)) := by kernel_rfl
theorem ty_z325 : zeroT Tryd.prog 325 = some [.int .u8 (0), .int .u8 (0), .int .u8 (0), .int .u8 (0), .int .u8 (0), .int .u8 (0), .int .u8 (0), .int .u8 (0)] := by kernel_rfl
theorem ty_ag326 : aggT Tryd.prog 326 = some true := by kernel_rfl
theorem ty_sz326 : szT Tryd.prog 326 = some 3 := by kernel_rfl
theorem ty_int326 : intT Tryd.prog 326 = none := by kernel_rfl
theorem ty_ifc326 : ifaceT Tryd.prog 326 = false := by kernel_rfl
theorem ty_bool326 : boolT Tryd.prog 326 = false := by kernel_rfl
theorem ty_arr326 : arrT Tryd.prog 326 = some (3, 52, 1, false) := by kernel_rfl
theorem ty_pl326 : placeT Tryd.prog 326 = some (fun i => some (i * 1, 1)) := by kernel_rfl
theorem ty_z326 : zeroT Tryd.prog 326 = some [.int .u16 (0), .int .u16 (0), .int .u16 (0)] := by kernel_rfl
theorem ty_ag327 : aggT Tryd.prog 327 = some false := by kernel_rfl
theorem ty_sz327 : szT Tryd.prog 327 = some 1 := by kernel_rfl
theorem ty_int327 : intT Tryd.prog 327 = none := by kernel_rfl
theorem ty_ifc327 : ifaceT Tryd.prog 327 = false := by kernel_rfl
theorem ty_bool327 : boolT Tryd.prog 327 = false := by kernel_rfl
theorem ty_z327 : zeroT Tryd.prog 327 = some [.nilFunc] := by kernel_rfl
theorem ty_ag328 : aggT Tryd.prog 328 = some true := by kernel_rfl
theorem ty_sz328 : szT Tryd.prog 328 = some 24 := by kernel_rfl
theorem ty_int328 : intT Tryd.prog 328 = none := by kernel_rfl
theorem ty_ifc328 : ifaceT Tryd.prog 328 = false := by kernel_rfl
theorem ty_bool328 : boolT Tryd.prog 328 = false := by kernel_rfl
theorem ty_arr328 : arrT Tryd.prog 328 = some (24, 5, 1, false) := by kernel_rfl
theorem ty_pl328 : placeT Tryd.prog 328 = some (fun i => some (i * 1, 1)) := by kernel_rfl
theorem ty_z328 : zeroT Tryd.prog 328 = some [.int .u8 (0), .int .u8 (0), .int .u8 (0), .int .u8 (0), .int .u8 (0), .int .u8 (0), .int .u8 (0), .int .u8 (0), .int .u8 (0), .int .u8 (0), .int .u8 (0), .int .u8 (0), .int .u8 (0), .int .u8 (0), .int .u8 (0), .int .u8 (0), .int .u8 (0), .int .u8 (0), .int .u8 (0), .int .u8 (0), .int .u8 (0), .int .u8 (0), .int .u8 (0), .int .u8 (0)] := by kernel_rfl
theorem ty_ag329 : aggT Tryd.prog 329 = some false := by kernel_rfl
theorem ty_sz329 : szT Tryd.prog 329 = some 1 := by kernel_rfl
theorem ty_int329 : intT Tryd.prog 329 = some .u64 := by kernel_rfl
theorem ty_ifc329 : ifaceT Tryd.prog 329 = false := by kernel_rfl
theorem ty_bool329 : boolT Tryd.prog 329 = false := by kernel_rfl
theorem ty_z329 : zeroT Tryd.prog 329 = some [.int .u64 (0)] := by kernel_rfl
theorem ty_ag330 : aggT Tryd.prog 330 = some false := by kernel_rfl
theorem ty_sz330 : szT Tryd.prog 330 = some 1 := by kernel_rfl
theorem ty_int330 : intT Tryd.prog 330 = none := by kernel_rfl
theorem ty_ifc330 : ifaceT Tryd.prog 330 = false := by kernel_rfl
theorem ty_bool330 : boolT Tryd.prog 330 = false := by kernel_rfl
theorem ty_z330 : zeroT Tryd.prog 330 = some [.nilFunc] := by kernel_rfl
theorem ty_ag331 : aggT Tryd.prog 331 = some false := by kernel_rfl
theorem ty_sz331 : szT Tryd.prog 331 = some 1 := by kernel_rfl
theorem ty_int331 : intT Tryd.prog 331 = none := by kernel_rfl
theorem ty_ifc331 : ifaceT Tryd.prog 331 = false := by kernel_rfl
theorem ty_bool331 : boolT Tryd.prog 331 = false := by kernel_rfl
theorem ty_z331 : zeroT Tryd.prog 331 = some [.nilFunc] := by kernel_rfl
theorem ty_ag333 : aggT Tryd.prog 333 = some false := by kernel_rfl
theorem ty_sz333 : szT Tryd.prog 333 = some 1 := by kernel_rfl
theorem ty_int333 : intT Tryd.prog 333 = none := by kernel_rfl
theorem ty_ifc333 : ifaceT Tryd.prog 333 = false := by kernel_rfl
theorem ty_bool333 : boolT Tryd.prog 333 = false := by kernel_rfl
theorem ty_z333 : zeroT Tryd.prog 333 = some [.nilFunc] := by kernel_rfl
theorem ty_ag334 : aggT Tryd.prog 334 = some false := by kernel_rfl
theorem ty_sz334 : szT Tryd.prog 334 = some 1 := by kernel_rfl
theorem ty_int334 : intT Tryd.prog 334 = none := by kernel_rfl
theorem ty_ifc334 : ifaceT Tryd.prog 334 = false := by kernel_rfl
theorem ty_bool334 : boolT Tryd.prog 334 = false := by kernel_rfl
theorem ty_z334 : zeroT Tryd.prog 334 = some [.nilFunc] := by kernel_rfl
theorem ty_ag335 : aggT Tryd.prog 335 = some true := by kernel_rfl
theorem ty_sz335 : szT Tryd.prog 335 = some 20 := by kernel_rfl
theorem ty_int335 : intT Tryd.prog 335 = none := by kernel_rfl
theorem ty_ifc335 : ifaceT Tryd.prog 335 = false := by kernel_rfl
theorem ty_bool335 : boolT Tryd.prog 335 = false := by kernel_rfl
theorem ty_arr335 : arrT Tryd.prog 335 = some (20, 329, 1, false) := by kernel_rfl
theorem ty_pl335 : placeT Tryd.prog 335 = some (fun i => some (i * 1, 1)) := by kernel_rfl
theorem ty_z335 : zeroT Tryd.prog 335 = some [.int .u64 (0), .int .u64 (0), .int .u64 (0), .int .u64 (0), .int .u64 (0), .int .u64 (0), .int .u64 (0), .int .u64 (0), .int .u64 (0), .int .u64 (0), .int .u64 (0), .int .u64 (0), .int .u64 (0), .int .u64 (0), .int .u64 (0), .int .u64 (0), .int .u64 (0), .int .u64 (0), .int .u64 (0), .int .u64 (0)] := by kernel_rfl
theorem ty_ag336 : aggT Tryd.prog 336 = some true := by kernel_rfl
theorem ty_sz336 : szT Tryd.prog 336 = some 65 := by kernel_rfl
theorem ty_int336 : intT Tryd.prog 336 = none := by kernel_rfl
theorem ty_ifc336 : ifaceT Tryd.prog 336 = false := by kernel_rfl
theorem ty_bool336 : boolT Tryd.prog 336 = false := by kernel_rfl
theorem ty_arr336 : arrT Tryd.prog 336 = some (65, 5, 1, false) := by kernel_rfl
theorem ty_pl336 : placeT Tryd.prog 336 = some (fun i => some (i * 1, 1)) := by kernel_rfl
theorem ty_ag337 : aggT Tryd.prog 337 = some false := by kernel_rfl
theorem ty_sz337 : szT Tryd.prog 337 = some 1 := by kernel_rfl
theorem ty_int337 : intT Tryd.prog 337 = none := by kernel_rfl
theorem ty_ifc337 : ifaceT Tryd.prog 337 = false := by kernel_rfl
theorem ty_bool337 : boolT Tryd.prog 337 = false := by kernel_rfl
theorem ty_z337 : zeroT Tryd.prog 337 = some [.nilFunc] := by kernel_rfl
theorem ty_ag338 : aggT Tryd.prog 338 = some false := by kernel_rfl
theorem ty_sz338 : szT Tryd.prog 338 = some 1 := by kernel_rfl
theorem ty_int338 : intT Tryd.prog 338 = none := by kernel_rfl
theorem ty_ifc338 : ifaceT Tryd.prog 338 = false := by kernel_rfl
theorem ty_bool338 : boolT Tryd.prog 338 = false := by kernel_rfl
theorem ty_z338 : zeroT Tryd.prog 338 = some [.nilFunc] := by kernel_rfl
theorem ty_ag339 : aggT Tryd.prog 339 = some true := by kernel_rfl
theorem ty_sz339 : szT Tryd.prog 339 = some 32 := by kernel_rfl
theorem ty_int339 : intT Tryd.prog 339 = none := by kernel_rfl
theorem ty_ifc339 : ifaceT Tryd.prog 339 = false := by kernel_rfl
theorem ty_bool339 : boolT Tryd.prog 339 = false := by kernel_rfl
theorem ty_arr339 : arrT Tryd.prog 339 = some (32, 5, 1, false) := by kernel_rfl
theorem ty_pl339 : placeT Tryd.prog 339 = some (fun i => some (i * 1, 1)) := by kernel_rfl
theorem ty_z339 : zeroT Tryd.prog 339 = some [.int .u8 (0), .int .u8 (0), .int .u8 (0), .int .u8 (0), .int .u8 (0), .int .u8 (0), .int .u8 (0), .int .u8 (0), .int .u8 (0), .int .u8 (0), .int .u8 (0), .int .u8 (0), .int .u8 (0), .int .u8 (0), .int .u8 (0), .int .u8 (0), .int .u8 (0), .int .u8 (0), .int .u8 (0), .int .u8 (0), .int .u8 (0), .int .u8 (0), .int .u8 (0), .int .u8 (0), .int .u8 (0), .int .u8 (0), .int .u8 (0), .int .u8 (0), .int .u8 (0), .int .u8 (0), .int .u8 (0), .int .u8 (0)] := by kernel_rfl
theorem ty_ag340 : aggT Tryd.prog 340 = some true := by kernel_rfl
theorem ty_sz340 : szT Tryd.prog 340 = some 64 := by kernel_rfl
theorem ty_int340 : intT Tryd.prog 340 = none := by kernel_rfl
theorem ty_ifc340 : ifaceT Tryd.prog 340 = false := by kernel_rfl
theorem ty_bool340 : boolT Tryd.prog 340 = false := by kernel_rfl
theorem ty_arr340 : arrT Tryd.prog 340 = some (64, 5, 1, false) := by kernel_rfl
theorem ty_pl340 : placeT Tryd.prog 340 = some (fun i => some (i * 1, 1)) := by kernel_rfl
theorem ty_z340 : zeroT Tryd.prog 340 = some [.int .u8 (0), .int .u8 (0), .int .u8 (0), .int .u8 (0), .int .u8 (0), .int .u8 (0), .int .u8 (0), .int .u8 (0), .int .u8 (0), .int .u8 (0), .int .u8 (0), .int .u8 (0), .int .u8 (0), .int .u8 (0), .int .u8 (0), .int .u8 (0), .int .u8 (0), .int .u8 (0), .int .u8 (0), .int .u8 (0), .int .u8 (0), .int .u8 (0), .int .u8 (0), .int .u8 (0), .int .u8 (0), .int .u8 (0), .int .u8 (0), .int .u8 (0), .int .u8 (0), .int .u8 (0), .int .u8 (0), .int .u8 (0), .int .u8 (0), .int .u8 (0), .int .u8 (0), .int .u8 (0), .int .u8 (0), .int .u8 (0), .int .u8 (0), .int .u8 (0), .int .u8 (0), .int .u8 (0), .int .u8 (0), .int .u8 (0), .int .u8 (0), .int .u8 (0), .int .u8 (0), .int .u8 (0), .int .u8 (0), .int .u8 (0), .int .u8 (0), .int .u8 (0), .int .u8 (0), .int .u8 (0), .int .u8 (0), .int .u8 (0), .int .u8 (0), .int .u8 (0), .int .u8 (0), .int .u8 (0), .int .u8 (0), .int .u8 (0), .int .u8 (0), .int .u8 (0)] := by kernel_rfl
theorem ty_ag341 : aggT Tryd.prog 341 = some false := by kernel_rfl
theorem ty_sz341 : szT Tryd.prog 341 = some 1 := by kernel_rfl
theorem ty_int341 : intT Tryd.prog 341 = none := by kernel_rfl
theorem ty_ifc341 : ifaceT Tryd.prog 341 = false := by kernel_rfl
theorem ty_bool341 : boolT Tryd.prog 341 = false := by kernel_rfl
theorem ty_z341 : zeroT Tryd.prog 341 = some [.nilFunc] := by kernel_rfl
theorem ty_ag342 : aggT Tryd.prog 342 = some true := by kernel_rfl
theorem ty_sz342 : szT Tryd.prog 342 = some 4 := by kernel_rfl
theorem ty_int342 : intT Tryd.prog 342 = none := by kernel_rfl
theorem ty_ifc342 : ifaceT Tryd.prog 342 = false := by kernel_rfl
theorem ty_bool342 : boolT Tryd.prog 342 = false := by kernel_rfl
theorem ty_f342_0 : fieldT Tryd.prog 342 0 = some (0, 1, false) := by kernel_rfl
theorem ty_f342_1 : fieldT Tryd.prog 342 1 = some (1, 1, false) := by kernel_rfl
theorem ty_f342_2 : fieldT Tryd.prog 342 2 = some (2, 1, false) := by kernel_rfl
theorem ty_f342_3 : fieldT Tryd.prog 342 3 = some (3, 1, false) := by kernel_rfl
theorem ty_pl342 : placeT Tryd.prog 342 = some (fun i => #[(0, 1), (1, 1), (2, 1), (3, 1)][i]?) := by kernel_rfl
theorem ty_z342 : zeroT Tryd.prog 342 = some [.pointer none, .pointer none, .pointer none, .string ⟨#[]⟩] := by kernel_rfl
theorem ty_ag343 : aggT Tryd.prog 343 = some true := by kernel_rfl
theorem ty_sz343 : szT Tryd.prog 343 = some 4 := by kernel_rfl
theorem ty_int343 : intT Tryd.prog 343 = none := by kernel_rfl
theorem ty_ifc343 : ifaceT Tryd.prog 343 = false := by kernel_rfl
theorem ty_bool343 : boolT Tryd.prog 343 = false := by kernel_rfl
theorem ty_f343_0 : fieldT Tryd.prog 343 0 = some (0, 1, false) := by kernel_rfl
theorem ty_f343_1 : fieldT Tryd.prog 343 1 = some (1, 1, false) := by kernel_rfl
theorem ty_f343_2 : fieldT Tryd.prog 343 2 = some (2, 1, false) := by kernel_rfl
theorem ty_f343_3 : fieldT Tryd.prog 343 3 = some (3, 1, false) := by kernel_rfl
theorem ty_pl343 : placeT Tryd.prog 343 = some (fun i => #[(0, 1), (1, 1), (2, 1), (3, 1)][i]?) := by kernel_rfl
theorem ty_z343 : zeroT Tryd.prog 343 = some [.pointer none, .pointer none, .pointer none, .string ⟨#[]⟩] := by kernel_rfl
theorem ty_ag344 : aggT Tryd.prog 344 = some true := by kernel_rfl
theorem ty_sz344 : szT Tryd.prog 344 = some 0 := by kernel_rfl
theorem ty_int344 : intT Tryd.prog 344 = none := by kernel_rfl
theorem ty_ifc344 : ifaceT Tryd.prog 344 = false := by kernel_rfl
theorem ty_bool344 : boolT Tryd.prog 344 = false := by kernel_rfl
theorem ty_arr344 : arrT Tryd.prog 344 = some (0, 16, 1, false) := by kernel_rfl
theorem ty_pl344 : placeT Tryd.prog 344 = some (fun i => some (i * 1, 1)) := by kernel_rfl
theorem ty_z344 : zeroT Tryd.prog 344 = some [] := by kernel_rfl
theorem ty_ag345 : aggT Tryd.prog 345 = some true := by kernel_rfl
theorem ty_sz345 : szT Tryd.prog 345 = some 0 := by kernel_rfl
theorem ty_int345 : intT Tryd.prog 345 = none := by kernel_rfl
theorem ty_ifc345 : ifaceT Tryd.prog 345 = false := by kernel_rfl
theorem ty_bool345 : boolT Tryd.prog 345 = false := by kernel_rfl
theorem ty_pl345 : placeT Tryd.prog 345 = some (fun i => #[(0, 0)][i]?) := by kernel_rfl
theorem ty_z345 : zeroT Tryd.prog 345 = some [] := by kernel_rfl
theorem ty_ag346 : aggT Tryd.prog 346 = some true := by kernel_rfl
theorem ty_sz346 : szT Tryd.prog 346 = some 0 := by kernel_rfl
theorem ty_int346 : intT Tryd.prog 346 = none := by kernel_rfl
theorem ty_ifc346 : ifaceT Tryd.prog 346 = false := by kernel_rfl
theorem ty_bool346 : boolT Tryd.prog 346 = false := by kernel_rfl
theorem ty_pl346 : placeT Tryd.prog 346 = some (fun i => #[(0, 0)][i]?) := by kernel_rfl
theorem ty_z346 : zeroT Tryd.prog 346 = some [] := by kernel_rfl
theorem ty_ag347 : aggT Tryd.prog 347 = some false := by kernel_rfl
theorem ty_sz347 : szT Tryd.prog 347 = some 1 := by kernel_rfl
theorem ty_int347 : intT Tryd.prog 347 = some .u8 := by kernel_rfl
theorem ty_ifc347 : ifaceT Tryd.prog 347 = false := by kernel_rfl
theorem ty_bool347 : boolT Tryd.prog 347 = false := by kernel_rfl
theorem ty_z347 : zeroT Tryd.prog 347 = some [.int .u8 (0)] := by kernel_rfl
theorem ty_ag348 : aggT Tryd.prog 348 = some false := by kernel_rfl
theorem ty_sz348 : szT Tryd.prog 348 = some 1 := by kernel_rfl
theorem ty_int348 : intT Tryd.prog 348 = some .u8 := by kernel_rfl
theorem ty_ifc348 : ifaceT Tryd.prog 348 = false := by kernel_rfl
theorem ty_m348_0 : methA Tryd.prog 348 "String" = some 226 := by kernel_rfl
theorem ty_k348_0 : nilOk Tryd.prog 348 "String" = true := by kernel_rfl
theorem ty_bool348 : boolT Tryd.prog 348 = false := by kernel_rfl
theorem ty_z348 : zeroT Tryd.prog 348 = some [.int .u8 (0)] := by kernel_rfl
theorem ty_ag349 : aggT Tryd.prog 349 = some false := by kernel_rfl
theorem ty_sz349 : szT Tryd.prog 349 = some 1 := by kernel_rfl
theorem ty_int349 : intT Tryd.prog 349 = none := by kernel_rfl
theorem ty_ifc349 : ifaceT Tryd.prog 349 = false := by kernel_rfl
theorem ty_bool349 : boolT Tryd.prog 349 = false := by kernel_rfl
theorem ty_z349 : zeroT Tryd.prog 349 = some [.nilFunc] := by kernel_rfl
theorem ty_ag350 : aggT Tryd.prog 350 = some false := by kernel_rfl
theorem ty_sz350 : szT Tryd.prog 350 = some 1 := by kernel_rfl
theorem ty_int350 : intT Tryd.prog 350 = none := by kernel_rfl
theorem ty_ifc350 : ifaceT Tryd.prog 350 = false := by kernel_rfl
theorem ty_bool350 : boolT Tryd.prog 350 = false := by kernel_rfl
theorem ty_z350 : zeroT Tryd.prog 350 = some [.pointer none] := by kernel_rfl
theorem ty_ag351 : aggT Tryd.prog 351 = some false := by kernel_rfl
theorem ty_sz351 : szT Tryd.prog 351 = some 1 := by kernel_rfl
theorem ty_int351 : intT Tryd.prog 351 = some .i32 := by kernel_rfl
theorem ty_ifc351 : ifaceT Tryd.prog 351 = false := by kernel_rfl
theorem ty_bool351 : boolT Tryd.prog 351 = false := by kernel_rfl
theorem ty_z351 : zeroT Tryd.prog 351 = some [.int .i32 (0)] := by kernel_rfl
theorem ty_ag352 : aggT Tryd.prog 352 = some false := by kernel_rfl
theorem ty_sz352 : szT Tryd.prog 352 = some 1 := by kernel_rfl
theorem ty_int352 : intT Tryd.prog 352 = some .i32 := by kernel_rfl
theorem ty_ifc352 : ifaceT Tryd.prog 352 = false := by kernel_rfl
theorem ty_bool352 : boolT Tryd.prog 352 = false := by kernel_rfl
theorem ty_z352 : zeroT Tryd.prog 352 = some [.int .i32 (0)] := by kernel_rfl
theorem ty_ag353 : aggT Tryd.prog 353 = some true := by kernel_rfl
theorem ty_sz353 : szT Tryd.prog 353 = some 11 := by kernel_rfl
theorem ty_int353 : intT Tryd.prog 353 = none := by kernel_rfl
theorem ty_ifc353 : ifaceT Tryd.prog 353 = false := by kernel_rfl
theorem ty_bool353 : boolT Tryd.prog 353 = false := by kernel_rfl
theorem ty_f353_0 : fieldT Tryd.prog 353 0 = some (0, 1, false) := by kernel_rfl
theorem ty_f353_1 : fieldT Tryd.prog 353 1 = some (1, 1, false) := by kernel_rfl
theorem ty_f353_2 : fieldT Tryd.prog 353 2 = some (2, 1, false) := by kernel_rfl
theorem ty_f353_3 : fieldT Tryd.prog 353 3 = some (3, 1, false) := by kernel_rfl
theorem ty_f353_4 : fieldT Tryd.prog 353 4 = some (4, 1, false) := by kernel_rfl
theorem ty_f353_5 : fieldT Tryd.prog 353 5 = some (5, 1, false) := by kernel_rfl
theorem ty_f353_6 : fieldT Tryd.prog 353 6 = some (6, 1, false) := by kernel_rfl
theorem ty_f353_7 : fieldT Tryd.prog 353 7 = some (7, 1, false) := by kernel_rfl
theorem ty_f353_8 : fieldT Tryd.prog 353 8 = some (8, 1, false) := by kernel_rfl
theorem ty_f353_9 : fieldT Tryd.prog 353 9 = some (9, 1, false) := by kernel_rfl
theorem ty_f353_10 : fieldT Tryd.prog 353 10 = some (10, 1, false) := by kernel_rfl
theorem ty_pl353 : placeT Tryd.prog 353 = some (fun i => #[(0, 1), (1, 1), (2, 1), (3, 1), (4, 1), (5, 1), (6, 1), (7, 1), (8, 1), (9, 1), (10, 1)][i]?) := by kernel_rfl
theorem ty_z353 : zeroT Tryd.prog 353 = some [.int .u64 (0), .int .u64 (0), .int .u32 (0), .int .u8 (0), .int .u8 (0), .int .u8 (0), .int .u8 (0), .nilFunc, .pointer none, .int .i32 (0), .int .i32 (0)] := by kernel_rfl
theorem ty_ag354 : aggT Tryd.prog 354 = some true := by kernel_rfl
theorem ty_sz354 : szT Tryd.prog 354 = some 11 := by kernel_rfl
theorem ty_int354 : intT Tryd.prog 354 = none := by kernel_rfl
theorem ty_ifc354 : ifaceT Tryd.prog 354 = false := by kernel_rfl
theorem ty_bool354 : boolT Tryd.prog 354 = false := by kernel_rfl
theorem ty_f354_0 : fieldT Tryd.prog 354 0 = some (0, 1, false) := by kernel_rfl
theorem ty_f354_1 : fieldT Tryd.prog 354 1 = some (1, 1, false) := by kernel_rfl
theorem ty_f354_2 : fieldT Tryd.prog 354 2 = some (2, 1, false) := by kernel_rfl
theorem ty_f354_3 : fieldT Tryd.prog 354 3 = some (3, 1, false) := by kernel_rfl
theorem ty_f354_4 : fieldT Tryd.prog 354 4 = some (4, 1, false) := by kernel_rfl
theorem ty_f354_5 : fieldT Tryd.prog 354 5 = some (5, 1, false) := by kernel_rfl
theorem ty_f354_6 : fieldT Tryd.prog 354 6 = some (6, 1, false) := by kernel_rfl
theorem ty_f354_7 : fieldT Tryd.prog 354 7 = some (7, 1, false) := by kernel_rfl
theorem ty_f354_8 : fieldT Tryd.prog 354 8 = some (8, 1, false) := by kernel_rfl
theorem ty_f354_9 : fieldT Tryd.prog 354 9 = some (9, 1, false) := by kernel_rfl
theorem ty_f354_10 : fieldT Tryd.prog 354 10 = some (10, 1, false) := by kernel_rfl
theorem ty_pl354 : placeT Tryd.prog 354 = some (fun i => #[(0, 1), (1, 1), (2, 1), (3, 1), (4, 1), (5, 1), (6, 1), (7, 1), (8, 1), (9, 1), (10, 1)][i]?) := by kernel_rfl
theorem ty_z354 : zeroT Tryd.prog 354 = some [.int .u64 (0), .int .u64 (0), .int .u32 (0), .int .u8 (0), .int .u8 (0), .int .u8 (0), .int .u8 (0), .nilFunc, .pointer none, .int .i32 (0), .int .i32 (0)] := by kernel_rfl
theorem ty_mixed : Tryd.prog.follows .mixedOrders = true := by kernel_rfl
theorem fok2 : fnOk Tryd.f2 = true := by kernel_rfl
theorem fok3 : fnOk Tryd.f3 = true := by kernel_rfl
theorem fok4 : fnOk Tryd.f4 = true := by kernel_rfl
theorem fok5 : fnOk Tryd.f5 = true := by kernel_rfl
theorem fok6 : fnOk Tryd.f6 = true := by kernel_rfl
theorem fok7 : fnOk Tryd.f7 = true := by kernel_rfl
theorem fok8 : fnOk Tryd.f8 = true := by kernel_rfl
theorem fok9 : fnOk Tryd.f9 = true := by kernel_rfl
theorem fok10 : fnOk Tryd.f10 = true := by kernel_rfl
theorem fok11 : fnOk Tryd.f11 = true := by kernel_rfl
theorem fok12 : fnOk Tryd.f12 = true := by kernel_rfl
theorem fok13 : fnOk Tryd.f13 = true := by kernel_rfl
theorem fok14 : fnOk Tryd.f14 = true := by kernel_rfl
theorem fok15 : fnOk Tryd.f15 = true := by kernel_rfl
theorem fok16 : fnOk Tryd.f16 = true := by kernel_rfl
theorem fok17 : fnOk Tryd.f17 = true := by kernel_rfl
theorem fok18 : fnOk Tryd.f18 = true := by kernel_rfl
theorem fok19 : fnOk Tryd.f19 = true := by kernel_rfl
theorem fok20 : fnOk Tryd.f20 = true := by kernel_rfl
theorem fok21 : fnOk Tryd.f21 = true := by kernel_rfl
theorem fok22 : fnOk Tryd.f22 = true := by kernel_rfl
theorem fok23 : fnOk Tryd.f23 = true := by kernel_rfl
theorem fok24 : fnOk Tryd.f24 = true := by kernel_rfl
theorem fok25 : fnOk Tryd.f25 = true := by kernel_rfl
theorem fok26 : fnOk Tryd.f26 = true := by kernel_rfl
theorem fok27 : fnOk Tryd.f27 = true := by kernel_rfl
theorem fok28 : fnOk Tryd.f28 = true := by kernel_rfl
theorem fok29 : fnOk Tryd.f29 = true := by kernel_rfl
theorem fok30 : fnOk Tryd.f30 = true := by kernel_rfl
theorem fok31 : fnOk Tryd.f31 = true := by kernel_rfl
theorem fok32 : fnOk Tryd.f32 = true := by kernel_rfl
theorem fok33 : fnOk Tryd.f33 = true := by kernel_rfl
theorem fok34 : fnOk Tryd.f34 = true := by kernel_rfl
theorem fok35 : fnOk Tryd.f35 = true := by kernel_rfl
theorem fok36 : fnOk Tryd.f36 = true := by kernel_rfl
theorem fok37 : fnOk Tryd.f37 = true := by kernel_rfl
theorem fok38 : fnOk Tryd.f38 = true := by kernel_rfl
theorem fok39 : fnOk Tryd.f39 = true := by kernel_rfl
theorem fok40 : fnOk Tryd.f40 = true := by kernel_rfl
theorem fok41 : fnOk Tryd.f41 = true := by kernel_rfl
theorem fok42 : fnOk Tryd.f42 = true := by kernel_rfl
theorem fok43 : fnOk Tryd.f43 = true := by kernel_rfl
theorem fok44 : fnOk Tryd.f44 = true := by kernel_rfl
theorem fok45 : fnOk Tryd.f45 = true := by kernel_rfl
theorem fok46 : fnOk Tryd.f46 = true := by kernel_rfl
theorem fok47 : fnOk Tryd.f47 = true := by kernel_rfl
theorem fok48 : fnOk Tryd.f48 = true := by kernel_rfl
theorem fok49 : fnOk Tryd.f49 = true := by kernel_rfl
theorem fok50 : fnOk Tryd.f50 = true := by kernel_rfl
theorem fok51 : fnOk Tryd.f51 = true := by kernel_rfl
theorem fok52 : fnOk Tryd.f52 = true := by kernel_rfl
theorem fok53 : fnOk Tryd.f53 = true := by kernel_rfl
theorem fok54 : fnOk Tryd.f54 = true := by kernel_rfl
theorem fok55 : fnOk Tryd.f55 = true := by kernel_rfl
theorem fok56 : fnOk Tryd.f56 = true := by kernel_rfl
theorem fok57 : fnOk Tryd.f57 = true := by kernel_rfl
theorem fok58 : fnOk Tryd.f58 = true := by kernel_rfl
theorem fok59 : fnOk Tryd.f59 = true := by kernel_rfl
theorem fok60 : fnOk Tryd.f60 = true := by kernel_rfl
theorem fok61 : fnOk Tryd.f61 = true := by kernel_rfl
theorem fok62 : fnOk Tryd.f62 = true := by kernel_rfl
theorem fok63 : fnOk Tryd.f63 = true := by kernel_rfl
theorem fok64 : fnOk Tryd.f64 = true := by kernel_rfl
theorem fok65 : fnOk Tryd.f65 = true := by kernel_rfl
theorem fok66 : fnOk Tryd.f66 = true := by kernel_rfl
theorem fok67 : fnOk Tryd.f67 = true := by kernel_rfl
theorem fok68 : fnOk Tryd.f68 = true := by kernel_rfl
theorem fok69 : fnOk Tryd.f69 = true := by kernel_rfl
theorem fok70 : fnOk Tryd.f70 = true := by kernel_rfl
theorem fok71 : fnOk Tryd.f71 = true := by kernel_rfl
theorem fok72 : fnOk Tryd.f72 = true := by kernel_rfl
theorem fok73 : fnOk Tryd.f73 = true := by kernel_rfl
theorem fok74 : fnOk Tryd.f74 = true := by kernel_rfl
theorem fok75 : fnOk Tryd.f75 = true := by kernel_rfl
theorem fok76 : fnOk Tryd.f76 = true := by kernel_rfl
theorem fok77 : fnOk Tryd.f77 = true := by kernel_rfl
theorem fok78 : fnOk Tryd.f78 = true := by kernel_rfl
theorem fok79 : fnOk Tryd.f79 = true := by kernel_rfl
theorem fok80 : fnOk Tryd.f80 = true := by kernel_rfl
theorem fok81 : fnOk Tryd.f81 = true := by kernel_rfl
theorem fok82 : fnOk Tryd.f82 = true := by kernel_rfl
theorem fok83 : fnOk Tryd.f83 = true := by kernel_rfl
theorem fok84 : fnOk Tryd.f84 = true := by kernel_rfl
theorem fok85 : fnOk Tryd.f85 = true := by kernel_rfl
theorem fok86 : fnOk Tryd.f86 = true := by kernel_rfl
theorem fok87 : fnOk Tryd.f87 = true := by kernel_rfl
theorem fok88 : fnOk Tryd.f88 = true := by kernel_rfl
theorem fok89 : fnOk Tryd.f89 = true := by kernel_rfl
theorem fok90 : fnOk Tryd.f90 = true := by kernel_rfl
theorem fok91 : fnOk Tryd.f91 = true := by kernel_rfl
theorem fok92 : fnOk Tryd.f92 = true := by kernel_rfl
theorem fok93 : fnOk Tryd.f93 = true := by kernel_rfl
theorem fok94 : fnOk Tryd.f94 = true := by kernel_rfl
theorem fok95 : fnOk Tryd.f95 = true := by kernel_rfl
theorem fok96 : fnOk Tryd.f96 = true := by kernel_rfl
theorem fok97 : fnOk Tryd.f97 = true := by kernel_rfl
theorem fok98 : fnOk Tryd.f98 = true := by kernel_rfl
theorem fok99 : fnOk Tryd.f99 = true := by kernel_rfl
theorem fok100 : fnOk Tryd.f100 = true := by kernel_rfl
theorem fok101 : fnOk Tryd.f101 = true := by kernel_rfl
theorem fok102 : fnOk Tryd.f102 = true := by kernel_rfl
theorem fok103 : fnOk Tryd.f103 = true := by kernel_rfl
theorem fok104 : fnOk Tryd.f104 = true := by kernel_rfl
theorem fok105 : fnOk Tryd.f105 = true := by kernel_rfl
theorem fok106 : fnOk Tryd.f106 = true := by kernel_rfl
theorem fok107 : fnOk Tryd.f107 = true := by kernel_rfl
theorem fok108 : fnOk Tryd.f108 = true := by kernel_rfl
theorem fok109 : fnOk Tryd.f109 = true := by kernel_rfl
theorem fok110 : fnOk Tryd.f110 = true := by kernel_rfl
theorem fok111 : fnOk Tryd.f111 = true := by kernel_rfl
theorem fok112 : fnOk Tryd.f112 = true := by kernel_rfl
theorem fok113 : fnOk Tryd.f113 = true := by kernel_rfl
theorem fok114 : fnOk Tryd.f114 = true := by kernel_rfl
theorem fok115 : fnOk Tryd.f115 = true := by kernel_rfl
theorem fok116 : fnOk Tryd.f116 = true := by kernel_rfl
theorem fok117 : fnOk Tryd.f117 = true := by kernel_rfl
theorem fok118 : fnOk Tryd.f118 = true := by kernel_rfl
theorem fok119 : fnOk Tryd.f119 = true := by kernel_rfl
theorem fok120 : fnOk Tryd.f120 = true := by kernel_rfl
theorem fok121 : fnOk Tryd.f121 = true := by kernel_rfl
theorem fok122 : fnOk Tryd.f122 = true := by kernel_rfl
theorem fok123 : fnOk Tryd.f123 = true := by kernel_rfl
theorem fok124 : fnOk Tryd.f124 = true := by kernel_rfl
theorem fok125 : fnOk Tryd.f125 = true := by kernel_rfl
theorem fok126 : fnOk Tryd.f126 = true := by kernel_rfl
theorem fok127 : fnOk Tryd.f127 = true := by kernel_rfl
theorem fok128 : fnOk Tryd.f128 = true := by kernel_rfl
theorem fok129 : fnOk Tryd.f129 = true := by kernel_rfl
theorem fok130 : fnOk Tryd.f130 = true := by kernel_rfl
theorem fok131 : fnOk Tryd.f131 = true := by kernel_rfl
theorem fok132 : fnOk Tryd.f132 = true := by kernel_rfl
theorem fok133 : fnOk Tryd.f133 = true := by kernel_rfl
theorem fok134 : fnOk Tryd.f134 = true := by kernel_rfl
theorem fok135 : fnOk Tryd.f135 = true := by kernel_rfl
theorem fok136 : fnOk Tryd.f136 = true := by kernel_rfl
theorem fok137 : fnOk Tryd.f137 = true := by kernel_rfl
theorem fok138 : fnOk Tryd.f138 = true := by kernel_rfl
theorem fok139 : fnOk Tryd.f139 = true := by kernel_rfl
theorem fok140 : fnOk Tryd.f140 = true := by kernel_rfl
theorem fok141 : fnOk Tryd.f141 = true := by kernel_rfl
theorem fok142 : fnOk Tryd.f142 = true := by kernel_rfl
theorem fok143 : fnOk Tryd.f143 = true := by kernel_rfl
theorem fok144 : fnOk Tryd.f144 = true := by kernel_rfl
theorem fok145 : fnOk Tryd.f145 = true := by kernel_rfl
theorem fok146 : fnOk Tryd.f146 = true := by kernel_rfl
theorem fok147 : fnOk Tryd.f147 = true := by kernel_rfl
theorem fok148 : fnOk Tryd.f148 = true := by kernel_rfl
theorem fok149 : fnOk Tryd.f149 = true := by kernel_rfl
theorem fok150 : fnOk Tryd.f150 = true := by kernel_rfl
theorem fok151 : fnOk Tryd.f151 = true := by kernel_rfl
theorem fok152 : fnOk Tryd.f152 = true := by kernel_rfl
theorem fok153 : fnOk Tryd.f153 = true := by kernel_rfl
theorem fok154 : fnOk Tryd.f154 = true := by kernel_rfl
theorem fok155 : fnOk Tryd.f155 = true := by kernel_rfl
theorem fok156 : fnOk Tryd.f156 = true := by kernel_rfl
theorem fok157 : fnOk Tryd.f157 = true := by kernel_rfl
theorem fok158 : fnOk Tryd.f158 = true := by kernel_rfl
theorem fok159 : fnOk Tryd.f159 = true := by kernel_rfl
theorem fok160 : fnOk Tryd.f160 = true := by kernel_rfl
theorem fok161 : fnOk Tryd.f161 = true := by kernel_rfl
theorem fok162 : fnOk Tryd.f162 = true := by kernel_rfl
theorem fok163 : fnOk Tryd.f163 = true := by kernel_rfl
theorem fok164 : fnOk Tryd.f164 = true := by kernel_rfl
theorem fok165 : fnOk Tryd.f165 = true := by kernel_rfl
theorem fok166 : fnOk Tryd.f166 = true := by kernel_rfl
theorem fok167 : fnOk Tryd.f167 = true := by kernel_rfl
theorem fok168 : fnOk Tryd.f168 = true := by kernel_rfl
theorem fok169 : fnOk Tryd.f169 = true := by kernel_rfl
theorem fok170 : fnOk Tryd.f170 = true := by kernel_rfl
theorem fok171 : fnOk Tryd.f171 = true := by kernel_rfl
theorem fok172 : fnOk Tryd.f172 = true := by kernel_rfl
theorem fok173 : fnOk Tryd.f173 = true := by kernel_rfl
theorem fok174 : fnOk Tryd.f174 = true := by kernel_rfl
theorem fok175 : fnOk Tryd.f175 = true := by kernel_rfl
theorem fok176 : fnOk Tryd.f176 = true := by kernel_rfl
theorem fok177 : fnOk Tryd.f177 = true := by kernel_rfl
theorem fok178 : fnOk Tryd.f178 = true := by kernel_rfl
theorem fok179 : fnOk Tryd.f179 = true := by kernel_rfl
theorem fok180 : fnOk Tryd.f180 = true := by kernel_rfl
theorem fok181 : fnOk Tryd.f181 = true := by kernel_rfl
theorem fok182 : fnOk Tryd.f182 = true := by kernel_rfl
theorem fok183 : fnOk Tryd.f183 = true := by kernel_rfl
theorem fok184 : fnOk Tryd.f184 = true := by kernel_rfl
theorem fok185 : fnOk Tryd.f185 = true := by kernel_rfl
theorem fok186 : fnOk Tryd.f186 = true := by kernel_rfl
theorem fok187 : fnOk Tryd.f187 = true := by kernel_rfl
theorem fok188 : fnOk Tryd.f188 = true := by kernel_rfl
theorem fok189 : fnOk Tryd.f189 = true := by kernel_rfl
theorem fok190 : fnOk Tryd.f190 = true := by kernel_rfl
theorem fok191 : fnOk Tryd.f191 = true := by kernel_rfl
theorem fok192 : fnOk Tryd.f192 = true := by kernel_rfl
theorem fok193 : fnOk Tryd.f193 = true := by kernel_rfl
theorem fok194 : fnOk Tryd.f194 = true := by kernel_rfl
theorem fok195 : fnOk Tryd.f195 = true := by kernel_rfl
theorem fok196 : fnOk Tryd.f196 = true := by kernel_rfl
theorem fok197 : fnOk Tryd.f197 = true := by kernel_rfl
theorem fok198 : fnOk Tryd.f198 = true := by kernel_rfl
theorem fok199 : fnOk Tryd.f199 = true := by kernel_rfl
theorem fok200 : fnOk Tryd.f200 = true := by kernel_rfl
theorem fok201 : fnOk Tryd.f201 = true := by kernel_rfl
theorem fok202 : fnOk Tryd.f202 = true := by kernel_rfl
theorem fok203 : fnOk Tryd.f203 = true := by kernel_rfl
theorem fok204 : fnOk Tryd.f204 = true := by kernel_rfl
theorem fok205 : fnOk Tryd.f205 = true := by kernel_rfl
theorem fok206 : fnOk Tryd.f206 = true := by kernel_rfl
theorem fok207 : fnOk Tryd.f207 = true := by kernel_rfl
theorem fok224 : fnOk Tryd.f224 = true := by kernel_rfl
theorem fok225 : fnOk Tryd.f225 = true := by kernel_rfl
theorem fok233 : fnOk Tryd.f233 = true := by kernel_rfl

attribute [push_cast] ty_ag1 ty_sz1 ty_int1 ty_ifc1 ty_bool1 ty_z1 Tryd.underlying1 ty_ag2 ty_sz2 ty_int2 ty_ifc2 ty_bool2 ty_z2 Tryd.underlying2 ty_ag3 ty_sz3 ty_int3 ty_ifc3 ty_bool3 ty_z3 Tryd.underlying3 ty_ag4 ty_sz4 ty_int4 ty_ifc4 ty_bool4 ty_z4 Tryd.underlying4 ty_ag5 ty_sz5 ty_int5 ty_ifc5 ty_bool5 ty_z5 Tryd.underlying5 ty_ag6 ty_sz6 ty_int6 ty_ifc6 ty_bool6 ty_z6 Tryd.underlying6 ty_ag7 ty_sz7 ty_int7 ty_eq7 ty_ifc7 ty_bool7 ty_f7_0 ty_f7_1 ty_f7_2 ty_f7_3 ty_pl7 ty_z7 Tryd.underlying7 ty_ag8 ty_sz8 ty_int8 ty_eq8 ty_ifc8 ty_m8_0 ty_k8_0 ty_m8_1 ty_k8_1 ty_bool8 ty_f8_0 ty_f8_1 ty_f8_2 ty_f8_3 ty_pl8 ty_z8 Tryd.underlying8 ty_ag9 ty_sz9 ty_int9 ty_ifc9 ty_bool9 ty_z9 Tryd.underlying9 ty_ag10 ty_sz10 ty_int10 ty_ifc10 ty_m10_0 ty_k10_0 ty_m10_1 ty_k10_1 ty_bool10 ty_z10 Tryd.underlying10 ty_ag11 ty_sz11 ty_int11 ty_ifc11 ty_m11_0 ty_k11_0 ty_m11_1 ty_k11_1 ty_bool11 ty_z11 Tryd.underlying11 ty_ag12 ty_sz12 ty_int12 ty_ifc12 ty_bool12 ty_z12 Tryd.underlying12 ty_ag13 ty_sz13 ty_int13 ty_ifc13 ty_bool13 ty_f13_0 ty_f13_1 ty_pl13 ty_z13 Tryd.underlying13 ty_ag14 ty_sz14 ty_int14 ty_ifc14 ty_m14_0 ty_k14_0 ty_m14_1 ty_k14_1 ty_bool14 ty_f14_0 ty_f14_1 ty_pl14 ty_z14 Tryd.underlying14 ty_ag15 ty_sz15 ty_int15 ty_ifc15 ty_m15_0 ty_k15_0 ty_m15_1 ty_k15_1 ty_bool15 ty_z15 Tryd.underlying15 ty_ag16 ty_sz16 ty_int16 ty_ifc16 ty_m16_0 ty_k16_0 ty_m16_1 ty_k16_1 ty_bool16 ty_z16 Tryd.underlying16 ty_ag17 ty_sz17 ty_int17 ty_ifc17 ty_m17_0 ty_k17_0 ty_bool17 ty_z17 Tryd.underlying17 ty_ag18 ty_sz18 ty_int18 ty_ifc18 ty_bool18 ty_f18_0 ty_pl18 ty_z18 Tryd.underlying18 ty_ag19 ty_sz19 ty_int19 ty_ifc19 ty_m19_0 ty_k19_0 ty_m19_1 ty_k19_1 ty_bool19 ty_f19_0 ty_pl19 ty_z19 Tryd.underlying19 ty_ag20 ty_sz20 ty_int20 ty_ifc20 ty_bool20 ty_z20 ty_ag21 ty_sz21 ty_int21 ty_ifc21 ty_bool21 ty_z21 Tryd.underlying21 ty_ag22 ty_sz22 ty_int22 ty_ifc22 ty_bool22 ty_z22 Tryd.underlying22 ty_ag23 ty_sz23 ty_int23 ty_eq23 ty_ifc23 ty_bool23 ty_f23_0 ty_f23_1 ty_f23_2 ty_f23_3 ty_pl23 ty_z23 Tryd.underlying23 ty_ag24 ty_sz24 ty_int24 ty_eq24 ty_ifc24 ty_bool24 ty_f24_0 ty_f24_1 ty_f24_2 ty_f24_3 ty_pl24 ty_z24 Tryd.underlying24 ty_ag25 ty_sz25 ty_int25 ty_ifc25 ty_m25_0 ty_k25_0 ty_m25_1 ty_k25_1 ty_m25_2 ty_k25_2 ty_m25_3 ty_k25_3 ty_m25_4 ty_k25_4 ty_m25_5 ty_k25_5 ty_m25_6 ty_k25_6 ty_m25_7 ty_k25_7 ty_m25_8 ty_k25_8 ty_m25_9 ty_k25_9 ty_m25_10 ty_k25_10 ty_m25_11 ty_k25_11 ty_m25_12 ty_k25_12 ty_bool25 ty_z25 Tryd.underlying25 ty_ag26 ty_sz26 ty_int26 ty_ifc26 ty_bool26 ty_z26 Tryd.underlying26 ty_ag28 ty_sz28 ty_int28 ty_ifc28 ty_bool28 ty_z28 Tryd.underlying28 ty_ag29 ty_sz29 ty_int29 ty_ifc29 ty_bool29 ty_z29 Tryd.underlying29 ty_ag30 ty_sz30 ty_int30 ty_ifc30 ty_bool30 ty_z30 Tryd.underlying30 ty_ag31 ty_sz31 ty_int31 ty_ifc31 ty_bool31 ty_z31 Tryd.underlying31 ty_ag32 ty_sz32 ty_int32 ty_ifc32 ty_bool32 ty_elem32 ty_app32 ty_z32 Tryd.underlying32 ty_ag33 ty_sz33 ty_int33 ty_ifc33 ty_bool33 ty_z33 Tryd.underlying33 ty_ag34 ty_sz34 ty_int34 ty_ifc34 ty_m34_0 ty_k34_0 ty_m34_1 ty_k34_1 ty_m34_2 ty_k34_2 ty_m34_3 ty_k34_3 ty_m34_4 ty_k34_4 ty_m34_5 ty_k34_5 ty_m34_6 ty_k34_6 ty_bool34 ty_z34 Tryd.underlying34 ty_ag35 ty_sz35 ty_int35 ty_ifc35 ty_bool35 ty_f35_0 ty_pl35 ty_z35 Tryd.underlying35 ty_ag36 ty_sz36 ty_int36 ty_ifc36 ty_bool36 ty_f36_0 ty_pl36 ty_z36 Tryd.underlying36 ty_ag37 ty_sz37 ty_int37 ty_ifc37 ty_bool37 ty_f37_0 ty_f37_1 ty_pl37 ty_z37 Tryd.underlying37 ty_ag38 ty_sz38 ty_int38 ty_ifc38 ty_bool38 ty_f38_0 ty_f38_1 ty_pl38 ty_z38 Tryd.underlying38 ty_ag39 ty_sz39 ty_int39 ty_ifc39 ty_bool39 ty_f39_0 ty_f39_1 ty_f39_2 ty_f39_3 ty_f39_4 ty_pl39 ty_z39 Tryd.underlying39 ty_ag40 ty_sz40 ty_int40 ty_ifc40 ty_bool40 ty_f40_0 ty_f40_1 ty_f40_2 ty_f40_3 ty_f40_4 ty_pl40 ty_z40 Tryd.underlying40 ty_ag41 ty_sz41 ty_int41 ty_ifc41 ty_bool41 ty_z41 Tryd.underlying41 ty_ag42 ty_sz42 ty_int42 ty_ifc42 ty_bool42 ty_z42 ty_ag43 ty_sz43 ty_int43 ty_ifc43 ty_bool43 ty_z43 ty_ag44 ty_sz44 ty_int44 ty_ifc44 ty_bool44 ty_z44 Tryd.underlying44 ty_ag45 ty_sz45 ty_int45 ty_ifc45 ty_bool45 ty_f45_0 ty_f45_1 ty_pl45 ty_z45 Tryd.underlying45 ty_ag46 ty_sz46 ty_int46 ty_ifc46 ty_bool46 ty_f46_0 ty_f46_1 ty_pl46 ty_z46 Tryd.underlying46 ty_ag47 ty_sz47 ty_int47 ty_ifc47 ty_bool47 ty_f47_0 ty_f47_1 ty_f47_2 ty_f47_3 ty_f47_4 ty_pl47 ty_z47 Tryd.underlying47 ty_ag48 ty_sz48 ty_int48 ty_ifc48 ty_bool48 ty_f48_0 ty_f48_1 ty_f48_2 ty_f48_3 ty_f48_4 ty_pl48 ty_z48 Tryd.underlying48 ty_ag49 ty_sz49 ty_int49 ty_ifc49 ty_bool49 ty_z49 Tryd.underlying49 ty_ag50 ty_sz50 ty_int50 ty_ifc50 ty_bool50 ty_z50 Tryd.underlying50 ty_ag51 ty_sz51 ty_int51 ty_ifc51 ty_bool51 ty_z51 Tryd.underlying51 ty_ag52 ty_sz52 ty_int52 ty_ifc52 ty_bool52 ty_z52 Tryd.underlying52 ty_ag53 ty_sz53 ty_int53 ty_eq53 ty_ifc53 ty_bool53 ty_f53_0 ty_f53_1 ty_f53_2 ty_f53_3 ty_f53_4 ty_pl53 ty_z53 Tryd.underlying53 ty_ag54 ty_sz54 ty_int54 ty_eq54 ty_ifc54 ty_bool54 ty_f54_0 ty_f54_1 ty_f54_2 ty_f54_3 ty_f54_4 ty_pl54 ty_z54 Tryd.underlying54 ty_ag55 ty_sz55 ty_int55 ty_ifc55 ty_bool55 ty_elem55 ty_app55 ty_z55 Tryd.underlying55 ty_ag56 ty_sz56 ty_int56 ty_ifc56 ty_bool56 ty_f56_0 ty_f56_1 ty_f56_2 ty_f56_3 ty_f56_4 ty_f56_5 ty_pl56 ty_z56 Tryd.underlying56 ty_ag57 ty_sz57 ty_int57 ty_ifc57 ty_bool57 ty_f57_0 ty_f57_1 ty_f57_2 ty_f57_3 ty_f57_4 ty_f57_5 ty_pl57 ty_z57 Tryd.underlying57 ty_ag59 ty_sz59 ty_int59 ty_ifc59 ty_bool59 ty_z59 Tryd.underlying59 ty_ag60 ty_sz60 ty_int60 ty_ifc60 ty_bool60 ty_z60 Tryd.underlying60 ty_ag61 ty_sz61 ty_int61 ty_ifc61 ty_bool61 ty_z61 Tryd.underlying61 ty_ag62 ty_sz62 ty_int62 ty_ifc62 ty_bool62 ty_z62 Tryd.underlying62 ty_ag63 ty_sz63 ty_int63 ty_ifc63 ty_bool63 ty_z63 Tryd.underlying63 ty_ag64 ty_sz64 ty_int64 ty_ifc64 ty_bool64 ty_z64 Tryd.underlying64 ty_ag65 ty_sz65 ty_int65 ty_ifc65 ty_bool65 ty_z65 Tryd.underlying65 ty_ag66 ty_sz66 ty_int66 ty_ifc66 ty_bool66 ty_elem66 ty_app66 ty_z66 Tryd.underlying66 ty_ag67 ty_sz67 ty_int67 ty_ifc67 ty_bool67 ty_z67 Tryd.underlying67 ty_ag68 ty_sz68 ty_int68 ty_ifc68 ty_bool68 ty_elem68 ty_app68 ty_z68 Tryd.underlying68 ty_ag70 ty_sz70 ty_int70 ty_ifc70 ty_bool70 ty_z70 Tryd.underlying70 ty_ag71 ty_sz71 ty_int71 ty_ifc71 ty_m71_0 ty_k71_0 ty_m71_1 ty_k71_1 ty_bool71 ty_z71 Tryd.underlying71 ty_ag72 ty_sz72 ty_int72 ty_ifc72 ty_bool72 ty_z72 Tryd.underlying72 ty_ag73 ty_sz73 ty_int73 ty_ifc73 ty_bool73 ty_z73 Tryd.underlying73 ty_ag74 ty_sz74 ty_int74 ty_ifc74 ty_bool74 ty_f74_0 ty_f74_1 ty_pl74 ty_z74 Tryd.underlying74 ty_ag75 ty_sz75 ty_int75 ty_ifc75 ty_bool75 ty_f75_0 ty_f75_1 ty_pl75 ty_z75 Tryd.underlying75 ty_ag76 ty_sz76 ty_int76 ty_ifc76 ty_bool76 ty_elem76 ty_app76 ty_z76 Tryd.underlying76 ty_ag78 ty_sz78 ty_int78 ty_ifc78 ty_bool78 ty_z78 Tryd.underlying78 ty_ag79 ty_sz79 ty_int79 ty_ifc79 ty_bool79 ty_f79_0 ty_f79_1 ty_f79_2 ty_f79_3 ty_f79_4 ty_f79_5 ty_f79_6 ty_pl79 ty_z79 Tryd.underlying79 ty_ag80 ty_sz80 ty_int80 ty_ifc80 ty_bool80 ty_f80_0 ty_f80_1 ty_f80_2 ty_f80_3 ty_f80_4 ty_f80_5 ty_f80_6 ty_pl80 ty_z80 Tryd.underlying80 ty_ag81 ty_sz81 ty_int81 ty_ifc81 ty_bool81 ty_z81 Tryd.underlying81 ty_ag82 ty_sz82 ty_int82 ty_ifc82 ty_bool82 ty_z82 Tryd.underlying82 ty_ag83 ty_sz83 ty_int83 ty_ifc83 ty_bool83 ty_z83 Tryd.underlying83 ty_ag84 ty_sz84 ty_int84 ty_ifc84 ty_bool84 ty_z84 Tryd.underlying84 ty_ag85 ty_sz85 ty_int85 ty_ifc85 ty_bool85 ty_z85 Tryd.underlying85 ty_ag86 ty_sz86 ty_int86 ty_eq86 ty_ifc86 ty_bool86 ty_f86_0 ty_f86_1 ty_f86_2 ty_f86_3 ty_pl86 ty_z86 Tryd.underlying86 ty_ag87 ty_sz87 ty_int87 ty_eq87 ty_ifc87 ty_bool87 ty_f87_0 ty_f87_1 ty_f87_2 ty_f87_3 ty_pl87 ty_z87 Tryd.underlying87 ty_ag88 ty_sz88 ty_int88 ty_ifc88 ty_bool88 ty_elem88 ty_app88 ty_z88 Tryd.underlying88 ty_ag89 ty_sz89 ty_int89 ty_ifc89 ty_bool89 ty_f89_0 ty_f89_1 ty_pl89 ty_z89 Tryd.underlying89 ty_ag90 ty_sz90 ty_int90 ty_ifc90 ty_bool90 ty_f90_0 ty_f90_1 ty_pl90 ty_z90 Tryd.underlying90 ty_ag91 ty_sz91 ty_int91 ty_ifc91 ty_bool91 ty_z91 Tryd.underlying91 ty_ag92 ty_sz92 ty_int92 ty_ifc92 ty_bool92 ty_f92_0 ty_f92_1 ty_f92_2 ty_pl92 ty_z92 Tryd.underlying92 ty_ag93 ty_sz93 ty_int93 ty_ifc93 ty_bool93 ty_f93_0 ty_f93_1 ty_f93_2 ty_pl93 ty_z93 Tryd.underlying93 ty_ag94 ty_sz94 ty_int94 ty_ifc94 ty_bool94 ty_z94 Tryd.underlying94 ty_ag95 ty_sz95 ty_int95 ty_ifc95 ty_bool95 ty_z95 Tryd.underlying95 ty_ag96 ty_sz96 ty_int96 ty_ifc96 ty_bool96 ty_elem96 ty_app96 ty_z96 Tryd.underlying96 ty_ag97 ty_sz97 ty_int97 ty_ifc97 ty_bool97 ty_elem97 ty_app97 ty_z97 Tryd.underlying97 ty_ag98 ty_sz98 ty_int98 ty_ifc98 ty_bool98 ty_f98_0 ty_f98_1 ty_f98_2 ty_pl98 ty_z98 Tryd.underlying98 ty_ag99 ty_sz99 ty_int99 ty_ifc99 ty_bool99 ty_f99_0 ty_f99_1 ty_f99_2 ty_pl99 ty_z99 Tryd.underlying99 ty_ag100 ty_sz100 ty_int100 ty_ifc100 ty_bool100 ty_z100 Tryd.underlying100 ty_ag101 ty_sz101 ty_int101 ty_ifc101 ty_m101_0 ty_k101_0 ty_m101_1 ty_k101_1 ty_m101_2 ty_k101_2 ty_bool101 ty_z101 Tryd.underlying101 ty_ag102 ty_sz102 ty_int102 ty_ifc102 ty_m102_0 ty_k102_0 ty_bool102 ty_z102 Tryd.underlying102 ty_ag103 ty_sz103 ty_int103 ty_ifc103 ty_bool103 ty_elem103 ty_app103 ty_z103 Tryd.underlying103 ty_ag104 ty_sz104 ty_int104 ty_ifc104 ty_bool104 ty_elem104 ty_app104 ty_z104 Tryd.underlying104 ty_ag105 ty_sz105 ty_int105 ty_ifc105 ty_bool105 ty_f105_0 ty_f105_1 ty_pl105 ty_z105 Tryd.underlying105 ty_ag106 ty_sz106 ty_int106 ty_ifc106 ty_bool106 ty_f106_0 ty_f106_1 ty_pl106 ty_z106 Tryd.underlying106 ty_ag107 ty_sz107 ty_int107 ty_ifc107 ty_bool107 ty_elem107 ty_app107 ty_z107 Tryd.underlying107 ty_ag108 ty_sz108 ty_int108 ty_ifc108 ty_bool108 ty_f108_0 ty_f108_1 ty_f108_2 ty_f108_3 ty_f108_4 ty_f108_5 ty_f108_6 ty_pl108 ty_z108 Tryd.underlying108 ty_ag109 ty_sz109 ty_int109 ty_ifc109 ty_bool109 ty_f109_0 ty_f109_1 ty_f109_2 ty_f109_3 ty_f109_4 ty_f109_5 ty_f109_6 ty_pl109 ty_z109 Tryd.underlying109 ty_ag110 ty_sz110 ty_int110 ty_ifc110 ty_bool110 ty_f110_0 ty_f110_1 ty_f110_2 ty_f110_3 ty_f110_4 ty_f110_5 ty_pl110 ty_z110 Tryd.underlying110 ty_ag111 ty_sz111 ty_int111 ty_ifc111 ty_bool111 ty_f111_0 ty_f111_1 ty_f111_2 ty_f111_3 ty_f111_4 ty_f111_5 ty_pl111 ty_z111 Tryd.underlying111 ty_ag112 ty_sz112 ty_int112 ty_ifc112 ty_bool112 ty_f112_0 ty_f112_1 ty_f112_2 ty_f112_3 ty_f112_4 ty_f112_5 ty_f112_6 ty_f112_7 ty_f112_8 ty_pl112 ty_z112 Tryd.underlying112 ty_ag113 ty_sz113 ty_int113 ty_ifc113 ty_bool113 ty_f113_0 ty_f113_1 ty_f113_2 ty_f113_3 ty_f113_4 ty_f113_5 ty_f113_6 ty_f113_7 ty_f113_8 ty_pl113 ty_z113 Tryd.underlying113 ty_ag114 ty_sz114 ty_int114 ty_ifc114 ty_bool114 ty_f114_0 ty_f114_1 ty_f114_2 ty_f114_3 ty_f114_4 ty_f114_5 ty_pl114 ty_z114 Tryd.underlying114 ty_ag115 ty_sz115 ty_int115 ty_ifc115 ty_bool115 ty_f115_0 ty_f115_1 ty_f115_2 ty_f115_3 ty_f115_4 ty_f115_5 ty_pl115 ty_z115 Tryd.underlying115 ty_ag116 ty_sz116 ty_int116 ty_ifc116 ty_bool116 ty_z116 Tryd.underlying116 ty_ag117 ty_sz117 ty_int117 ty_ifc117 ty_bool117 ty_z117 Tryd.underlying117 ty_ag118 ty_sz118 ty_int118 ty_ifc118 ty_bool118 ty_f118_0 ty_f118_1 ty_f118_2 ty_f118_3 ty_f118_4 ty_f118_5 ty_f118_6 ty_pl118 ty_z118 Tryd.underlying118 ty_ag119 ty_sz119 ty_int119 ty_ifc119 ty_bool119 ty_f119_0 ty_f119_1 ty_f119_2 ty_f119_3 ty_f119_4 ty_f119_5 ty_f119_6 ty_pl119 ty_z119 Tryd.underlying119 ty_ag120 ty_sz120 ty_int120 ty_ifc120 ty_bool120 ty_f120_0 ty_f120_1 ty_pl120 ty_z120 Tryd.underlying120 ty_ag121 ty_sz121 ty_int121 ty_ifc121 ty_bool121 ty_f121_0 ty_f121_1 ty_pl121 ty_z121 Tryd.underlying121 ty_ag122 ty_sz122 ty_int122 ty_ifc122 ty_bool122 ty_z122 Tryd.underlying122 ty_ag123 ty_sz123 ty_int123 ty_ifc123 ty_bool123 ty_z123 Tryd.underlying123 ty_ag124 ty_sz124 ty_int124 ty_eq124 ty_ifc124 ty_bool124 ty_f124_0 ty_f124_1 ty_f124_2 ty_f124_3 ty_f124_4 ty_f124_5 ty_f124_6 ty_f124_7 ty_f124_8 ty_f124_9 ty_f124_10 ty_pl124 ty_z124 Tryd.underlying124 ty_ag125 ty_sz125 ty_int125 ty_eq125 ty_ifc125 ty_m125_0 ty_k125_0 ty_m125_1 ty_k125_1 ty_m125_2 ty_k125_2 ty_m125_3 ty_k125_3 ty_bool125 ty_f125_0 ty_f125_1 ty_f125_2 ty_f125_3 ty_f125_4 ty_f125_5 ty_f125_6 ty_f125_7 ty_f125_8 ty_f125_9 ty_f125_10 ty_pl125 ty_z125 Tryd.underlying125 ty_ag126 ty_sz126 ty_int126 ty_eq126 ty_ifc126 ty_bool126 ty_f126_0 ty_f126_1 ty_f126_2 ty_f126_3 ty_f126_4 ty_pl126 ty_z126 Tryd.underlying126 ty_ag127 ty_sz127 ty_int127 ty_eq127 ty_ifc127 ty_bool127 ty_f127_0 ty_f127_1 ty_f127_2 ty_f127_3 ty_f127_4 ty_pl127 ty_z127 Tryd.underlying127 ty_ag128 ty_sz128 ty_int128 ty_ifc128 ty_bool128 ty_f128_0 ty_f128_1 ty_f128_2 ty_f128_3 ty_f128_4 ty_f128_5 ty_pl128 ty_z128 Tryd.underlying128 ty_ag129 ty_sz129 ty_int129 ty_ifc129 ty_m129_0 ty_k129_0 ty_m129_1 ty_k129_1 ty_bool129 ty_f129_0 ty_f129_1 ty_f129_2 ty_f129_3 ty_f129_4 ty_f129_5 ty_pl129 ty_z129 Tryd.underlying129 ty_ag130 ty_sz130 ty_int130 ty_ifc130 ty_m130_0 ty_k130_0 ty_m130_1 ty_k130_1 ty_m130_2 ty_k130_2 ty_m130_3 ty_k130_3 ty_m130_4 ty_k130_4 ty_m130_5 ty_k130_5 ty_m130_6 ty_k130_6 ty_m130_7 ty_k130_7 ty_m130_8 ty_k130_8 ty_m130_9 ty_k130_9 ty_m130_10 ty_k130_10 ty_m130_11 ty_k130_11 ty_m130_12 ty_k130_12 ty_m130_13 ty_k130_13 ty_m130_14 ty_k130_14 ty_m130_15 ty_k130_15 ty_m130_16 ty_k130_16 ty_bool130 ty_z130 Tryd.underlying130 ty_ag131 ty_sz131 ty_int131 ty_ifc131 ty_bool131 ty_z131 Tryd.underlying131 ty_ag132 ty_sz132 ty_int132 ty_ifc132 ty_bool132 ty_z132 Tryd.underlying132 ty_ag133 ty_sz133 ty_int133 ty_ifc133 ty_bool133 ty_z133 Tryd.underlying133 ty_ag134 ty_sz134 ty_int134 ty_ifc134 ty_bool134 ty_z134 Tryd.underlying134 ty_ag136 ty_sz136 ty_int136 ty_ifc136 ty_bool136 ty_z136 Tryd.underlying136 ty_ag137 ty_sz137 ty_int137 ty_ifc137 ty_bool137 ty_f137_0 ty_f137_1 ty_pl137 ty_z137 Tryd.underlying137 ty_ag138 ty_sz138 ty_int138 ty_ifc138 ty_bool138 ty_f138_0 ty_f138_1 ty_pl138 ty_z138 Tryd.underlying138 ty_ag139 ty_sz139 ty_int139 ty_ifc139 ty_bool139 ty_z139 Tryd.underlying139 ty_ag140 ty_sz140 ty_int140 ty_ifc140 ty_bool140 ty_f140_0 ty_f140_1 ty_f140_2 ty_f140_3 ty_f140_4 ty_f140_5 ty_f140_6 ty_f140_7 ty_f140_8 ty_pl140 ty_z140 Tryd.underlying140 ty_ag141 ty_sz141 ty_int141 ty_ifc141 ty_bool141 ty_f141_0 ty_f141_1 ty_f141_2 ty_f141_3 ty_f141_4 ty_f141_5 ty_f141_6 ty_f141_7 ty_f141_8 ty_pl141 ty_z141 Tryd.underlying141 ty_ag142 ty_sz142 ty_int142 ty_ifc142 ty_bool142 ty_f142_0 ty_f142_1 ty_f142_2 ty_f142_3 ty_f142_4 ty_f142_5 ty_f142_6 ty_pl142 ty_z142 Tryd.underlying142 ty_ag143 ty_sz143 ty_int143 ty_ifc143 ty_bool143 ty_f143_0 ty_f143_1 ty_f143_2 ty_f143_3 ty_f143_4 ty_f143_5 ty_f143_6 ty_pl143 ty_z143 Tryd.underlying143 ty_ag144 ty_sz144 ty_int144 ty_ifc144 ty_bool144 ty_f144_0 ty_f144_1 ty_f144_2 ty_f144_3 ty_f144_4 ty_f144_5 ty_f144_6 ty_pl144 ty_z144 Tryd.underlying144 ty_ag145 ty_sz145 ty_int145 ty_ifc145 ty_bool145 ty_f145_0 ty_f145_1 ty_f145_2 ty_f145_3 ty_f145_4 ty_f145_5 ty_f145_6 ty_pl145 ty_z145 Tryd.underlying145 ty_ag146 ty_sz146 ty_int146 ty_ifc146 ty_bool146 ty_f146_0 ty_f146_1 ty_f146_2 ty_f146_3 ty_f146_4 ty_pl146 ty_z146 Tryd.underlying146 ty_ag147 ty_sz147 ty_int147 ty_ifc147 ty_bool147 ty_f147_0 ty_f147_1 ty_f147_2 ty_f147_3 ty_f147_4 ty_pl147 ty_z147 Tryd.underlying147 ty_ag148 ty_sz148 ty_int148 ty_ifc148 ty_bool148 ty_elem148 ty_app148 ty_z148 Tryd.underlying148 ty_ag149 ty_sz149 ty_int149 ty_ifc149 ty_bool149 ty_f149_0 ty_f149_1 ty_f149_2 ty_pl149 ty_z149 Tryd.underlying149 ty_ag150 ty_sz150 ty_int150 ty_ifc150 ty_bool150 ty_f150_0 ty_f150_1 ty_f150_2 ty_pl150 ty_z150 Tryd.underlying150 ty_ag151 ty_sz151 ty_int151 ty_ifc151 ty_bool151 ty_f151_0 ty_f151_1 ty_f151_2 ty_f151_3 ty_f151_4 ty_f151_5 ty_f151_6 ty_pl151 ty_z151 Tryd.underlying151 ty_ag152 ty_sz152 ty_int152 ty_ifc152 ty_bool152 ty_f152_0 ty_f152_1 ty_f152_2 ty_f152_3 ty_f152_4 ty_f152_5 ty_f152_6 ty_pl152 ty_z152 Tryd.underlying152 ty_ag154 ty_sz154 ty_int154 ty_ifc154 ty_bool154 ty_z154 Tryd.underlying154 ty_ag155 ty_sz155 ty_int155 ty_ifc155 ty_bool155 ty_z155 Tryd.underlying155 ty_ag156 ty_sz156 ty_int156 ty_ifc156 ty_bool156 ty_elem156 ty_app156 ty_z156 Tryd.underlying156 ty_ag157 ty_sz157 ty_int157 ty_ifc157 ty_bool157 ty_f157_0 ty_f157_1 ty_f157_2 ty_f157_3 ty_pl157 ty_z157 Tryd.underlying157 ty_ag158 ty_sz158 ty_int158 ty_ifc158 ty_bool158 ty_f158_0 ty_f158_1 ty_f158_2 ty_f158_3 ty_pl158 ty_z158 Tryd.underlying158 ty_ag159 ty_sz159 ty_int159 ty_ifc159 ty_bool159 ty_elem159 ty_app159 ty_z159 Tryd.underlying159 ty_ag161 ty_sz161 ty_int161 ty_ifc161 ty_bool161 ty_z161 Tryd.underlying161 ty_ag163 ty_sz163 ty_int163 ty_ifc163 ty_bool163 ty_z163 Tryd.underlying163 ty_ag164 ty_sz164 ty_int164 ty_ifc164 ty_bool164 ty_z164 Tryd.underlying164 ty_ag165 ty_sz165 ty_int165 ty_ifc165 ty_bool165 ty_z165 Tryd.underlying165 ty_ag166 ty_sz166 ty_int166 ty_ifc166 ty_bool166 ty_z166 Tryd.underlying166 ty_ag167 ty_sz167 ty_int167 ty_ifc167 ty_bool167 ty_z167 Tryd.underlying167 ty_ag168 ty_sz168 ty_int168 ty_ifc168 ty_bool168 ty_z168 Tryd.underlying168 ty_ag169 ty_sz169 ty_int169 ty_ifc169 ty_bool169 ty_z169 Tryd.underlying169 ty_ag170 ty_sz170 ty_int170 ty_ifc170 ty_bool170 ty_f170_0 ty_f170_1 ty_f170_2 ty_f170_3 ty_pl170 ty_z170 Tryd.underlying170 ty_ag171 ty_sz171 ty_int171 ty_ifc171 ty_bool171 ty_f171_0 ty_f171_1 ty_f171_2 ty_f171_3 ty_pl171 ty_z171 Tryd.underlying171 ty_ag172 ty_sz172 ty_int172 ty_ifc172 ty_bool172 ty_f172_0 ty_f172_1 ty_f172_2 ty_pl172 ty_z172 Tryd.underlying172 ty_ag173 ty_sz173 ty_int173 ty_ifc173 ty_bool173 ty_f173_0 ty_f173_1 ty_f173_2 ty_pl173 ty_z173 Tryd.underlying173 ty_ag174 ty_sz174 ty_int174 ty_ifc174 ty_bool174 ty_z174 Tryd.underlying174 ty_ag175 ty_sz175 ty_int175 ty_ifc175 ty_bool175 ty_z175 Tryd.underlying175 ty_ag176 ty_sz176 ty_int176 ty_ifc176 ty_bool176 ty_z176 Tryd.underlying176 ty_ag177 ty_sz177 ty_int177 ty_ifc177 ty_bool177 ty_z177 Tryd.underlying177 ty_ag178 ty_sz178 ty_int178 ty_ifc178 ty_bool178 ty_z178 Tryd.underlying178 ty_ag179 ty_sz179 ty_int179 ty_eq179 ty_ifc179 ty_bool179 ty_f179_0 ty_f179_1 ty_pl179 ty_z179 Tryd.underlying179 ty_ag180 ty_sz180 ty_int180 ty_eq180 ty_ifc180 ty_bool180 ty_f180_0 ty_f180_1 ty_pl180 ty_z180 Tryd.underlying180 ty_ag181 ty_sz181 ty_int181 ty_ifc181 ty_bool181 ty_z181 Tryd.underlying181 ty_ag182 ty_sz182 ty_int182 ty_ifc182 ty_bool182 ty_z182 Tryd.underlying182 ty_ag183 ty_sz183 ty_int183 ty_ifc183 ty_bool183 ty_elem183 ty_app183 ty_z183 Tryd.underlying183 ty_ag184 ty_sz184 ty_int184 ty_ifc184 ty_bool184 ty_z184 Tryd.underlying184 ty_ag185 ty_sz185 ty_int185 ty_ifc185 ty_bool185 ty_z185 ty_ag186 ty_sz186 ty_int186 ty_ifc186 ty_bool186 ty_z186 ty_ag187 ty_sz187 ty_int187 ty_ifc187 ty_bool187 ty_z187 ty_ag188 ty_sz188 ty_int188 ty_ifc188 ty_bool188 ty_z188 ty_ag189 ty_sz189 ty_int189 ty_ifc189 ty_bool189 ty_z189 Tryd.underlying189 ty_ag191 ty_sz191 ty_int191 ty_ifc191 ty_bool191 ty_z191 Tryd.underlying191 ty_ag192 ty_sz192 ty_int192 ty_ifc192 ty_bool192 ty_z192 Tryd.underlying192 ty_ag193 ty_sz193 ty_int193 ty_ifc193 ty_bool193 ty_z193 Tryd.underlying193 ty_ag194 ty_sz194 ty_int194 ty_ifc194 ty_bool194 ty_elem194 ty_app194 ty_z194 Tryd.underlying194 ty_ag195 ty_sz195 ty_int195 ty_ifc195 ty_bool195 ty_elem195 ty_app195 ty_z195 Tryd.underlying195 ty_ag196 ty_sz196 ty_int196 ty_ifc196 ty_bool196 ty_z196 Tryd.underlying196 ty_ag197 ty_sz197 ty_int197 ty_ifc197 ty_bool197 ty_z197 Tryd.underlying197 ty_ag199 ty_sz199 ty_int199 ty_ifc199 ty_bool199 ty_z199 Tryd.underlying199 ty_ag200 ty_sz200 ty_int200 ty_ifc200 ty_bool200 ty_z200 Tryd.underlying200 ty_ag201 ty_sz201 ty_int201 ty_ifc201 ty_bool201 ty_z201 Tryd.underlying201 ty_ag202 ty_sz202 ty_int202 ty_eq202 ty_ifc202 ty_bool202 ty_f202_0 ty_f202_1 ty_f202_2 ty_f202_3 ty_f202_4 ty_pl202 ty_z202 Tryd.underlying202 ty_ag203 ty_sz203 ty_int203 ty_eq203 ty_ifc203 ty_bool203 ty_f203_0 ty_f203_1 ty_f203_2 ty_f203_3 ty_f203_4 ty_pl203 ty_z203 Tryd.underlying203 ty_ag204 ty_sz204 ty_int204 ty_ifc204 ty_bool204 ty_z204 Tryd.underlying204 ty_ag205 ty_sz205 ty_int205 ty_ifc205 ty_bool205 ty_z205 Tryd.underlying205 ty_ag207 ty_sz207 ty_int207 ty_ifc207 ty_bool207 ty_z207 Tryd.underlying207 ty_ag208 ty_sz208 ty_int208 ty_ifc208 ty_bool208 ty_elem208 ty_app208 ty_z208 Tryd.underlying208 ty_ag209 ty_sz209 ty_int209 ty_ifc209 ty_bool209 ty_f209_0 ty_f209_1 ty_f209_2 ty_f209_3 ty_pl209 ty_z209 Tryd.underlying209 ty_ag210 ty_sz210 ty_int210 ty_ifc210 ty_bool210 ty_f210_0 ty_f210_1 ty_f210_2 ty_f210_3 ty_pl210 ty_z210 Tryd.underlying210 ty_ag211 ty_sz211 ty_int211 ty_ifc211 ty_bool211 ty_z211 Tryd.underlying211 ty_ag212 ty_sz212 ty_int212 ty_ifc212 ty_bool212 ty_z212 Tryd.underlying212 ty_ag213 ty_sz213 ty_int213 ty_ifc213 ty_bool213 ty_f213_0 ty_f213_1 ty_pl213 ty_z213 Tryd.underlying213 ty_ag214 ty_sz214 ty_int214 ty_ifc214 ty_bool214 ty_f214_0 ty_f214_1 ty_pl214 ty_z214 Tryd.underlying214 ty_ag215 ty_sz215 ty_int215 ty_ifc215 ty_bool215 ty_z215 Tryd.underlying215 ty_ag217 ty_sz217 ty_int217 ty_ifc217 ty_bool217 ty_z217 Tryd.underlying217 ty_ag219 ty_sz219 ty_int219 ty_ifc219 ty_bool219 ty_z219 Tryd.underlying219 ty_ag221 ty_sz221 ty_int221 ty_ifc221 ty_bool221 ty_z221 Tryd.underlying221 ty_ag222 ty_sz222 ty_int222 ty_ifc222 ty_bool222 ty_z222 Tryd.underlying222 ty_ag223 ty_sz223 ty_int223 ty_ifc223 ty_bool223 ty_z223 Tryd.underlying223 ty_ag224 ty_sz224 ty_int224 ty_ifc224 ty_bool224 ty_z224 Tryd.underlying224 ty_ag225 ty_sz225 ty_int225 ty_ifc225 ty_bool225 ty_z225 Tryd.underlying225 ty_ag226 ty_sz226 ty_int226 ty_ifc226 ty_bool226 ty_z226 Tryd.underlying226 ty_ag227 ty_sz227 ty_int227 ty_ifc227 ty_bool227 ty_z227 Tryd.underlying227 ty_ag228 ty_sz228 ty_int228 ty_ifc228 ty_bool228 ty_z228 Tryd.underlying228 ty_ag229 ty_sz229 ty_int229 ty_ifc229 ty_bool229 ty_z229 Tryd.underlying229 ty_ag230 ty_sz230 ty_int230 ty_ifc230 ty_bool230 ty_z230 Tryd.underlying230 ty_ag231 ty_sz231 ty_int231 ty_ifc231 ty_bool231 ty_z231 Tryd.underlying231 ty_ag232 ty_sz232 ty_int232 ty_ifc232 ty_bool232 ty_z232 Tryd.underlying232 ty_ag233 ty_sz233 ty_int233 ty_ifc233 ty_bool233 ty_elem233 ty_app233 ty_z233 Tryd.underlying233 ty_ag234 ty_sz234 ty_int234 ty_ifc234 ty_bool234 ty_z234 Tryd.underlying234 ty_ag235 ty_sz235 ty_int235 ty_ifc235 ty_bool235 ty_z235 Tryd.underlying235 ty_ag236 ty_sz236 ty_int236 ty_ifc236 ty_bool236 ty_z236 Tryd.underlying236 ty_ag237 ty_sz237 ty_int237 ty_ifc237 ty_bool237 ty_f237_0 ty_f237_1 ty_f237_2 ty_pl237 ty_z237 Tryd.underlying237 ty_ag238 ty_sz238 ty_int238 ty_ifc238 ty_bool238 ty_f238_0 ty_f238_1 ty_f238_2 ty_pl238 ty_z238 Tryd.underlying238 ty_ag239 ty_sz239 ty_int239 ty_ifc239 ty_bool239 ty_z239 Tryd.underlying239 ty_ag240 ty_sz240 ty_int240 ty_ifc240 ty_m240_0 ty_k240_0 ty_m240_1 ty_k240_1 ty_bool240 ty_z240 Tryd.underlying240 ty_ag242 ty_sz242 ty_int242 ty_ifc242 ty_bool242 ty_z242 Tryd.underlying242 ty_ag243 ty_sz243 ty_int243 ty_ifc243 ty_bool243 ty_z243 Tryd.underlying243 ty_ag244 ty_sz244 ty_int244 ty_ifc244 ty_bool244 ty_z244 Tryd.underlying244 ty_ag245 ty_sz245 ty_int245 ty_ifc245 ty_bool245 ty_z245 Tryd.underlying245 ty_ag246 ty_sz246 ty_int246 ty_ifc246 ty_bool246 ty_z246 Tryd.underlying246 ty_ag247 ty_sz247 ty_int247 ty_ifc247 ty_bool247 ty_z247 Tryd.underlying247 ty_ag248 ty_sz248 ty_int248 ty_ifc248 ty_bool248 ty_z248 Tryd.underlying248 ty_ag249 ty_sz249 ty_int249 ty_ifc249 ty_bool249 ty_z249 Tryd.underlying249 ty_ag250 ty_sz250 ty_int250 ty_ifc250 ty_bool250 ty_f250_0 ty_pl250 ty_z250 Tryd.underlying250 ty_ag251 ty_sz251 ty_int251 ty_ifc251 ty_bool251 ty_f251_0 ty_pl251 ty_z251 Tryd.underlying251 ty_ag252 ty_sz252 ty_int252 ty_ifc252 ty_bool252 ty_z252 Tryd.underlying252 ty_ag253 ty_sz253 ty_int253 ty_ifc253 ty_bool253 ty_z253 Tryd.underlying253 ty_ag254 ty_sz254 ty_int254 ty_ifc254 ty_bool254 ty_z254 Tryd.underlying254 ty_ag255 ty_sz255 ty_int255 ty_ifc255 ty_bool255 ty_z255 Tryd.underlying255 ty_ag256 ty_sz256 ty_int256 ty_ifc256 ty_bool256 ty_z256 Tryd.underlying256 ty_ag257 ty_sz257 ty_int257 ty_ifc257 ty_bool257 ty_z257 Tryd.underlying257 ty_ag258 ty_sz258 ty_int258 ty_ifc258 ty_bool258 ty_z258 Tryd.underlying258 ty_ag259 ty_sz259 ty_int259 ty_ifc259 ty_bool259 ty_z259 Tryd.underlying259 ty_ag261 ty_sz261 ty_int261 ty_ifc261 ty_bool261 ty_z261 Tryd.underlying261 ty_ag262 ty_sz262 ty_int262 ty_ifc262 ty_bool262 ty_z262 Tryd.underlying262 ty_ag263 ty_sz263 ty_int263 ty_ifc263 ty_bool263 ty_z263 Tryd.underlying263 ty_ag264 ty_sz264 ty_int264 ty_ifc264 ty_bool264 ty_elem264 ty_app264 ty_z264 Tryd.underlying264 ty_ag265 ty_sz265 ty_int265 ty_ifc265 ty_bool265 ty_z265 Tryd.underlying265 ty_ag267 ty_sz267 ty_int267 ty_ifc267 ty_bool267 ty_z267 Tryd.underlying267 ty_ag268 ty_sz268 ty_int268 ty_ifc268 ty_bool268 ty_z268 Tryd.underlying268 ty_ag269 ty_sz269 ty_int269 ty_ifc269 ty_bool269 ty_z269 Tryd.underlying269 ty_ag270 ty_sz270 ty_int270 ty_ifc270 ty_bool270 ty_z270 Tryd.underlying270 ty_ag271 ty_sz271 ty_int271 ty_ifc271 ty_bool271 ty_z271 Tryd.underlying271 ty_ag272 ty_sz272 ty_int272 ty_ifc272 ty_bool272 ty_z272 Tryd.underlying272 ty_ag273 ty_sz273 ty_int273 ty_ifc273 ty_bool273 ty_z273 Tryd.underlying273 ty_ag275 ty_sz275 ty_int275 ty_ifc275 ty_bool275 ty_z275 Tryd.underlying275 ty_ag276 ty_sz276 ty_int276 ty_ifc276 ty_bool276 ty_z276 Tryd.underlying276 ty_ag277 ty_sz277 ty_int277 ty_ifc277 ty_bool277 ty_z277 Tryd.underlying277 ty_ag278 ty_sz278 ty_int278 ty_ifc278 ty_bool278 ty_z278 Tryd.underlying278 ty_ag279 ty_sz279 ty_int279 ty_ifc279 ty_bool279 ty_z279 Tryd.underlying279 ty_ag281 ty_sz281 ty_int281 ty_ifc281 ty_bool281 ty_z281 Tryd.underlying281 ty_ag282 ty_sz282 ty_int282 ty_ifc282 ty_bool282 ty_z282 Tryd.underlying282 ty_ag283 ty_sz283 ty_int283 ty_ifc283 ty_bool283 ty_z283 Tryd.underlying283 ty_ag284 ty_sz284 ty_int284 ty_ifc284 ty_bool284 ty_z284 Tryd.underlying284 ty_ag285 ty_sz285 ty_int285 ty_ifc285 ty_bool285 ty_z285 Tryd.underlying285 ty_ag286 ty_sz286 ty_int286 ty_ifc286 ty_bool286 ty_z286 Tryd.underlying286 ty_ag287 ty_sz287 ty_int287 ty_ifc287 ty_bool287 ty_z287 Tryd.underlying287 ty_ag288 ty_sz288 ty_int288 ty_ifc288 ty_bool288 ty_arr288 ty_pl288 ty_z288 ty_ag289 ty_sz289 ty_int289 ty_ifc289 ty_bool289 ty_arr289 ty_pl289 ty_z289 ty_ag290 ty_sz290 ty_int290 ty_ifc290 ty_bool290 ty_z290 Tryd.underlying290 ty_ag291 ty_sz291 ty_int291 ty_ifc291 ty_bool291 ty_z291 Tryd.underlying291 ty_ag292 ty_sz292 ty_int292 ty_ifc292 ty_bool292 ty_z292 Tryd.underlying292 ty_ag293 ty_sz293 ty_int293 ty_ifc293 ty_bool293 ty_z293 Tryd.underlying293 ty_ag294 ty_sz294 ty_int294 ty_ifc294 ty_bool294 ty_z294 Tryd.underlying294 ty_ag296 ty_sz296 ty_int296 ty_ifc296 ty_bool296 ty_z296 Tryd.underlying296 ty_ag297 ty_sz297 ty_int297 ty_ifc297 ty_bool297 ty_z297 Tryd.underlying297 ty_ag298 ty_sz298 ty_int298 ty_ifc298 ty_bool298 ty_z298 Tryd.underlying298 ty_ag299 ty_sz299 ty_int299 ty_ifc299 ty_bool299 ty_z299 Tryd.underlying299 ty_ag300 ty_sz300 ty_int300 ty_ifc300 ty_bool300 ty_z300 Tryd.underlying300 ty_ag301 ty_sz301 ty_int301 ty_ifc301 ty_bool301 ty_z301 Tryd.underlying301 ty_ag302 ty_sz302 ty_int302 ty_ifc302 ty_bool302 ty_z302 Tryd.underlying302 ty_ag303 ty_sz303 ty_int303 ty_ifc303 ty_bool303 ty_z303 Tryd.underlying303 ty_ag305 ty_sz305 ty_int305 ty_ifc305 ty_bool305 ty_z305 Tryd.underlying305 ty_ag307 ty_sz307 ty_int307 ty_ifc307 ty_bool307 ty_z307 Tryd.underlying307 ty_ag308 ty_sz308 ty_int308 ty_ifc308 ty_bool308 ty_f308_0 ty_f308_1 ty_f308_2 ty_pl308 ty_z308 Tryd.underlying308 ty_ag309 ty_sz309 ty_int309 ty_ifc309 ty_bool309 ty_f309_0 ty_f309_1 ty_f309_2 ty_pl309 ty_z309 Tryd.underlying309 ty_ag311 ty_sz311 ty_int311 ty_ifc311 ty_bool311 ty_z311 Tryd.underlying311 ty_ag312 ty_sz312 ty_int312 ty_ifc312 ty_bool312 ty_z312 Tryd.underlying312 ty_ag313 ty_sz313 ty_int313 ty_ifc313 ty_bool313 ty_z313 Tryd.underlying313 ty_ag314 ty_sz314 ty_int314 ty_ifc314 ty_bool314 ty_z314 Tryd.underlying314 ty_ag315 ty_sz315 ty_int315 ty_ifc315 ty_m315_0 ty_k315_0 ty_m315_1 ty_k315_1 ty_m315_2 ty_k315_2 ty_m315_3 ty_k315_3 ty_bool315 ty_z315 Tryd.underlying315 ty_ag316 ty_sz316 ty_int316 ty_ifc316 ty_bool316 ty_arr316 ty_pl316 ty_z316 ty_ag317 ty_sz317 ty_int317 ty_ifc317 ty_bool317 ty_arr317 ty_pl317 ty_z317 ty_ag318 ty_sz318 ty_int318 ty_ifc318 ty_bool318 ty_f318_0 ty_f318_1 ty_pl318 ty_z318 Tryd.underlying318 ty_ag319 ty_sz319 ty_int319 ty_ifc319 ty_bool319 ty_f319_0 ty_f319_1 ty_pl319 ty_z319 Tryd.underlying319 ty_ag320 ty_sz320 ty_int320 ty_ifc320 ty_bool320 ty_z320 Tryd.underlying320 ty_ag321 ty_sz321 ty_int321 ty_ifc321 ty_bool321 ty_f321_0 ty_pl321 ty_z321 Tryd.underlying321 ty_ag322 ty_sz322 ty_int322 ty_ifc322 ty_bool322 ty_f322_0 ty_pl322 ty_z322 Tryd.underlying322 ty_ag323 ty_sz323 ty_int323 ty_ifc323 ty_m323_0 ty_k323_0 ty_m323_1 ty_k323_1 ty_bool323 ty_z323 Tryd.underlying323 ty_ag324 ty_sz324 ty_int324 ty_ifc324 ty_bool324 ty_z324 Tryd.underlying324 ty_ag325 ty_sz325 ty_int325 ty_ifc325 ty_bool325 ty_arr325 ty_pl325 ty_z325 ty_ag326 ty_sz326 ty_int326 ty_ifc326 ty_bool326 ty_arr326 ty_pl326 ty_z326 ty_ag327 ty_sz327 ty_int327 ty_ifc327 ty_bool327 ty_z327 Tryd.underlying327 ty_ag328 ty_sz328 ty_int328 ty_ifc328 ty_bool328 ty_arr328 ty_pl328 ty_z328 ty_ag329 ty_sz329 ty_int329 ty_ifc329 ty_bool329 ty_z329 Tryd.underlying329 ty_ag330 ty_sz330 ty_int330 ty_ifc330 ty_bool330 ty_z330 Tryd.underlying330 ty_ag331 ty_sz331 ty_int331 ty_ifc331 ty_bool331 ty_z331 Tryd.underlying331 ty_ag333 ty_sz333 ty_int333 ty_ifc333 ty_bool333 ty_z333 Tryd.underlying333 ty_ag334 ty_sz334 ty_int334 ty_ifc334 ty_bool334 ty_z334 Tryd.underlying334 ty_ag335 ty_sz335 ty_int335 ty_ifc335 ty_bool335 ty_arr335 ty_pl335 ty_z335 ty_ag336 ty_sz336 ty_int336 ty_ifc336 ty_bool336 ty_arr336 ty_pl336 ty_ag337 ty_sz337 ty_int337 ty_ifc337 ty_bool337 ty_z337 Tryd.underlying337 ty_ag338 ty_sz338 ty_int338 ty_ifc338 ty_bool338 ty_z338 Tryd.underlying338 ty_ag339 ty_sz339 ty_int339 ty_ifc339 ty_bool339 ty_arr339 ty_pl339 ty_z339 ty_ag340 ty_sz340 ty_int340 ty_ifc340 ty_bool340 ty_arr340 ty_pl340 ty_z340 ty_ag341 ty_sz341 ty_int341 ty_ifc341 ty_bool341 ty_z341 Tryd.underlying341 ty_ag342 ty_sz342 ty_int342 ty_ifc342 ty_bool342 ty_f342_0 ty_f342_1 ty_f342_2 ty_f342_3 ty_pl342 ty_z342 Tryd.underlying342 ty_ag343 ty_sz343 ty_int343 ty_ifc343 ty_bool343 ty_f343_0 ty_f343_1 ty_f343_2 ty_f343_3 ty_pl343 ty_z343 Tryd.underlying343 ty_ag344 ty_sz344 ty_int344 ty_ifc344 ty_bool344 ty_arr344 ty_pl344 ty_z344 ty_ag345 ty_sz345 ty_int345 ty_ifc345 ty_bool345 ty_pl345 ty_z345 Tryd.underlying345 ty_ag346 ty_sz346 ty_int346 ty_ifc346 ty_bool346 ty_pl346 ty_z346 Tryd.underlying346 ty_ag347 ty_sz347 ty_int347 ty_ifc347 ty_bool347 ty_z347 Tryd.underlying347 ty_ag348 ty_sz348 ty_int348 ty_ifc348 ty_m348_0 ty_k348_0 ty_bool348 ty_z348 Tryd.underlying348 ty_ag349 ty_sz349 ty_int349 ty_ifc349 ty_bool349 ty_z349 Tryd.underlying349 ty_ag350 ty_sz350 ty_int350 ty_ifc350 ty_bool350 ty_z350 Tryd.underlying350 ty_ag351 ty_sz351 ty_int351 ty_ifc351 ty_bool351 ty_z351 Tryd.underlying351 ty_ag352 ty_sz352 ty_int352 ty_ifc352 ty_bool352 ty_z352 Tryd.underlying352 ty_ag353 ty_sz353 ty_int353 ty_ifc353 ty_bool353 ty_f353_0 ty_f353_1 ty_f353_2 ty_f353_3 ty_f353_4 ty_f353_5 ty_f353_6 ty_f353_7 ty_f353_8 ty_f353_9 ty_f353_10 ty_pl353 ty_z353 Tryd.underlying353 ty_ag354 ty_sz354 ty_int354 ty_ifc354 ty_bool354 ty_f354_0 ty_f354_1 ty_f354_2 ty_f354_3 ty_f354_4 ty_f354_5 ty_f354_6 ty_f354_7 ty_f354_8 ty_f354_9 ty_f354_10 ty_pl354 ty_z354 Tryd.underlying354 Tryd.params2 fok2 Tryd.func2 Tryd.params3 fok3 Tryd.func3 Tryd.params4 fok4 Tryd.func4 Tryd.params5 fok5 Tryd.func5 Tryd.params6 fok6 Tryd.func6 Tryd.params7 fok7 Tryd.func7 Tryd.params8 fok8 Tryd.func8 Tryd.params9 fok9 Tryd.func9 Tryd.params10 fok10 Tryd.func10 Tryd.params11 fok11 Tryd.func11 Tryd.params12 fok12 Tryd.func12 Tryd.params13 fok13 Tryd.func13 Tryd.params14 fok14 Tryd.func14 Tryd.params15 fok15 Tryd.func15 Tryd.params16 fok16 Tryd.func16 Tryd.params17 fok17 Tryd.func17 Tryd.params18 fok18 Tryd.func18 Tryd.params19 fok19 Tryd.func19 Tryd.params20 fok20 Tryd.func20 Tryd.params21 fok21 Tryd.func21 Tryd.params22 fok22 Tryd.func22 Tryd.params23 fok23 Tryd.func23 Tryd.params24 fok24 Tryd.func24 Tryd.params25 fok25 Tryd.func25 Tryd.params26 fok26 Tryd.func26 Tryd.params27 fok27 Tryd.func27 Tryd.params28 fok28 Tryd.func28 Tryd.params29 fok29 Tryd.func29 Tryd.params30 fok30 Tryd.func30 Tryd.params31 fok31 Tryd.func31 Tryd.params32 fok32 Tryd.func32 Tryd.params33 fok33 Tryd.func33 Tryd.params34 fok34 Tryd.func34 Tryd.params35 fok35 Tryd.func35 Tryd.params36 fok36 Tryd.func36 Tryd.params37 fok37 Tryd.func37 Tryd.params38 fok38 Tryd.func38 Tryd.params39 fok39 Tryd.func39 Tryd.params40 fok40 Tryd.func40 Tryd.params41 fok41 Tryd.func41 Tryd.params42 fok42 Tryd.func42 Tryd.params43 fok43 Tryd.func43 Tryd.params44 fok44 Tryd.func44 Tryd.params45 fok45 Tryd.func45 Tryd.params46 fok46 Tryd.func46 Tryd.params47 fok47 Tryd.func47 Tryd.params48 fok48 Tryd.func48 Tryd.params49 fok49 Tryd.func49 Tryd.params50 fok50 Tryd.func50 Tryd.params51 fok51 Tryd.func51 Tryd.params52 fok52 Tryd.func52 Tryd.params53 fok53 Tryd.func53 Tryd.params54 fok54 Tryd.func54 Tryd.params55 fok55 Tryd.func55 Tryd.params56 fok56 Tryd.func56 Tryd.params57 fok57 Tryd.func57 Tryd.params58 fok58 Tryd.func58 Tryd.params59 fok59 Tryd.func59 Tryd.params60 fok60 Tryd.func60 Tryd.params61 fok61 Tryd.func61 Tryd.params62 fok62 Tryd.func62 Tryd.params63 fok63 Tryd.func63 Tryd.params64 fok64 Tryd.func64 Tryd.params65 fok65 Tryd.func65 Tryd.params66 fok66 Tryd.func66 Tryd.params67 fok67 Tryd.func67 Tryd.params68 fok68 Tryd.func68 Tryd.params69 fok69 Tryd.func69 Tryd.params70 fok70 Tryd.func70 Tryd.params71 fok71 Tryd.func71 Tryd.params72 fok72 Tryd.func72 Tryd.params73 fok73 Tryd.func73 Tryd.params74 fok74 Tryd.func74 Tryd.params75 fok75 Tryd.func75 Tryd.params76 fok76 Tryd.func76 Tryd.params77 fok77 Tryd.func77 Tryd.params78 fok78 Tryd.func78 Tryd.params79 fok79 Tryd.func79 Tryd.params80 fok80 Tryd.func80 Tryd.params81 fok81 Tryd.func81 Tryd.params82 fok82 Tryd.func82 Tryd.params83 fok83 Tryd.func83 Tryd.params84 fok84 Tryd.func84 Tryd.params85 fok85 Tryd.func85 Tryd.params86 fok86 Tryd.func86 Tryd.params87 fok87 Tryd.func87 Tryd.params88 fok88 Tryd.func88 Tryd.params89 fok89 Tryd.func89 Tryd.params90 fok90 Tryd.func90 Tryd.params91 fok91 Tryd.func91 Tryd.params92 fok92 Tryd.func92 Tryd.params93 fok93 Tryd.func93 Tryd.params94 fok94 Tryd.func94 Tryd.params95 fok95 Tryd.func95 Tryd.params96 fok96 Tryd.func96 Tryd.params97 fok97 Tryd.func97 Tryd.params98 fok98 Tryd.func98 Tryd.params99 fok99 Tryd.func99 Tryd.params100 fok100 Tryd.func100 Tryd.params101 fok101 Tryd.func101 Tryd.params102 fok102 Tryd.func102 Tryd.params103 fok103 Tryd.func103 Tryd.params104 fok104 Tryd.func104 Tryd.params105 fok105 Tryd.func105 Tryd.params106 fok106 Tryd.func106 Tryd.params107 fok107 Tryd.func107 Tryd.params108 fok108 Tryd.func108 Tryd.params109 fok109 Tryd.func109 Tryd.params110 fok110 Tryd.func110 Tryd.params111 fok111 Tryd.func111 Tryd.params112 fok112 Tryd.func112 Tryd.params113 fok113 Tryd.func113 Tryd.params114 fok114 Tryd.func114 Tryd.params115 fok115 Tryd.func115 Tryd.params116 fok116 Tryd.func116 Tryd.params117 fok117 Tryd.func117 Tryd.params118 fok118 Tryd.func118 Tryd.params119 fok119 Tryd.func119 Tryd.params120 fok120 Tryd.func120 Tryd.params121 fok121 Tryd.func121 Tryd.params122 fok122 Tryd.func122 Tryd.params123 fok123 Tryd.func123 Tryd.params124 fok124 Tryd.func124 Tryd.params125 fok125 Tryd.func125 Tryd.params126 fok126 Tryd.func126 Tryd.params127 fok127 Tryd.func127 Tryd.params128 fok128 Tryd.func128 Tryd.params129 fok129 Tryd.func129 Tryd.params130 fok130 Tryd.func130 Tryd.params131 fok131 Tryd.func131 Tryd.params132 fok132 Tryd.func132 Tryd.params133 fok133 Tryd.func133 Tryd.params134 fok134 Tryd.func134 Tryd.params135 fok135 Tryd.func135 Tryd.params136 fok136 Tryd.func136 Tryd.params137 fok137 Tryd.func137 Tryd.params138 fok138 Tryd.func138 Tryd.params139 fok139 Tryd.func139 Tryd.params140 fok140 Tryd.func140 Tryd.params141 fok141 Tryd.func141 Tryd.params142 fok142 Tryd.func142 Tryd.params143 fok143 Tryd.func143 Tryd.params144 fok144 Tryd.func144 Tryd.params145 fok145 Tryd.func145 Tryd.params146 fok146 Tryd.func146 Tryd.params147 fok147 Tryd.func147 Tryd.params148 fok148 Tryd.func148 Tryd.params149 fok149 Tryd.func149 Tryd.params150 fok150 Tryd.func150 Tryd.params151 fok151 Tryd.func151 Tryd.params152 fok152 Tryd.func152 Tryd.params153 fok153 Tryd.func153 Tryd.params154 fok154 Tryd.func154 Tryd.params155 fok155 Tryd.func155 Tryd.params156 fok156 Tryd.func156 Tryd.params157 fok157 Tryd.func157 Tryd.params158 fok158 Tryd.func158 Tryd.params159 fok159 Tryd.func159 Tryd.params160 fok160 Tryd.func160 Tryd.params161 fok161 Tryd.func161 Tryd.params162 fok162 Tryd.func162 Tryd.params163 fok163 Tryd.func163 Tryd.params164 fok164 Tryd.func164 Tryd.params165 fok165 Tryd.func165 Tryd.params166 fok166 Tryd.func166 Tryd.params167 fok167 Tryd.func167 Tryd.params168 fok168 Tryd.func168 Tryd.params169 fok169 Tryd.func169 Tryd.params170 fok170 Tryd.func170 Tryd.params171 fok171 Tryd.func171 Tryd.params172 fok172 Tryd.func172 Tryd.params173 fok173 Tryd.func173 Tryd.params174 fok174 Tryd.func174 Tryd.params175 fok175 Tryd.func175 Tryd.params176 fok176 Tryd.func176 Tryd.params177 fok177 Tryd.func177 Tryd.params178 fok178 Tryd.func178 Tryd.params179 fok179 Tryd.func179 Tryd.params180 fok180 Tryd.func180 Tryd.params181 fok181 Tryd.func181 Tryd.params182 fok182 Tryd.func182 Tryd.params183 fok183 Tryd.func183 Tryd.params184 fok184 Tryd.func184 Tryd.params185 fok185 Tryd.func185 Tryd.params186 fok186 Tryd.func186 Tryd.params187 fok187 Tryd.func187 Tryd.params188 fok188 Tryd.func188 Tryd.params189 fok189 Tryd.func189 Tryd.params190 fok190 Tryd.func190 Tryd.params191 fok191 Tryd.func191 Tryd.params192 fok192 Tryd.func192 Tryd.params193 fok193 Tryd.func193 Tryd.params194 fok194 Tryd.func194 Tryd.params195 fok195 Tryd.func195 Tryd.params196 fok196 Tryd.func196 Tryd.params197 fok197 Tryd.func197 Tryd.params198 fok198 Tryd.func198 Tryd.params199 fok199 Tryd.func199 Tryd.params200 fok200 Tryd.func200 Tryd.params201 fok201 Tryd.func201 Tryd.params202 fok202 Tryd.func202 Tryd.params203 fok203 Tryd.func203 Tryd.params204 fok204 Tryd.func204 Tryd.params205 fok205 Tryd.func205 Tryd.params206 fok206 Tryd.func206 Tryd.params207 fok207 Tryd.func207 Tryd.params224 fok224 Tryd.func224 Tryd.params225 fok225 Tryd.func225 Tryd.params233 fok233 Tryd.func233

end Go.Proofs.YtngghkoghbpceaaDoor

