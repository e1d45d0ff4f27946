/-
  The types of this seat, as the abstract view asks for them.
  Conditions: none.
-/
import Derived.Test.YtebmmecpcgnnkaaProg
import Derived.Test.YtebmmecpcgnnkaaKC2
import Derived.KernelRfl
namespace Go.Proofs.Ytebmmecpcgnnkaa
set_option linter.unusedVariables false

theorem ty_ag1 : aggT Try.prog 1 = some false := by kernel_rfl
theorem ty_sz1 : szT Try.prog 1 = some 1 := by kernel_rfl
theorem ty_int1 : intT Try.prog 1 = none := by kernel_rfl
theorem ty_ifc1 : ifaceT Try.prog 1 = false := by kernel_rfl
theorem ty_bool1 : boolT Try.prog 1 = false := by kernel_rfl
theorem ty_z1 : zeroT Try.prog 1 = some [.nilFunc] := by kernel_rfl
theorem ty_ag2 : aggT Try.prog 2 = some false := by kernel_rfl
theorem ty_sz2 : szT Try.prog 2 = some 1 := by kernel_rfl
theorem ty_int2 : intT Try.prog 2 = some .i64 := by kernel_rfl
theorem ty_ifc2 : ifaceT Try.prog 2 = false := by kernel_rfl
theorem ty_bool2 : boolT Try.prog 2 = false := by kernel_rfl
theorem ty_z2 : zeroT Try.prog 2 = some [.int .i64 (0)] := by kernel_rfl
theorem ty_ag3 : aggT Try.prog 3 = some false := by kernel_rfl
theorem ty_sz3 : szT Try.prog 3 = some 1 := by kernel_rfl
theorem ty_int3 : intT Try.prog 3 = some .i64 := by kernel_rfl
theorem ty_ifc3 : ifaceT Try.prog 3 = false := by kernel_rfl
theorem ty_bool3 : boolT Try.prog 3 = false := by kernel_rfl
theorem ty_z3 : zeroT Try.prog 3 = some [.int .i64 (0)] := by kernel_rfl
theorem ty_ag4 : aggT Try.prog 4 = some false := by kernel_rfl
theorem ty_sz4 : szT Try.prog 4 = some 1 := by kernel_rfl
theorem ty_int4 : intT Try.prog 4 = none := by kernel_rfl
theorem ty_ifc4 : ifaceT Try.prog 4 = false := by kernel_rfl
theorem ty_bool4 : boolT Try.prog 4 = true := by kernel_rfl
theorem ty_z4 : zeroT Try.prog 4 = some [.bool false] := by kernel_rfl
theorem ty_ag5 : aggT Try.prog 5 = some false := by kernel_rfl
theorem ty_sz5 : szT Try.prog 5 = some 1 := by kernel_rfl
theorem ty_int5 : intT Try.prog 5 = some .u8 := by kernel_rfl
theorem ty_ifc5 : ifaceT Try.prog 5 = false := by kernel_rfl
theorem ty_bool5 : boolT Try.prog 5 = false := by kernel_rfl
theorem ty_z5 : zeroT Try.prog 5 = some [.int .u8 (0)] := by kernel_rfl
theorem ty_ag6 : aggT Try.prog 6 = some false := by kernel_rfl
theorem ty_sz6 : szT Try.prog 6 = some 1 := by kernel_rfl
theorem ty_int6 : intT Try.prog 6 = some .u8 := by kernel_rfl
theorem ty_ifc6 : ifaceT Try.prog 6 = false := by kernel_rfl
theorem ty_bool6 : boolT Try.prog 6 = false := by kernel_rfl
theorem ty_z6 : zeroT Try.prog 6 = some [.int .u8 (0)] := by kernel_rfl
theorem ty_ag7 : aggT Try.prog 7 = some true := by kernel_rfl
theorem ty_sz7 : szT Try.prog 7 = some 4 := by kernel_rfl
theorem ty_int7 : intT Try.prog 7 = none := by kernel_rfl
theorem ty_eq7 : eqT Try.prog 7 = some [true, true, false, true] := by kernel_rfl
theorem ty_ifc7 : ifaceT Try.prog 7 = false := by kernel_rfl
theorem ty_bool7 : boolT Try.prog 7 = false := by kernel_rfl
theorem ty_f7_0 : fieldT Try.prog 7 0 = some (0, 1, false) := by kernel_rfl
theorem ty_f7_1 : fieldT Try.prog 7 1 = some (1, 1, false) := by kernel_rfl
theorem ty_f7_2 : fieldT Try.prog 7 2 = some (2, 1, false) := by kernel_rfl
theorem ty_f7_3 : fieldT Try.prog 7 3 = some (3, 1, false) := by kernel_rfl
theorem ty_pl7 : placeT Try.prog 7 = some (fun i => #[(0, 1), (1, 1), (2, 1), (3, 1)][i]?) := by kernel_rfl
theorem ty_z7 : zeroT Try.prog 7 = some [.int .i64 (0), .int .i64 (0), .bool false, .int .u8 (0)] := by kernel_rfl
theorem ty_ag8 : aggT Try.prog 8 = some true := by kernel_rfl
theorem ty_sz8 : szT Try.prog 8 = some 4 := by kernel_rfl
theorem ty_int8 : intT Try.prog 8 = none := by kernel_rfl
theorem ty_eq8 : eqT Try.prog 8 = some [true, true, false, true] := by kernel_rfl
theorem ty_ifc8 : ifaceT Try.prog 8 = false := by kernel_rfl
theorem ty_m8_0 : methA Try.prog 8 "Error" = some 113 := by kernel_rfl
theorem ty_k8_0 : nilOk Try.prog 8 "Error" = true := by kernel_rfl
theorem ty_m8_1 : methA Try.prog 8 "RuntimeError" = some 114 := by kernel_rfl
theorem ty_k8_1 : nilOk Try.prog 8 "RuntimeError" = true := by kernel_rfl
theorem ty_bool8 : boolT Try.prog 8 = false := by kernel_rfl
theorem ty_f8_0 : fieldT Try.prog 8 0 = some (0, 1, false) := by kernel_rfl
theorem ty_f8_1 : fieldT Try.prog 8 1 = some (1, 1, false) := by kernel_rfl
theorem ty_f8_2 : fieldT Try.prog 8 2 = some (2, 1, false) := by kernel_rfl
theorem ty_f8_3 : fieldT Try.prog 8 3 = some (3, 1, false) := by kernel_rfl
theorem ty_pl8 : placeT Try.prog 8 = some (fun i => #[(0, 1), (1, 1), (2, 1), (3, 1)][i]?) := by kernel_rfl
theorem ty_z8 : zeroT Try.prog 8 = some [.int .i64 (0), .int .i64 (0), .bool false, .int .u8 (0)] := by kernel_rfl
theorem ty_ag9 : aggT Try.prog 9 = some false := by kernel_rfl
theorem ty_sz9 : szT Try.prog 9 = some 1 := by kernel_rfl
theorem ty_int9 : intT Try.prog 9 = none := by kernel_rfl
theorem ty_ifc9 : ifaceT Try.prog 9 = false := by kernel_rfl
theorem ty_bool9 : boolT Try.prog 9 = false := by kernel_rfl
theorem ty_z9 : zeroT Try.prog 9 = some [.string ⟨#[]⟩] := by kernel_rfl
theorem ty_ag10 : aggT Try.prog 10 = some false := by kernel_rfl
theorem ty_sz10 : szT Try.prog 10 = some 1 := by kernel_rfl
theorem ty_int10 : intT Try.prog 10 = none := by kernel_rfl
theorem ty_ifc10 : ifaceT Try.prog 10 = false := by kernel_rfl
theorem ty_m10_0 : methA Try.prog 10 "Error" = some 115 := by kernel_rfl
theorem ty_k10_0 : nilOk Try.prog 10 "Error" = true := by kernel_rfl
theorem ty_m10_1 : methA Try.prog 10 "RuntimeError" = some 116 := by kernel_rfl
theorem ty_k10_1 : nilOk Try.prog 10 "RuntimeError" = true := by kernel_rfl
theorem ty_bool10 : boolT Try.prog 10 = false := by kernel_rfl
theorem ty_z10 : zeroT Try.prog 10 = some [.string ⟨#[]⟩] := by kernel_rfl
theorem ty_ag11 : aggT Try.prog 11 = some false := by kernel_rfl
theorem ty_sz11 : szT Try.prog 11 = some 1 := by kernel_rfl
theorem ty_int11 : intT Try.prog 11 = none := by kernel_rfl
theorem ty_ifc11 : ifaceT Try.prog 11 = false := by kernel_rfl
theorem ty_m11_0 : methA Try.prog 11 "Error" = some 117 := by kernel_rfl
theorem ty_k11_0 : nilOk Try.prog 11 "Error" = true := by kernel_rfl
theorem ty_m11_1 : methA Try.prog 11 "RuntimeError" = some 118 := by kernel_rfl
theorem ty_k11_1 : nilOk Try.prog 11 "RuntimeError" = true := by kernel_rfl
theorem ty_bool11 : boolT Try.prog 11 = false := by kernel_rfl
theorem ty_z11 : zeroT Try.prog 11 = some [.string ⟨#[]⟩] := by kernel_rfl
theorem ty_ag12 : aggT Try.prog 12 = some false := by kernel_rfl
theorem ty_sz12 : szT Try.prog 12 = some 1 := by kernel_rfl
theorem ty_int12 : intT Try.prog 12 = some .u64 := by kernel_rfl
theorem ty_ifc12 : ifaceT Try.prog 12 = false := by kernel_rfl
theorem ty_bool12 : boolT Try.prog 12 = false := by kernel_rfl
theorem ty_z12 : zeroT Try.prog 12 = some [.int .u64 (0)] := by kernel_rfl
theorem ty_ag13 : aggT Try.prog 13 = some true := by kernel_rfl
theorem ty_sz13 : szT Try.prog 13 = some 2 := by kernel_rfl
theorem ty_int13 : intT Try.prog 13 = none := by kernel_rfl
theorem ty_ifc13 : ifaceT Try.prog 13 = false := by kernel_rfl
theorem ty_bool13 : boolT Try.prog 13 = false := by kernel_rfl
theorem ty_f13_0 : fieldT Try.prog 13 0 = some (0, 1, false) := by kernel_rfl
theorem ty_f13_1 : fieldT Try.prog 13 1 = some (1, 1, false) := by kernel_rfl
theorem ty_pl13 : placeT Try.prog 13 = some (fun i => #[(0, 1), (1, 1)][i]?) := by kernel_rfl
theorem ty_z13 : zeroT Try.prog 13 = some [.string ⟨#[]⟩, .int .u64 (0)] := by kernel_rfl
theorem ty_ag14 : aggT Try.prog 14 = some true := by kernel_rfl
theorem ty_sz14 : szT Try.prog 14 = some 2 := by kernel_rfl
theorem ty_int14 : intT Try.prog 14 = none := by kernel_rfl
theorem ty_ifc14 : ifaceT Try.prog 14 = false := by kernel_rfl
theorem ty_m14_0 : methA Try.prog 14 "Error" = some 119 := by kernel_rfl
theorem ty_k14_0 : nilOk Try.prog 14 "Error" = true := by kernel_rfl
theorem ty_m14_1 : methA Try.prog 14 "RuntimeError" = some 120 := by kernel_rfl
theorem ty_k14_1 : nilOk Try.prog 14 "RuntimeError" = true := by kernel_rfl
theorem ty_bool14 : boolT Try.prog 14 = false := by kernel_rfl
theorem ty_f14_0 : fieldT Try.prog 14 0 = some (0, 1, false) := by kernel_rfl
theorem ty_f14_1 : fieldT Try.prog 14 1 = some (1, 1, false) := by kernel_rfl
theorem ty_pl14 : placeT Try.prog 14 = some (fun i => #[(0, 1), (1, 1)][i]?) := by kernel_rfl
theorem ty_z14 : zeroT Try.prog 14 = some [.string ⟨#[]⟩, .int .u64 (0)] := by kernel_rfl
theorem ty_ag15 : aggT Try.prog 15 = some false := by kernel_rfl
theorem ty_sz15 : szT Try.prog 15 = some 1 := by kernel_rfl
theorem ty_int15 : intT Try.prog 15 = none := by kernel_rfl
theorem ty_ifc15 : ifaceT Try.prog 15 = false := by kernel_rfl
theorem ty_m15_0 : methA Try.prog 15 "Error" = some 121 := by kernel_rfl
theorem ty_k15_0 : nilOk Try.prog 15 "Error" = true := by kernel_rfl
theorem ty_m15_1 : methA Try.prog 15 "RuntimeError" = some 122 := by kernel_rfl
theorem ty_k15_1 : nilOk Try.prog 15 "RuntimeError" = true := by kernel_rfl
theorem ty_bool15 : boolT Try.prog 15 = false := by kernel_rfl
theorem ty_z15 : zeroT Try.prog 15 = some [.pointer none] := by kernel_rfl
theorem ty_ag16 : aggT Try.prog 16 = some false := by kernel_rfl
theorem ty_sz16 : szT Try.prog 16 = some 1 := by kernel_rfl
theorem ty_int16 : intT Try.prog 16 = none := by kernel_rfl
theorem ty_ifc16 : ifaceT Try.prog 16 = false := by kernel_rfl
theorem ty_m16_0 : methA Try.prog 16 "Error" = some 123 := by kernel_rfl
theorem ty_k16_0 : nilOk Try.prog 16 "Error" = true := by kernel_rfl
theorem ty_m16_1 : methA Try.prog 16 "RuntimeError" = some 124 := by kernel_rfl
theorem ty_k16_1 : nilOk Try.prog 16 "RuntimeError" = true := by kernel_rfl
theorem ty_bool16 : boolT Try.prog 16 = false := by kernel_rfl
theorem ty_z16 : zeroT Try.prog 16 = some [.pointer none] := by kernel_rfl
theorem ty_ag17 : aggT Try.prog 17 = some false := by kernel_rfl
theorem ty_sz17 : szT Try.prog 17 = some 1 := by kernel_rfl
theorem ty_int17 : intT Try.prog 17 = none := by kernel_rfl
theorem ty_ifc17 : ifaceT Try.prog 17 = false := by kernel_rfl
theorem ty_m17_0 : methA Try.prog 17 "Align" = some 125 := by kernel_rfl
theorem ty_k17_0 : nilOk Try.prog 17 "Align" = true := by kernel_rfl
theorem ty_bool17 : boolT Try.prog 17 = false := by kernel_rfl
theorem ty_z17 : zeroT Try.prog 17 = some [.pointer none] := by kernel_rfl
theorem ty_ag18 : aggT Try.prog 18 = some true := by kernel_rfl
theorem ty_sz18 : szT Try.prog 18 = some 1 := by kernel_rfl
theorem ty_int18 : intT Try.prog 18 = none := by kernel_rfl
theorem ty_ifc18 : ifaceT Try.prog 18 = false := by kernel_rfl
theorem ty_bool18 : boolT Try.prog 18 = false := by kernel_rfl
theorem ty_f18_0 : fieldT Try.prog 18 0 = some (0, 1, false) := by kernel_rfl
theorem ty_pl18 : placeT Try.prog 18 = some (fun i => #[(0, 1)][i]?) := by kernel_rfl
theorem ty_z18 : zeroT Try.prog 18 = some [.pointer none] := by kernel_rfl
theorem ty_ag19 : aggT Try.prog 19 = some true := by kernel_rfl
theorem ty_sz19 : szT Try.prog 19 = some 1 := by kernel_rfl
theorem ty_int19 : intT Try.prog 19 = none := by kernel_rfl
theorem ty_ifc19 : ifaceT Try.prog 19 = false := by kernel_rfl
theorem ty_m19_0 : methA Try.prog 19 "Error" = some 126 := by kernel_rfl
theorem ty_k19_0 : nilOk Try.prog 19 "Error" = true := by kernel_rfl
theorem ty_m19_1 : methA Try.prog 19 "RuntimeError" = some 127 := by kernel_rfl
theorem ty_k19_1 : nilOk Try.prog 19 "RuntimeError" = true := by kernel_rfl
theorem ty_bool19 : boolT Try.prog 19 = false := by kernel_rfl
theorem ty_f19_0 : fieldT Try.prog 19 0 = some (0, 1, false) := by kernel_rfl
theorem ty_pl19 : placeT Try.prog 19 = some (fun i => #[(0, 1)][i]?) := by kernel_rfl
theorem ty_z19 : zeroT Try.prog 19 = some [.pointer none] := by kernel_rfl
theorem ty_ag20 : aggT Try.prog 20 = some false := by kernel_rfl
theorem ty_sz20 : szT Try.prog 20 = some 1 := by kernel_rfl
theorem ty_int20 : intT Try.prog 20 = none := by kernel_rfl
theorem ty_ifc20 : ifaceT Try.prog 20 = true := by kernel_rfl
theorem ty_bool20 : boolT Try.prog 20 = false := by kernel_rfl
theorem ty_z20 : zeroT Try.prog 20 = some [.nilIface] := by kernel_rfl
theorem ty_ag21 : aggT Try.prog 21 = some false := by kernel_rfl
theorem ty_sz21 : szT Try.prog 21 = some 1 := by kernel_rfl
theorem ty_int21 : intT Try.prog 21 = some .i32 := by kernel_rfl
theorem ty_ifc21 : ifaceT Try.prog 21 = false := by kernel_rfl
theorem ty_bool21 : boolT Try.prog 21 = false := by kernel_rfl
theorem ty_z21 : zeroT Try.prog 21 = some [.int .i32 (0)] := by kernel_rfl
theorem ty_ag22 : aggT Try.prog 22 = some false := by kernel_rfl
theorem ty_sz22 : szT Try.prog 22 = some 1 := by kernel_rfl
theorem ty_int22 : intT Try.prog 22 = none := by kernel_rfl
theorem ty_ifc22 : ifaceT Try.prog 22 = false := by kernel_rfl
theorem ty_bool22 : boolT Try.prog 22 = false := by kernel_rfl
theorem ty_elem22 : elemT Try.prog 22 = some (23, 1, false) := by kernel_rfl
theorem ty_app22 : appT Try.prog 22 = some (23, 1, 24) := by kernel_rfl
theorem ty_z22 : zeroT Try.prog 22 = some [.slice none 0 0] := by kernel_rfl
theorem ty_ag23 : aggT Try.prog 23 = some false := by kernel_rfl
theorem ty_sz23 : szT Try.prog 23 = some 1 := by kernel_rfl
theorem ty_int23 : intT Try.prog 23 = none := by kernel_rfl
theorem ty_ifc23 : ifaceT Try.prog 23 = false := by kernel_rfl
theorem ty_bool23 : boolT Try.prog 23 = false := by kernel_rfl
theorem ty_elem23 : elemT Try.prog 23 = some (5, 1, false) := by kernel_rfl
theorem ty_app23 : appT Try.prog 23 = some (5, 1, 1) := by kernel_rfl
theorem ty_z23 : zeroT Try.prog 23 = some [.slice none 0 0] := by kernel_rfl
theorem ty_ag24 : aggT Try.prog 24 = some false := by kernel_rfl
theorem ty_sz24 : szT Try.prog 24 = some 1 := by kernel_rfl
theorem ty_int24 : intT Try.prog 24 = none := by kernel_rfl
theorem ty_ifc24 : ifaceT Try.prog 24 = false := by kernel_rfl
theorem ty_bool24 : boolT Try.prog 24 = false := by kernel_rfl
theorem ty_elem24 : elemT Try.prog 24 = some (5, 1, false) := by kernel_rfl
theorem ty_app24 : appT Try.prog 24 = some (5, 1, 1) := by kernel_rfl
theorem ty_z24 : zeroT Try.prog 24 = some [.slice none 0 0] := by kernel_rfl
theorem ty_ag25 : aggT Try.prog 25 = some false := by kernel_rfl
theorem ty_sz25 : szT Try.prog 25 = some 1 := by kernel_rfl
theorem ty_int25 : intT Try.prog 25 = none := by kernel_rfl
theorem ty_ifc25 : ifaceT Try.prog 25 = false := by kernel_rfl
theorem ty_bool25 : boolT Try.prog 25 = false := by kernel_rfl
theorem ty_z25 : zeroT Try.prog 25 = some [.nilFunc] := by kernel_rfl
theorem ty_ag26 : aggT Try.prog 26 = some true := by kernel_rfl
theorem ty_sz26 : szT Try.prog 26 = some 2 := by kernel_rfl
theorem ty_int26 : intT Try.prog 26 = none := by kernel_rfl
theorem ty_ifc26 : ifaceT Try.prog 26 = false := by kernel_rfl
theorem ty_bool26 : boolT Try.prog 26 = false := by kernel_rfl
theorem ty_f26_0 : fieldT Try.prog 26 0 = some (0, 1, false) := by kernel_rfl
theorem ty_f26_1 : fieldT Try.prog 26 1 = some (1, 1, false) := by kernel_rfl
theorem ty_pl26 : placeT Try.prog 26 = some (fun i => #[(0, 1), (1, 1)][i]?) := by kernel_rfl
theorem ty_z26 : zeroT Try.prog 26 = some [.bool false, .slice none 0 0] := by kernel_rfl
theorem ty_ag27 : aggT Try.prog 27 = some true := by kernel_rfl
theorem ty_sz27 : szT Try.prog 27 = some 2 := by kernel_rfl
theorem ty_int27 : intT Try.prog 27 = none := by kernel_rfl
theorem ty_ifc27 : ifaceT Try.prog 27 = false := by kernel_rfl
theorem ty_bool27 : boolT Try.prog 27 = false := by kernel_rfl
theorem ty_f27_0 : fieldT Try.prog 27 0 = some (0, 1, false) := by kernel_rfl
theorem ty_f27_1 : fieldT Try.prog 27 1 = some (1, 1, false) := by kernel_rfl
theorem ty_pl27 : placeT Try.prog 27 = some (fun i => #[(0, 1), (1, 1)][i]?) := by kernel_rfl
theorem ty_z27 : zeroT Try.prog 27 = some [.bool false, .slice none 0 0] := by kernel_rfl
theorem ty_ag28 : aggT Try.prog 28 = some false := by kernel_rfl
theorem ty_sz28 : szT Try.prog 28 = some 1 := by kernel_rfl
theorem ty_int28 : intT Try.prog 28 = some .i64 := by kernel_rfl
theorem ty_ifc28 : ifaceT Try.prog 28 = false := by kernel_rfl
theorem ty_bool28 : boolT Try.prog 28 = false := by kernel_rfl
theorem ty_z28 : zeroT Try.prog 28 = some [.int .i64 (0)] := by kernel_rfl
theorem ty_ag30 : aggT Try.prog 30 = some false := by kernel_rfl
theorem ty_sz30 : szT Try.prog 30 = some 1 := by kernel_rfl
theorem ty_int30 : intT Try.prog 30 = none := by kernel_rfl
theorem ty_ifc30 : ifaceT Try.prog 30 = false := by kernel_rfl
theorem ty_bool30 : boolT Try.prog 30 = false := by kernel_rfl
theorem ty_z30 : zeroT Try.prog 30 = some [.nilFunc] := by kernel_rfl
theorem ty_ag31 : aggT Try.prog 31 = some false := by kernel_rfl
theorem ty_sz31 : szT Try.prog 31 = some 1 := by kernel_rfl
theorem ty_int31 : intT Try.prog 31 = none := by kernel_rfl
theorem ty_ifc31 : ifaceT Try.prog 31 = false := by kernel_rfl
theorem ty_m31_0 : methA Try.prog 31 "Hear" = some 128 := by kernel_rfl
theorem ty_k31_0 : nilOk Try.prog 31 "Hear" = true := by kernel_rfl
theorem ty_bool31 : boolT Try.prog 31 = false := by kernel_rfl
theorem ty_z31 : zeroT Try.prog 31 = some [.pointer none] := by kernel_rfl
theorem ty_ag32 : aggT Try.prog 32 = some true := by kernel_rfl
theorem ty_sz32 : szT Try.prog 32 = some 2 := by kernel_rfl
theorem ty_int32 : intT Try.prog 32 = none := by kernel_rfl
theorem ty_ifc32 : ifaceT Try.prog 32 = false := by kernel_rfl
theorem ty_bool32 : boolT Try.prog 32 = false := by kernel_rfl
theorem ty_f32_0 : fieldT Try.prog 32 0 = some (0, 1, false) := by kernel_rfl
theorem ty_f32_1 : fieldT Try.prog 32 1 = some (1, 1, false) := by kernel_rfl
theorem ty_pl32 : placeT Try.prog 32 = some (fun i => #[(0, 1), (1, 1)][i]?) := by kernel_rfl
theorem ty_z32 : zeroT Try.prog 32 = some [.bool false, .slice none 0 0] := by kernel_rfl
theorem ty_ag33 : aggT Try.prog 33 = some true := by kernel_rfl
theorem ty_sz33 : szT Try.prog 33 = some 2 := by kernel_rfl
theorem ty_int33 : intT Try.prog 33 = none := by kernel_rfl
theorem ty_ifc33 : ifaceT Try.prog 33 = false := by kernel_rfl
theorem ty_bool33 : boolT Try.prog 33 = false := by kernel_rfl
theorem ty_f33_0 : fieldT Try.prog 33 0 = some (0, 1, false) := by kernel_rfl
theorem ty_f33_1 : fieldT Try.prog 33 1 = some (1, 1, false) := by kernel_rfl
theorem ty_pl33 : placeT Try.prog 33 = some (fun i => #[(0, 1), (1, 1)][i]?) := by kernel_rfl
theorem ty_z33 : zeroT Try.prog 33 = some [.bool false, .slice none 0 0] := by kernel_rfl
theorem ty_ag34 : aggT Try.prog 34 = some true := by kernel_rfl
theorem ty_sz34 : szT Try.prog 34 = some 3 := by kernel_rfl
theorem ty_int34 : intT Try.prog 34 = none := by kernel_rfl
theorem ty_ifc34 : ifaceT Try.prog 34 = false := by kernel_rfl
theorem ty_bool34 : boolT Try.prog 34 = false := by kernel_rfl
theorem ty_f34_0 : fieldT Try.prog 34 0 = some (0, 2, true) := by kernel_rfl
theorem ty_f34_1 : fieldT Try.prog 34 1 = some (2, 1, false) := by kernel_rfl
theorem ty_pl34 : placeT Try.prog 34 = some (fun i => #[(0, 2), (2, 1)][i]?) := by kernel_rfl
theorem ty_z34 : zeroT Try.prog 34 = some [.bool false, .slice none 0 0, .bool false] := by kernel_rfl
theorem ty_ag35 : aggT Try.prog 35 = some true := by kernel_rfl
theorem ty_sz35 : szT Try.prog 35 = some 3 := by kernel_rfl
theorem ty_int35 : intT Try.prog 35 = none := by kernel_rfl
theorem ty_ifc35 : ifaceT Try.prog 35 = false := by kernel_rfl
theorem ty_bool35 : boolT Try.prog 35 = false := by kernel_rfl
theorem ty_f35_0 : fieldT Try.prog 35 0 = some (0, 2, true) := by kernel_rfl
theorem ty_f35_1 : fieldT Try.prog 35 1 = some (2, 1, false) := by kernel_rfl
theorem ty_pl35 : placeT Try.prog 35 = some (fun i => #[(0, 2), (2, 1)][i]?) := by kernel_rfl
theorem ty_z35 : zeroT Try.prog 35 = some [.bool false, .slice none 0 0, .bool false] := by kernel_rfl
theorem ty_ag36 : aggT Try.prog 36 = some false := by kernel_rfl
theorem ty_sz36 : szT Try.prog 36 = some 1 := by kernel_rfl
theorem ty_int36 : intT Try.prog 36 = none := by kernel_rfl
theorem ty_ifc36 : ifaceT Try.prog 36 = false := by kernel_rfl
theorem ty_m36_0 : methA Try.prog 36 "Left" = some 131 := by kernel_rfl
theorem ty_k36_0 : nilOk Try.prog 36 "Left" = true := by kernel_rfl
theorem ty_m36_1 : methA Try.prog 36 "Next" = some 132 := by kernel_rfl
theorem ty_k36_1 : nilOk Try.prog 36 "Next" = true := by kernel_rfl
theorem ty_bool36 : boolT Try.prog 36 = false := by kernel_rfl
theorem ty_z36 : zeroT Try.prog 36 = some [.pointer none] := by kernel_rfl
theorem ty_ag37 : aggT Try.prog 37 = some false := by kernel_rfl
theorem ty_sz37 : szT Try.prog 37 = some 1 := by kernel_rfl
theorem ty_int37 : intT Try.prog 37 = none := by kernel_rfl
theorem ty_ifc37 : ifaceT Try.prog 37 = false := by kernel_rfl
theorem ty_bool37 : boolT Try.prog 37 = false := by kernel_rfl
theorem ty_z37 : zeroT Try.prog 37 = some [.nilFunc] := by kernel_rfl
theorem ty_ag39 : aggT Try.prog 39 = some false := by kernel_rfl
theorem ty_sz39 : szT Try.prog 39 = some 1 := by kernel_rfl
theorem ty_int39 : intT Try.prog 39 = none := by kernel_rfl
theorem ty_ifc39 : ifaceT Try.prog 39 = false := by kernel_rfl
theorem ty_bool39 : boolT Try.prog 39 = false := by kernel_rfl
theorem ty_z39 : zeroT Try.prog 39 = some [.nilFunc] := by kernel_rfl
theorem ty_ag40 : aggT Try.prog 40 = some false := by kernel_rfl
theorem ty_sz40 : szT Try.prog 40 = some 1 := by kernel_rfl
theorem ty_int40 : intT Try.prog 40 = some .u8 := by kernel_rfl
theorem ty_ifc40 : ifaceT Try.prog 40 = false := by kernel_rfl
theorem ty_bool40 : boolT Try.prog 40 = false := by kernel_rfl
theorem ty_z40 : zeroT Try.prog 40 = some [.int .u8 (0)] := by kernel_rfl
theorem ty_ag41 : aggT Try.prog 41 = some true := by kernel_rfl
theorem ty_sz41 : szT Try.prog 41 = some 2 := by kernel_rfl
theorem ty_int41 : intT Try.prog 41 = none := by kernel_rfl
theorem ty_ifc41 : ifaceT Try.prog 41 = false := by kernel_rfl
theorem ty_bool41 : boolT Try.prog 41 = false := by kernel_rfl
theorem ty_f41_0 : fieldT Try.prog 41 0 = some (0, 1, false) := by kernel_rfl
theorem ty_f41_1 : fieldT Try.prog 41 1 = some (1, 1, false) := by kernel_rfl
theorem ty_pl41 : placeT Try.prog 41 = some (fun i => #[(0, 1), (1, 1)][i]?) := by kernel_rfl
theorem ty_z41 : zeroT Try.prog 41 = some [.int .u8 (0), .slice none 0 0] := by kernel_rfl
theorem ty_ag42 : aggT Try.prog 42 = some true := by kernel_rfl
theorem ty_sz42 : szT Try.prog 42 = some 2 := by kernel_rfl
theorem ty_int42 : intT Try.prog 42 = none := by kernel_rfl
theorem ty_ifc42 : ifaceT Try.prog 42 = false := by kernel_rfl
theorem ty_bool42 : boolT Try.prog 42 = false := by kernel_rfl
theorem ty_f42_0 : fieldT Try.prog 42 0 = some (0, 1, false) := by kernel_rfl
theorem ty_f42_1 : fieldT Try.prog 42 1 = some (1, 1, false) := by kernel_rfl
theorem ty_pl42 : placeT Try.prog 42 = some (fun i => #[(0, 1), (1, 1)][i]?) := by kernel_rfl
theorem ty_z42 : zeroT Try.prog 42 = some [.int .u8 (0), .slice none 0 0] := by kernel_rfl
theorem ty_ag43 : aggT Try.prog 43 = some false := by kernel_rfl
theorem ty_sz43 : szT Try.prog 43 = some 1 := by kernel_rfl
theorem ty_int43 : intT Try.prog 43 = none := by kernel_rfl
theorem ty_ifc43 : ifaceT Try.prog 43 = false := by kernel_rfl
theorem ty_bool43 : boolT Try.prog 43 = false := by kernel_rfl
theorem ty_elem43 : elemT Try.prog 43 = some (138, 12, true) := by kernel_rfl
theorem ty_app43 : appT Try.prog 43 = some (138, 12, 48) := by kernel_rfl
theorem ty_z43 : zeroT Try.prog 43 = some [.slice none 0 0] := by kernel_rfl
theorem ty_ag45 : aggT Try.prog 45 = some false := by kernel_rfl
theorem ty_sz45 : szT Try.prog 45 = some 1 := by kernel_rfl
theorem ty_int45 : intT Try.prog 45 = none := by kernel_rfl
theorem ty_ifc45 : ifaceT Try.prog 45 = false := by kernel_rfl
theorem ty_bool45 : boolT Try.prog 45 = false := by kernel_rfl
theorem ty_z45 : zeroT Try.prog 45 = some [.nilFunc] := by kernel_rfl
theorem ty_ag46 : aggT Try.prog 46 = some false := by kernel_rfl
theorem ty_sz46 : szT Try.prog 46 = some 1 := by kernel_rfl
theorem ty_int46 : intT Try.prog 46 = some .u8 := by kernel_rfl
theorem ty_ifc46 : ifaceT Try.prog 46 = false := by kernel_rfl
theorem ty_bool46 : boolT Try.prog 46 = false := by kernel_rfl
theorem ty_z46 : zeroT Try.prog 46 = some [.int .u8 (0)] := by kernel_rfl
theorem ty_ag47 : aggT Try.prog 47 = some true := by kernel_rfl
theorem ty_sz47 : szT Try.prog 47 = some 7 := by kernel_rfl
theorem ty_int47 : intT Try.prog 47 = none := by kernel_rfl
theorem ty_ifc47 : ifaceT Try.prog 47 = false := by kernel_rfl
theorem ty_bool47 : boolT Try.prog 47 = false := by kernel_rfl
theorem ty_f47_0 : fieldT Try.prog 47 0 = some (0, 1, false) := by kernel_rfl
theorem ty_f47_1 : fieldT Try.prog 47 1 = some (1, 1, false) := by kernel_rfl
theorem ty_f47_2 : fieldT Try.prog 47 2 = some (2, 1, false) := by kernel_rfl
theorem ty_f47_3 : fieldT Try.prog 47 3 = some (3, 1, false) := by kernel_rfl
theorem ty_f47_4 : fieldT Try.prog 47 4 = some (4, 1, false) := by kernel_rfl
theorem ty_f47_5 : fieldT Try.prog 47 5 = some (5, 1, false) := by kernel_rfl
theorem ty_f47_6 : fieldT Try.prog 47 6 = some (6, 1, false) := by kernel_rfl
theorem ty_pl47 : placeT Try.prog 47 = some (fun i => #[(0, 1), (1, 1), (2, 1), (3, 1), (4, 1), (5, 1), (6, 1)][i]?) := by kernel_rfl
theorem ty_z47 : zeroT Try.prog 47 = some [.int .u8 (0), .int .u8 (0), .int .u8 (0), .bool false, .bool false, .int .i64 (0), .slice none 0 0] := by kernel_rfl
theorem ty_ag48 : aggT Try.prog 48 = some true := by kernel_rfl
theorem ty_sz48 : szT Try.prog 48 = some 7 := by kernel_rfl
theorem ty_int48 : intT Try.prog 48 = none := by kernel_rfl
theorem ty_ifc48 : ifaceT Try.prog 48 = false := by kernel_rfl
theorem ty_bool48 : boolT Try.prog 48 = false := by kernel_rfl
theorem ty_f48_0 : fieldT Try.prog 48 0 = some (0, 1, false) := by kernel_rfl
theorem ty_f48_1 : fieldT Try.prog 48 1 = some (1, 1, false) := by kernel_rfl
theorem ty_f48_2 : fieldT Try.prog 48 2 = some (2, 1, false) := by kernel_rfl
theorem ty_f48_3 : fieldT Try.prog 48 3 = some (3, 1, false) := by kernel_rfl
theorem ty_f48_4 : fieldT Try.prog 48 4 = some (4, 1, false) := by kernel_rfl
theorem ty_f48_5 : fieldT Try.prog 48 5 = some (5, 1, false) := by kernel_rfl
theorem ty_f48_6 : fieldT Try.prog 48 6 = some (6, 1, false) := by kernel_rfl
theorem ty_pl48 : placeT Try.prog 48 = some (fun i => #[(0, 1), (1, 1), (2, 1), (3, 1), (4, 1), (5, 1), (6, 1)][i]?) := by kernel_rfl
theorem ty_z48 : zeroT Try.prog 48 = some [.int .u8 (0), .int .u8 (0), .int .u8 (0), .bool false, .bool false, .int .i64 (0), .slice none 0 0] := by kernel_rfl
theorem ty_ag49 : aggT Try.prog 49 = some false := by kernel_rfl
theorem ty_sz49 : szT Try.prog 49 = some 1 := by kernel_rfl
theorem ty_int49 : intT Try.prog 49 = none := by kernel_rfl
theorem ty_ifc49 : ifaceT Try.prog 49 = false := by kernel_rfl
theorem ty_bool49 : boolT Try.prog 49 = false := by kernel_rfl
theorem ty_z49 : zeroT Try.prog 49 = some [.nilFunc] := by kernel_rfl
theorem ty_ag50 : aggT Try.prog 50 = some false := by kernel_rfl
theorem ty_sz50 : szT Try.prog 50 = some 1 := by kernel_rfl
theorem ty_int50 : intT Try.prog 50 = none := by kernel_rfl
theorem ty_ifc50 : ifaceT Try.prog 50 = false := by kernel_rfl
theorem ty_bool50 : boolT Try.prog 50 = false := by kernel_rfl
theorem ty_z50 : zeroT Try.prog 50 = some [.nilFunc] := by kernel_rfl
theorem ty_ag51 : aggT Try.prog 51 = some false := by kernel_rfl
theorem ty_sz51 : szT Try.prog 51 = some 1 := by kernel_rfl
theorem ty_int51 : intT Try.prog 51 = none := by kernel_rfl
theorem ty_ifc51 : ifaceT Try.prog 51 = false := by kernel_rfl
theorem ty_bool51 : boolT Try.prog 51 = false := by kernel_rfl
theorem ty_z51 : zeroT Try.prog 51 = some [.nilFunc] := by kernel_rfl
theorem ty_ag52 : aggT Try.prog 52 = some false := by kernel_rfl
theorem ty_sz52 : szT Try.prog 52 = some 1 := by kernel_rfl
theorem ty_int52 : intT Try.prog 52 = none := by kernel_rfl
theorem ty_ifc52 : ifaceT Try.prog 52 = false := by kernel_rfl
theorem ty_bool52 : boolT Try.prog 52 = false := by kernel_rfl
theorem ty_z52 : zeroT Try.prog 52 = some [.nilFunc] := by kernel_rfl
theorem ty_ag53 : aggT Try.prog 53 = some false := by kernel_rfl
theorem ty_sz53 : szT Try.prog 53 = some 1 := by kernel_rfl
theorem ty_int53 : intT Try.prog 53 = none := by kernel_rfl
theorem ty_ifc53 : ifaceT Try.prog 53 = false := by kernel_rfl
theorem ty_m53_0 : methA Try.prog 53 "Hear" = some 133 := by kernel_rfl
theorem ty_k53_0 : nilOk Try.prog 53 "Hear" = true := by kernel_rfl
theorem ty_bool53 : boolT Try.prog 53 = false := by kernel_rfl
theorem ty_z53 : zeroT Try.prog 53 = some [.pointer none] := by kernel_rfl
theorem ty_ag54 : aggT Try.prog 54 = some true := by kernel_rfl
theorem ty_sz54 : szT Try.prog 54 = some 3 := by kernel_rfl
theorem ty_int54 : intT Try.prog 54 = none := by kernel_rfl
theorem ty_ifc54 : ifaceT Try.prog 54 = false := by kernel_rfl
theorem ty_bool54 : boolT Try.prog 54 = false := by kernel_rfl
theorem ty_f54_0 : fieldT Try.prog 54 0 = some (0, 2, true) := by kernel_rfl
theorem ty_f54_1 : fieldT Try.prog 54 1 = some (2, 1, false) := by kernel_rfl
theorem ty_pl54 : placeT Try.prog 54 = some (fun i => #[(0, 2), (2, 1)][i]?) := by kernel_rfl
theorem ty_z54 : zeroT Try.prog 54 = some [.bool false, .slice none 0 0, .bool false] := by kernel_rfl
theorem ty_ag55 : aggT Try.prog 55 = some true := by kernel_rfl
theorem ty_sz55 : szT Try.prog 55 = some 3 := by kernel_rfl
theorem ty_int55 : intT Try.prog 55 = none := by kernel_rfl
theorem ty_ifc55 : ifaceT Try.prog 55 = false := by kernel_rfl
theorem ty_bool55 : boolT Try.prog 55 = false := by kernel_rfl
theorem ty_f55_0 : fieldT Try.prog 55 0 = some (0, 2, true) := by kernel_rfl
theorem ty_f55_1 : fieldT Try.prog 55 1 = some (2, 1, false) := by kernel_rfl
theorem ty_pl55 : placeT Try.prog 55 = some (fun i => #[(0, 2), (2, 1)][i]?) := by kernel_rfl
theorem ty_z55 : zeroT Try.prog 55 = some [.bool false, .slice none 0 0, .bool false] := by kernel_rfl
theorem ty_ag56 : aggT Try.prog 56 = some false := by kernel_rfl
theorem ty_sz56 : szT Try.prog 56 = some 1 := by kernel_rfl
theorem ty_int56 : intT Try.prog 56 = some .u16 := by kernel_rfl
theorem ty_ifc56 : ifaceT Try.prog 56 = false := by kernel_rfl
theorem ty_bool56 : boolT Try.prog 56 = false := by kernel_rfl
theorem ty_z56 : zeroT Try.prog 56 = some [.int .u16 (0)] := by kernel_rfl
theorem ty_ag57 : aggT Try.prog 57 = some true := by kernel_rfl
theorem ty_sz57 : szT Try.prog 57 = some 5 := by kernel_rfl
theorem ty_int57 : intT Try.prog 57 = none := by kernel_rfl
theorem ty_eq57 : eqT Try.prog 57 = some [true, true, true, true, true] := by kernel_rfl
theorem ty_ifc57 : ifaceT Try.prog 57 = false := by kernel_rfl
theorem ty_bool57 : boolT Try.prog 57 = false := by kernel_rfl
theorem ty_f57_0 : fieldT Try.prog 57 0 = some (0, 1, false) := by kernel_rfl
theorem ty_f57_1 : fieldT Try.prog 57 1 = some (1, 1, false) := by kernel_rfl
theorem ty_f57_2 : fieldT Try.prog 57 2 = some (2, 1, false) := by kernel_rfl
theorem ty_f57_3 : fieldT Try.prog 57 3 = some (3, 1, false) := by kernel_rfl
theorem ty_f57_4 : fieldT Try.prog 57 4 = some (4, 1, false) := by kernel_rfl
theorem ty_pl57 : placeT Try.prog 57 = some (fun i => #[(0, 1), (1, 1), (2, 1), (3, 1), (4, 1)][i]?) := by kernel_rfl
theorem ty_z57 : zeroT Try.prog 57 = some [.int .u8 (0), .int .u8 (0), .int .u16 (0), .int .u16 (0), .int .u16 (0)] := by kernel_rfl
theorem ty_ag58 : aggT Try.prog 58 = some true := by kernel_rfl
theorem ty_sz58 : szT Try.prog 58 = some 5 := by kernel_rfl
theorem ty_int58 : intT Try.prog 58 = none := by kernel_rfl
theorem ty_eq58 : eqT Try.prog 58 = some [true, true, true, true, true] := by kernel_rfl
theorem ty_ifc58 : ifaceT Try.prog 58 = false := by kernel_rfl
theorem ty_bool58 : boolT Try.prog 58 = false := by kernel_rfl
theorem ty_f58_0 : fieldT Try.prog 58 0 = some (0, 1, false) := by kernel_rfl
theorem ty_f58_1 : fieldT Try.prog 58 1 = some (1, 1, false) := by kernel_rfl
theorem ty_f58_2 : fieldT Try.prog 58 2 = some (2, 1, false) := by kernel_rfl
theorem ty_f58_3 : fieldT Try.prog 58 3 = some (3, 1, false) := by kernel_rfl
theorem ty_f58_4 : fieldT Try.prog 58 4 = some (4, 1, false) := by kernel_rfl
theorem ty_pl58 : placeT Try.prog 58 = some (fun i => #[(0, 1), (1, 1), (2, 1), (3, 1), (4, 1)][i]?) := by kernel_rfl
theorem ty_z58 : zeroT Try.prog 58 = some [.int .u8 (0), .int .u8 (0), .int .u16 (0), .int .u16 (0), .int .u16 (0)] := by kernel_rfl
theorem ty_ag59 : aggT Try.prog 59 = some false := by kernel_rfl
theorem ty_sz59 : szT Try.prog 59 = some 1 := by kernel_rfl
theorem ty_int59 : intT Try.prog 59 = none := by kernel_rfl
theorem ty_ifc59 : ifaceT Try.prog 59 = false := by kernel_rfl
theorem ty_bool59 : boolT Try.prog 59 = false := by kernel_rfl
theorem ty_z59 : zeroT Try.prog 59 = some [.nilFunc] := by kernel_rfl
theorem ty_ag61 : aggT Try.prog 61 = some false := by kernel_rfl
theorem ty_sz61 : szT Try.prog 61 = some 1 := by kernel_rfl
theorem ty_int61 : intT Try.prog 61 = none := by kernel_rfl
theorem ty_ifc61 : ifaceT Try.prog 61 = false := by kernel_rfl
theorem ty_bool61 : boolT Try.prog 61 = false := by kernel_rfl
theorem ty_z61 : zeroT Try.prog 61 = some [.nilFunc] := by kernel_rfl
theorem ty_ag62 : aggT Try.prog 62 = some false := by kernel_rfl
theorem ty_sz62 : szT Try.prog 62 = some 1 := by kernel_rfl
theorem ty_int62 : intT Try.prog 62 = none := by kernel_rfl
theorem ty_ifc62 : ifaceT Try.prog 62 = false := by kernel_rfl
theorem ty_bool62 : boolT Try.prog 62 = false := by kernel_rfl
theorem ty_z62 : zeroT Try.prog 62 = some [.nilFunc] := by kernel_rfl
theorem ty_ag63 : aggT Try.prog 63 = some true := by kernel_rfl
theorem ty_sz63 : szT Try.prog 63 = some 7 := by kernel_rfl
theorem ty_int63 : intT Try.prog 63 = none := by kernel_rfl
theorem ty_ifc63 : ifaceT Try.prog 63 = false := by kernel_rfl
theorem ty_bool63 : boolT Try.prog 63 = false := by kernel_rfl
theorem ty_f63_0 : fieldT Try.prog 63 0 = some (0, 5, true) := by kernel_rfl
theorem ty_f63_1 : fieldT Try.prog 63 1 = some (5, 1, false) := by kernel_rfl
theorem ty_f63_2 : fieldT Try.prog 63 2 = some (6, 1, false) := by kernel_rfl
theorem ty_pl63 : placeT Try.prog 63 = some (fun i => #[(0, 5), (5, 1), (6, 1)][i]?) := by kernel_rfl
theorem ty_z63 : zeroT Try.prog 63 = some [.int .u8 (0), .int .u8 (0), .int .u16 (0), .int .u16 (0), .int .u16 (0), .slice none 0 0, .int .u8 (0)] := by kernel_rfl
theorem ty_ag64 : aggT Try.prog 64 = some true := by kernel_rfl
theorem ty_sz64 : szT Try.prog 64 = some 7 := by kernel_rfl
theorem ty_int64 : intT Try.prog 64 = none := by kernel_rfl
theorem ty_ifc64 : ifaceT Try.prog 64 = false := by kernel_rfl
theorem ty_bool64 : boolT Try.prog 64 = false := by kernel_rfl
theorem ty_f64_0 : fieldT Try.prog 64 0 = some (0, 5, true) := by kernel_rfl
theorem ty_f64_1 : fieldT Try.prog 64 1 = some (5, 1, false) := by kernel_rfl
theorem ty_f64_2 : fieldT Try.prog 64 2 = some (6, 1, false) := by kernel_rfl
theorem ty_pl64 : placeT Try.prog 64 = some (fun i => #[(0, 5), (5, 1), (6, 1)][i]?) := by kernel_rfl
theorem ty_z64 : zeroT Try.prog 64 = some [.int .u8 (0), .int .u8 (0), .int .u16 (0), .int .u16 (0), .int .u16 (0), .slice none 0 0, .int .u8 (0)] := by kernel_rfl
theorem ty_ag65 : aggT Try.prog 65 = some false := by kernel_rfl
theorem ty_sz65 : szT Try.prog 65 = some 1 := by kernel_rfl
theorem ty_int65 : intT Try.prog 65 = none := by kernel_rfl
theorem ty_ifc65 : ifaceT Try.prog 65 = false := by kernel_rfl
theorem ty_bool65 : boolT Try.prog 65 = false := by kernel_rfl
theorem ty_elem65 : elemT Try.prog 65 = some (42, 2, true) := by kernel_rfl
theorem ty_app65 : appT Try.prog 65 = some (42, 2, 32) := by kernel_rfl
theorem ty_z65 : zeroT Try.prog 65 = some [.slice none 0 0] := by kernel_rfl
theorem ty_ag66 : aggT Try.prog 66 = some false := by kernel_rfl
theorem ty_sz66 : szT Try.prog 66 = some 1 := by kernel_rfl
theorem ty_int66 : intT Try.prog 66 = none := by kernel_rfl
theorem ty_ifc66 : ifaceT Try.prog 66 = false := by kernel_rfl
theorem ty_bool66 : boolT Try.prog 66 = false := by kernel_rfl
theorem ty_z66 : zeroT Try.prog 66 = some [.nilFunc] := by kernel_rfl
theorem ty_ag67 : aggT Try.prog 67 = some false := by kernel_rfl
theorem ty_sz67 : szT Try.prog 67 = some 1 := by kernel_rfl
theorem ty_int67 : intT Try.prog 67 = some .u8 := by kernel_rfl
theorem ty_ifc67 : ifaceT Try.prog 67 = false := by kernel_rfl
theorem ty_bool67 : boolT Try.prog 67 = false := by kernel_rfl
theorem ty_z67 : zeroT Try.prog 67 = some [.int .u8 (0)] := by kernel_rfl
theorem ty_ag68 : aggT Try.prog 68 = some true := by kernel_rfl
theorem ty_sz68 : szT Try.prog 68 = some 13 := by kernel_rfl
theorem ty_int68 : intT Try.prog 68 = none := by kernel_rfl
theorem ty_ifc68 : ifaceT Try.prog 68 = false := by kernel_rfl
theorem ty_bool68 : boolT Try.prog 68 = false := by kernel_rfl
theorem ty_f68_0 : fieldT Try.prog 68 0 = some (0, 1, false) := by kernel_rfl
theorem ty_f68_1 : fieldT Try.prog 68 1 = some (1, 5, true) := by kernel_rfl
theorem ty_f68_2 : fieldT Try.prog 68 2 = some (6, 1, false) := by kernel_rfl
theorem ty_f68_3 : fieldT Try.prog 68 3 = some (7, 1, false) := by kernel_rfl
theorem ty_f68_4 : fieldT Try.prog 68 4 = some (8, 1, false) := by kernel_rfl
theorem ty_f68_5 : fieldT Try.prog 68 5 = some (9, 1, false) := by kernel_rfl
theorem ty_f68_6 : fieldT Try.prog 68 6 = some (10, 1, false) := by kernel_rfl
theorem ty_f68_7 : fieldT Try.prog 68 7 = some (11, 1, false) := by kernel_rfl
theorem ty_f68_8 : fieldT Try.prog 68 8 = some (12, 1, false) := by kernel_rfl
theorem ty_pl68 : placeT Try.prog 68 = some (fun i => #[(0, 1), (1, 5), (6, 1), (7, 1), (8, 1), (9, 1), (10, 1), (11, 1), (12, 1)][i]?) := by kernel_rfl
theorem ty_z68 : zeroT Try.prog 68 = some [.int .u8 (0), .int .u8 (0), .int .u8 (0), .int .u16 (0), .int .u16 (0), .int .u16 (0), .slice none 0 0, .int .i64 (0), .bool false, .int .i64 (0), .slice none 0 0, .int .i64 (0), .int .i64 (0)] := by kernel_rfl
theorem ty_ag69 : aggT Try.prog 69 = some true := by kernel_rfl
theorem ty_sz69 : szT Try.prog 69 = some 13 := by kernel_rfl
theorem ty_int69 : intT Try.prog 69 = none := by kernel_rfl
theorem ty_ifc69 : ifaceT Try.prog 69 = false := by kernel_rfl
theorem ty_bool69 : boolT Try.prog 69 = false := by kernel_rfl
theorem ty_f69_0 : fieldT Try.prog 69 0 = some (0, 1, false) := by kernel_rfl
theorem ty_f69_1 : fieldT Try.prog 69 1 = some (1, 5, true) := by kernel_rfl
theorem ty_f69_2 : fieldT Try.prog 69 2 = some (6, 1, false) := by kernel_rfl
theorem ty_f69_3 : fieldT Try.prog 69 3 = some (7, 1, false) := by kernel_rfl
theorem ty_f69_4 : fieldT Try.prog 69 4 = some (8, 1, false) := by kernel_rfl
theorem ty_f69_5 : fieldT Try.prog 69 5 = some (9, 1, false) := by kernel_rfl
theorem ty_f69_6 : fieldT Try.prog 69 6 = some (10, 1, false) := by kernel_rfl
theorem ty_f69_7 : fieldT Try.prog 69 7 = some (11, 1, false) := by kernel_rfl
theorem ty_f69_8 : fieldT Try.prog 69 8 = some (12, 1, false) := by kernel_rfl
theorem ty_pl69 : placeT Try.prog 69 = some (fun i => #[(0, 1), (1, 5), (6, 1), (7, 1), (8, 1), (9, 1), (10, 1), (11, 1), (12, 1)][i]?) := by kernel_rfl
theorem ty_z69 : zeroT Try.prog 69 = some [.int .u8 (0), .int .u8 (0), .int .u8 (0), .int .u16 (0), .int .u16 (0), .int .u16 (0), .slice none 0 0, .int .i64 (0), .bool false, .int .i64 (0), .slice none 0 0, .int .i64 (0), .int .i64 (0)] := by kernel_rfl
theorem ty_ag71 : aggT Try.prog 71 = some false := by kernel_rfl
theorem ty_sz71 : szT Try.prog 71 = some 1 := by kernel_rfl
theorem ty_int71 : intT Try.prog 71 = none := by kernel_rfl
theorem ty_ifc71 : ifaceT Try.prog 71 = false := by kernel_rfl
theorem ty_bool71 : boolT Try.prog 71 = false := by kernel_rfl
theorem ty_z71 : zeroT Try.prog 71 = some [.nilFunc] := by kernel_rfl
theorem ty_ag72 : aggT Try.prog 72 = some false := by kernel_rfl
theorem ty_sz72 : szT Try.prog 72 = some 1 := by kernel_rfl
theorem ty_int72 : intT Try.prog 72 = none := by kernel_rfl
theorem ty_ifc72 : ifaceT Try.prog 72 = false := by kernel_rfl
theorem ty_bool72 : boolT Try.prog 72 = false := by kernel_rfl
theorem ty_z72 : zeroT Try.prog 72 = some [.nilFunc] := by kernel_rfl
theorem ty_ag73 : aggT Try.prog 73 = some true := by kernel_rfl
theorem ty_sz73 : szT Try.prog 73 = some 12 := by kernel_rfl
theorem ty_int73 : intT Try.prog 73 = none := by kernel_rfl
theorem ty_ifc73 : ifaceT Try.prog 73 = false := by kernel_rfl
theorem ty_bool73 : boolT Try.prog 73 = false := by kernel_rfl
theorem ty_f73_0 : fieldT Try.prog 73 0 = some (0, 1, false) := by kernel_rfl
theorem ty_f73_1 : fieldT Try.prog 73 1 = some (1, 5, true) := by kernel_rfl
theorem ty_f73_2 : fieldT Try.prog 73 2 = some (6, 1, false) := by kernel_rfl
theorem ty_f73_3 : fieldT Try.prog 73 3 = some (7, 1, false) := by kernel_rfl
theorem ty_f73_4 : fieldT Try.prog 73 4 = some (8, 1, false) := by kernel_rfl
theorem ty_f73_5 : fieldT Try.prog 73 5 = some (9, 1, false) := by kernel_rfl
theorem ty_f73_6 : fieldT Try.prog 73 6 = some (10, 1, false) := by kernel_rfl
theorem ty_f73_7 : fieldT Try.prog 73 7 = some (11, 1, false) := by kernel_rfl
theorem ty_pl73 : placeT Try.prog 73 = some (fun i => #[(0, 1), (1, 5), (6, 1), (7, 1), (8, 1), (9, 1), (10, 1), (11, 1)][i]?) := by kernel_rfl
theorem ty_z73 : zeroT Try.prog 73 = some [.int .i64 (0), .int .u8 (0), .int .u8 (0), .int .u16 (0), .int .u16 (0), .int .u16 (0), .slice none 0 0, .int .i64 (0), .bool false, .slice none 0 0, .int .i64 (0), .int .i64 (0)] := by kernel_rfl
theorem ty_ag74 : aggT Try.prog 74 = some true := by kernel_rfl
theorem ty_sz74 : szT Try.prog 74 = some 12 := by kernel_rfl
theorem ty_int74 : intT Try.prog 74 = none := by kernel_rfl
theorem ty_ifc74 : ifaceT Try.prog 74 = false := by kernel_rfl
theorem ty_bool74 : boolT Try.prog 74 = false := by kernel_rfl
theorem ty_f74_0 : fieldT Try.prog 74 0 = some (0, 1, false) := by kernel_rfl
theorem ty_f74_1 : fieldT Try.prog 74 1 = some (1, 5, true) := by kernel_rfl
theorem ty_f74_2 : fieldT Try.prog 74 2 = some (6, 1, false) := by kernel_rfl
theorem ty_f74_3 : fieldT Try.prog 74 3 = some (7, 1, false) := by kernel_rfl
theorem ty_f74_4 : fieldT Try.prog 74 4 = some (8, 1, false) := by kernel_rfl
theorem ty_f74_5 : fieldT Try.prog 74 5 = some (9, 1, false) := by kernel_rfl
theorem ty_f74_6 : fieldT Try.prog 74 6 = some (10, 1, false) := by kernel_rfl
theorem ty_f74_7 : fieldT Try.prog 74 7 = some (11, 1, false) := by kernel_rfl
theorem ty_pl74 : placeT Try.prog 74 = some (fun i => #[(0, 1), (1, 5), (6, 1), (7, 1), (8, 1), (9, 1), (10, 1), (11, 1)][i]?) := by kernel_rfl
theorem ty_z74 : zeroT Try.prog 74 = some [.int .i64 (0), .int .u8 (0), .int .u8 (0), .int .u16 (0), .int .u16 (0), .int .u16 (0), .slice none 0 0, .int .i64 (0), .bool false, .slice none 0 0, .int .i64 (0), .int .i64 (0)] := by kernel_rfl
theorem ty_ag76 : aggT Try.prog 76 = some false := by kernel_rfl
theorem ty_sz76 : szT Try.prog 76 = some 1 := by kernel_rfl
theorem ty_int76 : intT Try.prog 76 = none := by kernel_rfl
theorem ty_ifc76 : ifaceT Try.prog 76 = false := by kernel_rfl
theorem ty_bool76 : boolT Try.prog 76 = false := by kernel_rfl
theorem ty_z76 : zeroT Try.prog 76 = some [.nilFunc] := by kernel_rfl
theorem ty_ag78 : aggT Try.prog 78 = some false := by kernel_rfl
theorem ty_sz78 : szT Try.prog 78 = some 1 := by kernel_rfl
theorem ty_int78 : intT Try.prog 78 = none := by kernel_rfl
theorem ty_ifc78 : ifaceT Try.prog 78 = false := by kernel_rfl
theorem ty_bool78 : boolT Try.prog 78 = false := by kernel_rfl
theorem ty_z78 : zeroT Try.prog 78 = some [.nilFunc] := by kernel_rfl
theorem ty_ag79 : aggT Try.prog 79 = some false := by kernel_rfl
theorem ty_sz79 : szT Try.prog 79 = some 1 := by kernel_rfl
theorem ty_int79 : intT Try.prog 79 = none := by kernel_rfl
theorem ty_ifc79 : ifaceT Try.prog 79 = false := by kernel_rfl
theorem ty_bool79 : boolT Try.prog 79 = false := by kernel_rfl
theorem ty_z79 : zeroT Try.prog 79 = some [.nilFunc] := by kernel_rfl
theorem ty_ag80 : aggT Try.prog 80 = some false := by kernel_rfl
theorem ty_sz80 : szT Try.prog 80 = some 1 := by kernel_rfl
theorem ty_int80 : intT Try.prog 80 = none := by kernel_rfl
theorem ty_ifc80 : ifaceT Try.prog 80 = false := by kernel_rfl
theorem ty_bool80 : boolT Try.prog 80 = false := by kernel_rfl
theorem ty_z80 : zeroT Try.prog 80 = some [.nilFunc] := by kernel_rfl
theorem ty_ag81 : aggT Try.prog 81 = some false := by kernel_rfl
theorem ty_sz81 : szT Try.prog 81 = some 1 := by kernel_rfl
theorem ty_int81 : intT Try.prog 81 = none := by kernel_rfl
theorem ty_ifc81 : ifaceT Try.prog 81 = false := by kernel_rfl
theorem ty_bool81 : boolT Try.prog 81 = false := by kernel_rfl
theorem ty_z81 : zeroT Try.prog 81 = some [.nilFunc] := by kernel_rfl
theorem ty_ag82 : aggT Try.prog 82 = some false := by kernel_rfl
theorem ty_sz82 : szT Try.prog 82 = some 1 := by kernel_rfl
theorem ty_int82 : intT Try.prog 82 = none := by kernel_rfl
theorem ty_ifc82 : ifaceT Try.prog 82 = false := by kernel_rfl
theorem ty_bool82 : boolT Try.prog 82 = false := by kernel_rfl
theorem ty_z82 : zeroT Try.prog 82 = some [.nilFunc] := by kernel_rfl
theorem ty_ag83 : aggT Try.prog 83 = some true := by kernel_rfl
theorem ty_sz83 : szT Try.prog 83 = some 2 := by kernel_rfl
theorem ty_int83 : intT Try.prog 83 = none := by kernel_rfl
theorem ty_ifc83 : ifaceT Try.prog 83 = false := by kernel_rfl
theorem ty_bool83 : boolT Try.prog 83 = false := by kernel_rfl
theorem ty_f83_0 : fieldT Try.prog 83 0 = some (0, 1, false) := by kernel_rfl
theorem ty_f83_1 : fieldT Try.prog 83 1 = some (1, 1, false) := by kernel_rfl
theorem ty_pl83 : placeT Try.prog 83 = some (fun i => #[(0, 1), (1, 1)][i]?) := by kernel_rfl
theorem ty_z83 : zeroT Try.prog 83 = some [.int .u8 (0), .slice none 0 0] := by kernel_rfl
theorem ty_ag84 : aggT Try.prog 84 = some true := by kernel_rfl
theorem ty_sz84 : szT Try.prog 84 = some 2 := by kernel_rfl
theorem ty_int84 : intT Try.prog 84 = none := by kernel_rfl
theorem ty_ifc84 : ifaceT Try.prog 84 = false := by kernel_rfl
theorem ty_bool84 : boolT Try.prog 84 = false := by kernel_rfl
theorem ty_f84_0 : fieldT Try.prog 84 0 = some (0, 1, false) := by kernel_rfl
theorem ty_f84_1 : fieldT Try.prog 84 1 = some (1, 1, false) := by kernel_rfl
theorem ty_pl84 : placeT Try.prog 84 = some (fun i => #[(0, 1), (1, 1)][i]?) := by kernel_rfl
theorem ty_z84 : zeroT Try.prog 84 = some [.int .u8 (0), .slice none 0 0] := by kernel_rfl
theorem ty_ag85 : aggT Try.prog 85 = some false := by kernel_rfl
theorem ty_sz85 : szT Try.prog 85 = some 1 := by kernel_rfl
theorem ty_int85 : intT Try.prog 85 = none := by kernel_rfl
theorem ty_ifc85 : ifaceT Try.prog 85 = false := by kernel_rfl
theorem ty_m85_0 : methA Try.prog 85 "Request" = some 134 := by kernel_rfl
theorem ty_k85_0 : nilOk Try.prog 85 "Request" = true := by kernel_rfl
theorem ty_bool85 : boolT Try.prog 85 = false := by kernel_rfl
theorem ty_z85 : zeroT Try.prog 85 = some [.pointer none] := by kernel_rfl
theorem ty_ag86 : aggT Try.prog 86 = some false := by kernel_rfl
theorem ty_sz86 : szT Try.prog 86 = some 1 := by kernel_rfl
theorem ty_int86 : intT Try.prog 86 = none := by kernel_rfl
theorem ty_ifc86 : ifaceT Try.prog 86 = false := by kernel_rfl
theorem ty_bool86 : boolT Try.prog 86 = false := by kernel_rfl
theorem ty_z86 : zeroT Try.prog 86 = some [.nilFunc] := by kernel_rfl
theorem ty_ag87 : aggT Try.prog 87 = some false := by kernel_rfl
theorem ty_sz87 : szT Try.prog 87 = some 1 := by kernel_rfl
theorem ty_int87 : intT Try.prog 87 = none := by kernel_rfl
theorem ty_ifc87 : ifaceT Try.prog 87 = false := by kernel_rfl
theorem ty_m87_0 : methA Try.prog 87 "Address" = some 65 := by kernel_rfl
theorem ty_k87_0 : nilOk Try.prog 87 "Address" = true := by kernel_rfl
theorem ty_m87_1 : methA Try.prog 87 "Hear" = some 135 := by kernel_rfl
theorem ty_k87_1 : nilOk Try.prog 87 "Hear" = true := by kernel_rfl
theorem ty_m87_2 : methA Try.prog 87 "Zero" = some 66 := by kernel_rfl
theorem ty_k87_2 : nilOk Try.prog 87 "Zero" = true := by kernel_rfl
theorem ty_m87_3 : methA Try.prog 87 "plugboard/endpoints.none" = some 83 := by kernel_rfl
theorem ty_k87_3 : nilOk Try.prog 87 "plugboard/endpoints.none" = true := by kernel_rfl
theorem ty_m87_4 : methA Try.prog 87 "plugboard/endpoints.token" = some 136 := by kernel_rfl
theorem ty_k87_4 : nilOk Try.prog 87 "plugboard/endpoints.token" = true := by kernel_rfl
theorem ty_bool87 : boolT Try.prog 87 = false := by kernel_rfl
theorem ty_z87 : zeroT Try.prog 87 = some [.pointer none] := by kernel_rfl
theorem ty_ag88 : aggT Try.prog 88 = some false := by kernel_rfl
theorem ty_sz88 : szT Try.prog 88 = some 1 := by kernel_rfl
theorem ty_int88 : intT Try.prog 88 = none := by kernel_rfl
theorem ty_ifc88 : ifaceT Try.prog 88 = false := by kernel_rfl
theorem ty_m88_0 : methA Try.prog 88 "Finished" = some 33 := by kernel_rfl
theorem ty_k88_0 : nilOk Try.prog 88 "Finished" = true := by kernel_rfl
theorem ty_m88_1 : methA Try.prog 88 "Hear" = some 41 := by kernel_rfl
theorem ty_k88_1 : nilOk Try.prog 88 "Hear" = true := by kernel_rfl
theorem ty_m88_2 : methA Try.prog 88 "Reset" = some 38 := by kernel_rfl
theorem ty_k88_2 : nilOk Try.prog 88 "Reset" = true := by kernel_rfl
theorem ty_m88_3 : methA Try.prog 88 "plugboard/controls.acknowledged" = some 72 := by kernel_rfl
theorem ty_k88_3 : nilOk Try.prog 88 "plugboard/controls.acknowledged" = true := by kernel_rfl
theorem ty_m88_4 : methA Try.prog 88 "plugboard/controls.complete" = some 86 := by kernel_rfl
theorem ty_k88_4 : nilOk Try.prog 88 "plugboard/controls.complete" = true := by kernel_rfl
theorem ty_m88_5 : methA Try.prog 88 "plugboard/controls.handle" = some 84 := by kernel_rfl
theorem ty_k88_5 : nilOk Try.prog 88 "plugboard/controls.handle" = true := by kernel_rfl
theorem ty_m88_6 : methA Try.prog 88 "plugboard/controls.none" = some 67 := by kernel_rfl
theorem ty_k88_6 : nilOk Try.prog 88 "plugboard/controls.none" = true := by kernel_rfl
theorem ty_m88_7 : methA Try.prog 88 "plugboard/controls.out" = some 73 := by kernel_rfl
theorem ty_k88_7 : nilOk Try.prog 88 "plugboard/controls.out" = true := by kernel_rfl
theorem ty_m88_8 : methA Try.prog 88 "plugboard/controls.packet" = some 85 := by kernel_rfl
theorem ty_k88_8 : nilOk Try.prog 88 "plugboard/controls.packet" = true := by kernel_rfl
theorem ty_m88_9 : methA Try.prog 88 "plugboard/controls.read" = some 70 := by kernel_rfl
theorem ty_k88_9 : nilOk Try.prog 88 "plugboard/controls.read" = true := by kernel_rfl
theorem ty_m88_10 : methA Try.prog 88 "plugboard/controls.setup" = some 68 := by kernel_rfl
theorem ty_k88_10 : nilOk Try.prog 88 "plugboard/controls.setup" = true := by kernel_rfl
theorem ty_m88_11 : methA Try.prog 88 "plugboard/controls.status" = some 71 := by kernel_rfl
theorem ty_k88_11 : nilOk Try.prog 88 "plugboard/controls.status" = true := by kernel_rfl
theorem ty_bool88 : boolT Try.prog 88 = false := by kernel_rfl
theorem ty_z88 : zeroT Try.prog 88 = some [.pointer none] := by kernel_rfl
theorem ty_ag90 : aggT Try.prog 90 = some false := by kernel_rfl
theorem ty_sz90 : szT Try.prog 90 = some 1 := by kernel_rfl
theorem ty_int90 : intT Try.prog 90 = none := by kernel_rfl
theorem ty_ifc90 : ifaceT Try.prog 90 = false := by kernel_rfl
theorem ty_bool90 : boolT Try.prog 90 = false := by kernel_rfl
theorem ty_z90 : zeroT Try.prog 90 = some [.nilFunc] := by kernel_rfl
theorem ty_ag92 : aggT Try.prog 92 = some false := by kernel_rfl
theorem ty_sz92 : szT Try.prog 92 = some 1 := by kernel_rfl
theorem ty_int92 : intT Try.prog 92 = none := by kernel_rfl
theorem ty_ifc92 : ifaceT Try.prog 92 = false := by kernel_rfl
theorem ty_bool92 : boolT Try.prog 92 = false := by kernel_rfl
theorem ty_z92 : zeroT Try.prog 92 = some [.nilFunc] := by kernel_rfl
theorem ty_ag93 : aggT Try.prog 93 = some false := by kernel_rfl
theorem ty_sz93 : szT Try.prog 93 = some 1 := by kernel_rfl
theorem ty_int93 : intT Try.prog 93 = none := by kernel_rfl
theorem ty_ifc93 : ifaceT Try.prog 93 = false := by kernel_rfl
theorem ty_bool93 : boolT Try.prog 93 = false := by kernel_rfl
theorem ty_elem93 : elemT Try.prog 93 = some (98, 6, true) := by kernel_rfl
theorem ty_app93 : appT Try.prog 93 = some (98, 6, 32) := by kernel_rfl
theorem ty_z93 : zeroT Try.prog 93 = some [.slice none 0 0] := by kernel_rfl
theorem ty_ag94 : aggT Try.prog 94 = some true := by kernel_rfl
theorem ty_sz94 : szT Try.prog 94 = some 3 := by kernel_rfl
theorem ty_int94 : intT Try.prog 94 = none := by kernel_rfl
theorem ty_ifc94 : ifaceT Try.prog 94 = false := by kernel_rfl
theorem ty_bool94 : boolT Try.prog 94 = false := by kernel_rfl
theorem ty_f94_0 : fieldT Try.prog 94 0 = some (0, 2, true) := by kernel_rfl
theorem ty_f94_1 : fieldT Try.prog 94 1 = some (2, 1, false) := by kernel_rfl
theorem ty_pl94 : placeT Try.prog 94 = some (fun i => #[(0, 2), (2, 1)][i]?) := by kernel_rfl
theorem ty_z94 : zeroT Try.prog 94 = some [.int .u8 (0), .slice none 0 0, .slice none 0 0] := by kernel_rfl
theorem ty_ag95 : aggT Try.prog 95 = some true := by kernel_rfl
theorem ty_sz95 : szT Try.prog 95 = some 3 := by kernel_rfl
theorem ty_int95 : intT Try.prog 95 = none := by kernel_rfl
theorem ty_ifc95 : ifaceT Try.prog 95 = false := by kernel_rfl
theorem ty_bool95 : boolT Try.prog 95 = false := by kernel_rfl
theorem ty_f95_0 : fieldT Try.prog 95 0 = some (0, 2, true) := by kernel_rfl
theorem ty_f95_1 : fieldT Try.prog 95 1 = some (2, 1, false) := by kernel_rfl
theorem ty_pl95 : placeT Try.prog 95 = some (fun i => #[(0, 2), (2, 1)][i]?) := by kernel_rfl
theorem ty_z95 : zeroT Try.prog 95 = some [.int .u8 (0), .slice none 0 0, .slice none 0 0] := by kernel_rfl
theorem ty_ag96 : aggT Try.prog 96 = some false := by kernel_rfl
theorem ty_sz96 : szT Try.prog 96 = some 1 := by kernel_rfl
theorem ty_int96 : intT Try.prog 96 = none := by kernel_rfl
theorem ty_ifc96 : ifaceT Try.prog 96 = false := by kernel_rfl
theorem ty_bool96 : boolT Try.prog 96 = false := by kernel_rfl
theorem ty_z96 : zeroT Try.prog 96 = some [.nilFunc] := by kernel_rfl
theorem ty_ag97 : aggT Try.prog 97 = some true := by kernel_rfl
theorem ty_sz97 : szT Try.prog 97 = some 6 := by kernel_rfl
theorem ty_int97 : intT Try.prog 97 = none := by kernel_rfl
theorem ty_ifc97 : ifaceT Try.prog 97 = false := by kernel_rfl
theorem ty_bool97 : boolT Try.prog 97 = false := by kernel_rfl
theorem ty_f97_0 : fieldT Try.prog 97 0 = some (0, 5, true) := by kernel_rfl
theorem ty_f97_1 : fieldT Try.prog 97 1 = some (5, 1, false) := by kernel_rfl
theorem ty_pl97 : placeT Try.prog 97 = some (fun i => #[(0, 5), (5, 1)][i]?) := by kernel_rfl
theorem ty_z97 : zeroT Try.prog 97 = some [.int .u8 (0), .int .u8 (0), .int .u16 (0), .int .u16 (0), .int .u16 (0), .slice none 0 0] := by kernel_rfl
theorem ty_ag98 : aggT Try.prog 98 = some true := by kernel_rfl
theorem ty_sz98 : szT Try.prog 98 = some 6 := by kernel_rfl
theorem ty_int98 : intT Try.prog 98 = none := by kernel_rfl
theorem ty_ifc98 : ifaceT Try.prog 98 = false := by kernel_rfl
theorem ty_bool98 : boolT Try.prog 98 = false := by kernel_rfl
theorem ty_f98_0 : fieldT Try.prog 98 0 = some (0, 5, true) := by kernel_rfl
theorem ty_f98_1 : fieldT Try.prog 98 1 = some (5, 1, false) := by kernel_rfl
theorem ty_pl98 : placeT Try.prog 98 = some (fun i => #[(0, 5), (5, 1)][i]?) := by kernel_rfl
theorem ty_z98 : zeroT Try.prog 98 = some [.int .u8 (0), .int .u8 (0), .int .u16 (0), .int .u16 (0), .int .u16 (0), .slice none 0 0] := by kernel_rfl
theorem ty_ag99 : aggT Try.prog 99 = some false := by kernel_rfl
theorem ty_sz99 : szT Try.prog 99 = some 1 := by kernel_rfl
theorem ty_int99 : intT Try.prog 99 = none := by kernel_rfl
theorem ty_ifc99 : ifaceT Try.prog 99 = false := by kernel_rfl
theorem ty_bool99 : boolT Try.prog 99 = false := by kernel_rfl
theorem ty_z99 : zeroT Try.prog 99 = some [.nilFunc] := by kernel_rfl
theorem ty_ag100 : aggT Try.prog 100 = some false := by kernel_rfl
theorem ty_sz100 : szT Try.prog 100 = some 1 := by kernel_rfl
theorem ty_int100 : intT Try.prog 100 = none := by kernel_rfl
theorem ty_ifc100 : ifaceT Try.prog 100 = false := by kernel_rfl
theorem ty_bool100 : boolT Try.prog 100 = false := by kernel_rfl
theorem ty_z100 : zeroT Try.prog 100 = some [.nilFunc] := by kernel_rfl
theorem ty_ag101 : aggT Try.prog 101 = some true := by kernel_rfl
theorem ty_sz101 : szT Try.prog 101 = some 14 := by kernel_rfl
theorem ty_int101 : intT Try.prog 101 = none := by kernel_rfl
theorem ty_ifc101 : ifaceT Try.prog 101 = false := by kernel_rfl
theorem ty_bool101 : boolT Try.prog 101 = false := by kernel_rfl
theorem ty_arr101 : arrT Try.prog 101 = some (2, 64, 7, true) := by kernel_rfl
theorem ty_pl101 : placeT Try.prog 101 = some (fun i => some (i * 7, 7)) := by kernel_rfl
theorem ty_z101 : zeroT Try.prog 101 = some [.int .u8 (0), .int .u8 (0), .int .u16 (0), .int .u16 (0), .int .u16 (0), .slice none 0 0, .int .u8 (0), .int .u8 (0), .int .u8 (0), .int .u16 (0), .int .u16 (0), .int .u16 (0), .slice none 0 0, .int .u8 (0)] := by kernel_rfl
theorem ty_ag102 : aggT Try.prog 102 = some true := by kernel_rfl
theorem ty_sz102 : szT Try.prog 102 = some 2 := by kernel_rfl
theorem ty_int102 : intT Try.prog 102 = none := by kernel_rfl
theorem ty_ifc102 : ifaceT Try.prog 102 = false := by kernel_rfl
theorem ty_bool102 : boolT Try.prog 102 = false := by kernel_rfl
theorem ty_arr102 : arrT Try.prog 102 = some (2, 5, 1, false) := by kernel_rfl
theorem ty_pl102 : placeT Try.prog 102 = some (fun i => some (i * 1, 1)) := by kernel_rfl
theorem ty_z102 : zeroT Try.prog 102 = some [.int .u8 (0), .int .u8 (0)] := by kernel_rfl
theorem ty_ag103 : aggT Try.prog 103 = some false := by kernel_rfl
theorem ty_sz103 : szT Try.prog 103 = some 1 := by kernel_rfl
theorem ty_int103 : intT Try.prog 103 = none := by kernel_rfl
theorem ty_ifc103 : ifaceT Try.prog 103 = false := by kernel_rfl
theorem ty_bool103 : boolT Try.prog 103 = false := by kernel_rfl
theorem ty_z103 : zeroT Try.prog 103 = some [.nilFunc] := by kernel_rfl
theorem ty_ag105 : aggT Try.prog 105 = some false := by kernel_rfl
theorem ty_sz105 : szT Try.prog 105 = some 1 := by kernel_rfl
theorem ty_int105 : intT Try.prog 105 = none := by kernel_rfl
theorem ty_ifc105 : ifaceT Try.prog 105 = false := by kernel_rfl
theorem ty_bool105 : boolT Try.prog 105 = false := by kernel_rfl
theorem ty_z105 : zeroT Try.prog 105 = some [.nilFunc] := by kernel_rfl
theorem ty_ag106 : aggT Try.prog 106 = some false := by kernel_rfl
theorem ty_sz106 : szT Try.prog 106 = some 1 := by kernel_rfl
theorem ty_int106 : intT Try.prog 106 = none := by kernel_rfl
theorem ty_ifc106 : ifaceT Try.prog 106 = false := by kernel_rfl
theorem ty_bool106 : boolT Try.prog 106 = false := by kernel_rfl
theorem ty_z106 : zeroT Try.prog 106 = some [.nilFunc] := by kernel_rfl
theorem ty_ag107 : aggT Try.prog 107 = some false := by kernel_rfl
theorem ty_sz107 : szT Try.prog 107 = some 1 := by kernel_rfl
theorem ty_int107 : intT Try.prog 107 = none := by kernel_rfl
theorem ty_ifc107 : ifaceT Try.prog 107 = false := by kernel_rfl
theorem ty_m107_0 : methA Try.prog 107 "Request" = some 40 := by kernel_rfl
theorem ty_k107_0 : nilOk Try.prog 107 "Request" = true := by kernel_rfl
theorem ty_bool107 : boolT Try.prog 107 = false := by kernel_rfl
theorem ty_z107 : zeroT Try.prog 107 = some [.nilFunc] := by kernel_rfl
theorem ty_ag108 : aggT Try.prog 108 = some false := by kernel_rfl
theorem ty_sz108 : szT Try.prog 108 = some 1 := by kernel_rfl
theorem ty_int108 : intT Try.prog 108 = none := by kernel_rfl
theorem ty_ifc108 : ifaceT Try.prog 108 = false := by kernel_rfl
theorem ty_bool108 : boolT Try.prog 108 = false := by kernel_rfl
theorem ty_z108 : zeroT Try.prog 108 = some [.nilFunc] := by kernel_rfl
theorem ty_ag109 : aggT Try.prog 109 = some false := by kernel_rfl
theorem ty_sz109 : szT Try.prog 109 = some 1 := by kernel_rfl
theorem ty_int109 : intT Try.prog 109 = none := by kernel_rfl
theorem ty_ifc109 : ifaceT Try.prog 109 = false := by kernel_rfl
theorem ty_bool109 : boolT Try.prog 109 = false := by kernel_rfl
theorem ty_z109 : zeroT Try.prog 109 = some [.nilFunc] := by kernel_rfl
theorem ty_ag111 : aggT Try.prog 111 = some false := by kernel_rfl
theorem ty_sz111 : szT Try.prog 111 = some 1 := by kernel_rfl
theorem ty_int111 : intT Try.prog 111 = some .u8 := by kernel_rfl
theorem ty_ifc111 : ifaceT Try.prog 111 = false := by kernel_rfl
theorem ty_bool111 : boolT Try.prog 111 = false := by kernel_rfl
theorem ty_z111 : zeroT Try.prog 111 = some [.int .u8 (0)] := by kernel_rfl
theorem ty_ag112 : aggT Try.prog 112 = some true := by kernel_rfl
theorem ty_sz112 : szT Try.prog 112 = some 5 := by kernel_rfl
theorem ty_int112 : intT Try.prog 112 = none := by kernel_rfl
theorem ty_eq112 : eqT Try.prog 112 = some [true, true, false, false, true] := by kernel_rfl
theorem ty_ifc112 : ifaceT Try.prog 112 = false := by kernel_rfl
theorem ty_bool112 : boolT Try.prog 112 = false := by kernel_rfl
theorem ty_f112_0 : fieldT Try.prog 112 0 = some (0, 1, false) := by kernel_rfl
theorem ty_f112_1 : fieldT Try.prog 112 1 = some (1, 1, false) := by kernel_rfl
theorem ty_f112_2 : fieldT Try.prog 112 2 = some (2, 1, false) := by kernel_rfl
theorem ty_f112_3 : fieldT Try.prog 112 3 = some (3, 1, false) := by kernel_rfl
theorem ty_f112_4 : fieldT Try.prog 112 4 = some (4, 1, false) := by kernel_rfl
theorem ty_pl112 : placeT Try.prog 112 = some (fun i => #[(0, 1), (1, 1), (2, 1), (3, 1), (4, 1)][i]?) := by kernel_rfl
theorem ty_z112 : zeroT Try.prog 112 = some [.int .u8 (0), .int .u8 (0), .bool false, .bool false, .int .u8 (0)] := by kernel_rfl
theorem ty_ag113 : aggT Try.prog 113 = some true := by kernel_rfl
theorem ty_sz113 : szT Try.prog 113 = some 5 := by kernel_rfl
theorem ty_int113 : intT Try.prog 113 = none := by kernel_rfl
theorem ty_eq113 : eqT Try.prog 113 = some [true, true, false, false, true] := by kernel_rfl
theorem ty_ifc113 : ifaceT Try.prog 113 = false := by kernel_rfl
theorem ty_bool113 : boolT Try.prog 113 = false := by kernel_rfl
theorem ty_f113_0 : fieldT Try.prog 113 0 = some (0, 1, false) := by kernel_rfl
theorem ty_f113_1 : fieldT Try.prog 113 1 = some (1, 1, false) := by kernel_rfl
theorem ty_f113_2 : fieldT Try.prog 113 2 = some (2, 1, false) := by kernel_rfl
theorem ty_f113_3 : fieldT Try.prog 113 3 = some (3, 1, false) := by kernel_rfl
theorem ty_f113_4 : fieldT Try.prog 113 4 = some (4, 1, false) := by kernel_rfl
theorem ty_pl113 : placeT Try.prog 113 = some (fun i => #[(0, 1), (1, 1), (2, 1), (3, 1), (4, 1)][i]?) := by kernel_rfl
theorem ty_z113 : zeroT Try.prog 113 = some [.int .u8 (0), .int .u8 (0), .bool false, .bool false, .int .u8 (0)] := by kernel_rfl
theorem ty_ag114 : aggT Try.prog 114 = some true := by kernel_rfl
theorem ty_sz114 : szT Try.prog 114 = some 10 := by kernel_rfl
theorem ty_int114 : intT Try.prog 114 = none := by kernel_rfl
theorem ty_ifc114 : ifaceT Try.prog 114 = false := by kernel_rfl
theorem ty_bool114 : boolT Try.prog 114 = false := by kernel_rfl
theorem ty_f114_0 : fieldT Try.prog 114 0 = some (0, 1, false) := by kernel_rfl
theorem ty_f114_1 : fieldT Try.prog 114 1 = some (1, 1, false) := by kernel_rfl
theorem ty_f114_2 : fieldT Try.prog 114 2 = some (2, 1, false) := by kernel_rfl
theorem ty_f114_3 : fieldT Try.prog 114 3 = some (3, 1, false) := by kernel_rfl
theorem ty_f114_4 : fieldT Try.prog 114 4 = some (4, 5, true) := by kernel_rfl
theorem ty_f114_5 : fieldT Try.prog 114 5 = some (9, 1, false) := by kernel_rfl
theorem ty_pl114 : placeT Try.prog 114 = some (fun i => #[(0, 1), (1, 1), (2, 1), (3, 1), (4, 5), (9, 1)][i]?) := by kernel_rfl
theorem ty_z114 : zeroT Try.prog 114 = some [.int .u8 (0), .int .u8 (0), .int .u8 (0), .int .u16 (0), .int .u8 (0), .int .u8 (0), .bool false, .bool false, .int .u8 (0), .slice none 0 0] := by kernel_rfl
theorem ty_ag115 : aggT Try.prog 115 = some true := by kernel_rfl
theorem ty_sz115 : szT Try.prog 115 = some 10 := by kernel_rfl
theorem ty_int115 : intT Try.prog 115 = none := by kernel_rfl
theorem ty_ifc115 : ifaceT Try.prog 115 = false := by kernel_rfl
theorem ty_bool115 : boolT Try.prog 115 = false := by kernel_rfl
theorem ty_f115_0 : fieldT Try.prog 115 0 = some (0, 1, false) := by kernel_rfl
theorem ty_f115_1 : fieldT Try.prog 115 1 = some (1, 1, false) := by kernel_rfl
theorem ty_f115_2 : fieldT Try.prog 115 2 = some (2, 1, false) := by kernel_rfl
theorem ty_f115_3 : fieldT Try.prog 115 3 = some (3, 1, false) := by kernel_rfl
theorem ty_f115_4 : fieldT Try.prog 115 4 = some (4, 5, true) := by kernel_rfl
theorem ty_f115_5 : fieldT Try.prog 115 5 = some (9, 1, false) := by kernel_rfl
theorem ty_pl115 : placeT Try.prog 115 = some (fun i => #[(0, 1), (1, 1), (2, 1), (3, 1), (4, 5), (9, 1)][i]?) := by kernel_rfl
theorem ty_z115 : zeroT Try.prog 115 = some [.int .u8 (0), .int .u8 (0), .int .u8 (0), .int .u16 (0), .int .u8 (0), .int .u8 (0), .bool false, .bool false, .int .u8 (0), .slice none 0 0] := by kernel_rfl
theorem ty_ag117 : aggT Try.prog 117 = some false := by kernel_rfl
theorem ty_sz117 : szT Try.prog 117 = some 1 := by kernel_rfl
theorem ty_int117 : intT Try.prog 117 = none := by kernel_rfl
theorem ty_ifc117 : ifaceT Try.prog 117 = false := by kernel_rfl
theorem ty_bool117 : boolT Try.prog 117 = false := by kernel_rfl
theorem ty_z117 : zeroT Try.prog 117 = some [.nilFunc] := by kernel_rfl
theorem ty_ag118 : aggT Try.prog 118 = some false := by kernel_rfl
theorem ty_sz118 : szT Try.prog 118 = some 1 := by kernel_rfl
theorem ty_int118 : intT Try.prog 118 = none := by kernel_rfl
theorem ty_ifc118 : ifaceT Try.prog 118 = true := by kernel_rfl
theorem ty_bool118 : boolT Try.prog 118 = false := by kernel_rfl
theorem ty_z118 : zeroT Try.prog 118 = some [.nilIface] := by kernel_rfl
theorem ty_ag119 : aggT Try.prog 119 = some false := by kernel_rfl
theorem ty_sz119 : szT Try.prog 119 = some 1 := by kernel_rfl
theorem ty_int119 : intT Try.prog 119 = none := by kernel_rfl
theorem ty_ifc119 : ifaceT Try.prog 119 = true := by kernel_rfl
theorem ty_bool119 : boolT Try.prog 119 = false := by kernel_rfl
theorem ty_z119 : zeroT Try.prog 119 = some [.nilIface] := by kernel_rfl
theorem ty_ag120 : aggT Try.prog 120 = some true := by kernel_rfl
theorem ty_sz120 : szT Try.prog 120 = some 13 := by kernel_rfl
theorem ty_int120 : intT Try.prog 120 = none := by kernel_rfl
theorem ty_ifc120 : ifaceT Try.prog 120 = false := by kernel_rfl
theorem ty_bool120 : boolT Try.prog 120 = false := by kernel_rfl
theorem ty_f120_0 : fieldT Try.prog 120 0 = some (0, 5, true) := by kernel_rfl
theorem ty_f120_1 : fieldT Try.prog 120 1 = some (5, 1, false) := by kernel_rfl
theorem ty_f120_2 : fieldT Try.prog 120 2 = some (6, 1, false) := by kernel_rfl
theorem ty_f120_3 : fieldT Try.prog 120 3 = some (7, 1, false) := by kernel_rfl
theorem ty_f120_4 : fieldT Try.prog 120 4 = some (8, 1, false) := by kernel_rfl
theorem ty_f120_5 : fieldT Try.prog 120 5 = some (9, 1, false) := by kernel_rfl
theorem ty_f120_6 : fieldT Try.prog 120 6 = some (10, 1, false) := by kernel_rfl
theorem ty_f120_7 : fieldT Try.prog 120 7 = some (11, 1, false) := by kernel_rfl
theorem ty_f120_8 : fieldT Try.prog 120 8 = some (12, 1, false) := by kernel_rfl
theorem ty_pl120 : placeT Try.prog 120 = some (fun i => #[(0, 5), (5, 1), (6, 1), (7, 1), (8, 1), (9, 1), (10, 1), (11, 1), (12, 1)][i]?) := by kernel_rfl
theorem ty_z120 : zeroT Try.prog 120 = some [.int .u8 (0), .int .u8 (0), .int .u16 (0), .int .u16 (0), .int .u16 (0), .bool false, .bool false, .bool false, .bool false, .bool false, .slice none 0 0, .int .i64 (0), .bool false] := by kernel_rfl
theorem ty_ag121 : aggT Try.prog 121 = some true := by kernel_rfl
theorem ty_sz121 : szT Try.prog 121 = some 13 := by kernel_rfl
theorem ty_int121 : intT Try.prog 121 = none := by kernel_rfl
theorem ty_ifc121 : ifaceT Try.prog 121 = false := by kernel_rfl
theorem ty_bool121 : boolT Try.prog 121 = false := by kernel_rfl
theorem ty_f121_0 : fieldT Try.prog 121 0 = some (0, 5, true) := by kernel_rfl
theorem ty_f121_1 : fieldT Try.prog 121 1 = some (5, 1, false) := by kernel_rfl
theorem ty_f121_2 : fieldT Try.prog 121 2 = some (6, 1, false) := by kernel_rfl
theorem ty_f121_3 : fieldT Try.prog 121 3 = some (7, 1, false) := by kernel_rfl
theorem ty_f121_4 : fieldT Try.prog 121 4 = some (8, 1, false) := by kernel_rfl
theorem ty_f121_5 : fieldT Try.prog 121 5 = some (9, 1, false) := by kernel_rfl
theorem ty_f121_6 : fieldT Try.prog 121 6 = some (10, 1, false) := by kernel_rfl
theorem ty_f121_7 : fieldT Try.prog 121 7 = some (11, 1, false) := by kernel_rfl
theorem ty_f121_8 : fieldT Try.prog 121 8 = some (12, 1, false) := by kernel_rfl
theorem ty_pl121 : placeT Try.prog 121 = some (fun i => #[(0, 5), (5, 1), (6, 1), (7, 1), (8, 1), (9, 1), (10, 1), (11, 1), (12, 1)][i]?) := by kernel_rfl
theorem ty_z121 : zeroT Try.prog 121 = some [.int .u8 (0), .int .u8 (0), .int .u16 (0), .int .u16 (0), .int .u16 (0), .bool false, .bool false, .bool false, .bool false, .bool false, .slice none 0 0, .int .i64 (0), .bool false] := by kernel_rfl
theorem ty_ag122 : aggT Try.prog 122 = some true := by kernel_rfl
theorem ty_sz122 : szT Try.prog 122 = some 16 := by kernel_rfl
theorem ty_int122 : intT Try.prog 122 = none := by kernel_rfl
theorem ty_ifc122 : ifaceT Try.prog 122 = false := by kernel_rfl
theorem ty_bool122 : boolT Try.prog 122 = false := by kernel_rfl
theorem ty_f122_0 : fieldT Try.prog 122 0 = some (0, 1, false) := by kernel_rfl
theorem ty_f122_1 : fieldT Try.prog 122 1 = some (1, 1, false) := by kernel_rfl
theorem ty_f122_2 : fieldT Try.prog 122 2 = some (2, 13, true) := by kernel_rfl
theorem ty_f122_3 : fieldT Try.prog 122 3 = some (15, 1, false) := by kernel_rfl
theorem ty_pl122 : placeT Try.prog 122 = some (fun i => #[(0, 1), (1, 1), (2, 13), (15, 1)][i]?) := by kernel_rfl
theorem ty_z122 : zeroT Try.prog 122 = some [.int .i64 (0), .nilIface, .int .u8 (0), .int .u8 (0), .int .u16 (0), .int .u16 (0), .int .u16 (0), .bool false, .bool false, .bool false, .bool false, .bool false, .slice none 0 0, .int .i64 (0), .bool false, .int .i64 (0)] := by kernel_rfl
theorem ty_ag123 : aggT Try.prog 123 = some true := by kernel_rfl
theorem ty_sz123 : szT Try.prog 123 = some 16 := by kernel_rfl
theorem ty_int123 : intT Try.prog 123 = none := by kernel_rfl
theorem ty_ifc123 : ifaceT Try.prog 123 = false := by kernel_rfl
theorem ty_bool123 : boolT Try.prog 123 = false := by kernel_rfl
theorem ty_f123_0 : fieldT Try.prog 123 0 = some (0, 1, false) := by kernel_rfl
theorem ty_f123_1 : fieldT Try.prog 123 1 = some (1, 1, false) := by kernel_rfl
theorem ty_f123_2 : fieldT Try.prog 123 2 = some (2, 13, true) := by kernel_rfl
theorem ty_f123_3 : fieldT Try.prog 123 3 = some (15, 1, false) := by kernel_rfl
theorem ty_pl123 : placeT Try.prog 123 = some (fun i => #[(0, 1), (1, 1), (2, 13), (15, 1)][i]?) := by kernel_rfl
theorem ty_z123 : zeroT Try.prog 123 = some [.int .i64 (0), .nilIface, .int .u8 (0), .int .u8 (0), .int .u16 (0), .int .u16 (0), .int .u16 (0), .bool false, .bool false, .bool false, .bool false, .bool false, .slice none 0 0, .int .i64 (0), .bool false, .int .i64 (0)] := by kernel_rfl
theorem ty_ag124 : aggT Try.prog 124 = some false := by kernel_rfl
theorem ty_sz124 : szT Try.prog 124 = some 1 := by kernel_rfl
theorem ty_int124 : intT Try.prog 124 = none := by kernel_rfl
theorem ty_ifc124 : ifaceT Try.prog 124 = false := by kernel_rfl
theorem ty_bool124 : boolT Try.prog 124 = false := by kernel_rfl
theorem ty_z124 : zeroT Try.prog 124 = some [.nilFunc] := by kernel_rfl
theorem ty_ag125 : aggT Try.prog 125 = some false := by kernel_rfl
theorem ty_sz125 : szT Try.prog 125 = some 1 := by kernel_rfl
theorem ty_int125 : intT Try.prog 125 = none := by kernel_rfl
theorem ty_ifc125 : ifaceT Try.prog 125 = false := by kernel_rfl
theorem ty_bool125 : boolT Try.prog 125 = false := by kernel_rfl
theorem ty_z125 : zeroT Try.prog 125 = some [.nilFunc] := by kernel_rfl
theorem ty_ag126 : aggT Try.prog 126 = some false := by kernel_rfl
theorem ty_sz126 : szT Try.prog 126 = some 1 := by kernel_rfl
theorem ty_int126 : intT Try.prog 126 = none := by kernel_rfl
theorem ty_ifc126 : ifaceT Try.prog 126 = false := by kernel_rfl
theorem ty_bool126 : boolT Try.prog 126 = false := by kernel_rfl
theorem ty_z126 : zeroT Try.prog 126 = some [.nilFunc] := by kernel_rfl
theorem ty_ag127 : aggT Try.prog 127 = some false := by kernel_rfl
theorem ty_sz127 : szT Try.prog 127 = some 1 := by kernel_rfl
theorem ty_int127 : intT Try.prog 127 = none := by kernel_rfl
theorem ty_ifc127 : ifaceT Try.prog 127 = false := by kernel_rfl
theorem ty_bool127 : boolT Try.prog 127 = false := by kernel_rfl
theorem ty_elem127 : elemT Try.prog 127 = some (136, 1, false) := by kernel_rfl
theorem ty_app127 : appT Try.prog 127 = some (136, 1, 1) := by kernel_rfl
theorem ty_z127 : zeroT Try.prog 127 = some [.slice none 0 0] := by kernel_rfl
theorem ty_ag128 : aggT Try.prog 128 = some false := by kernel_rfl
theorem ty_sz128 : szT Try.prog 128 = some 1 := by kernel_rfl
theorem ty_int128 : intT Try.prog 128 = none := by kernel_rfl
theorem ty_ifc128 : ifaceT Try.prog 128 = false := by kernel_rfl
theorem ty_bool128 : boolT Try.prog 128 = false := by kernel_rfl
theorem ty_z128 : zeroT Try.prog 128 = some [.nilFunc] := by kernel_rfl
theorem ty_ag129 : aggT Try.prog 129 = some false := by kernel_rfl
theorem ty_sz129 : szT Try.prog 129 = some 1 := by kernel_rfl
theorem ty_int129 : intT Try.prog 129 = none := by kernel_rfl
theorem ty_ifc129 : ifaceT Try.prog 129 = true := by kernel_rfl
theorem ty_bool129 : boolT Try.prog 129 = false := by kernel_rfl
theorem ty_z129 : zeroT Try.prog 129 = some [.nilIface] := by kernel_rfl
theorem ty_ag130 : aggT Try.prog 130 = some false := by kernel_rfl
theorem ty_sz130 : szT Try.prog 130 = some 1 := by kernel_rfl
theorem ty_int130 : intT Try.prog 130 = none := by kernel_rfl
theorem ty_ifc130 : ifaceT Try.prog 130 = true := by kernel_rfl
theorem ty_bool130 : boolT Try.prog 130 = false := by kernel_rfl
theorem ty_z130 : zeroT Try.prog 130 = some [.nilIface] := by kernel_rfl
theorem ty_ag131 : aggT Try.prog 131 = some false := by kernel_rfl
theorem ty_sz131 : szT Try.prog 131 = some 1 := by kernel_rfl
theorem ty_int131 : intT Try.prog 131 = none := by kernel_rfl
theorem ty_ifc131 : ifaceT Try.prog 131 = true := by kernel_rfl
theorem ty_bool131 : boolT Try.prog 131 = false := by kernel_rfl
theorem ty_z131 : zeroT Try.prog 131 = some [.nilIface] := by kernel_rfl
theorem ty_ag132 : aggT Try.prog 132 = some false := by kernel_rfl
theorem ty_sz132 : szT Try.prog 132 = some 1 := by kernel_rfl
theorem ty_int132 : intT Try.prog 132 = none := by kernel_rfl
theorem ty_ifc132 : ifaceT Try.prog 132 = true := by kernel_rfl
theorem ty_bool132 : boolT Try.prog 132 = false := by kernel_rfl
theorem ty_z132 : zeroT Try.prog 132 = some [.nilIface] := by kernel_rfl
theorem ty_ag133 : aggT Try.prog 133 = some false := by kernel_rfl
theorem ty_sz133 : szT Try.prog 133 = some 1 := by kernel_rfl
theorem ty_int133 : intT Try.prog 133 = none := by kernel_rfl
theorem ty_ifc133 : ifaceT Try.prog 133 = false := by kernel_rfl
theorem ty_bool133 : boolT Try.prog 133 = false := by kernel_rfl
theorem ty_z133 : zeroT Try.prog 133 = some [.nilFunc] := by kernel_rfl
theorem ty_ag135 : aggT Try.prog 135 = some false := by kernel_rfl
theorem ty_sz135 : szT Try.prog 135 = some 1 := by kernel_rfl
theorem ty_int135 : intT Try.prog 135 = none := by kernel_rfl
theorem ty_ifc135 : ifaceT Try.prog 135 = false := by kernel_rfl
theorem ty_bool135 : boolT Try.prog 135 = false := by kernel_rfl
theorem ty_z135 : zeroT Try.prog 135 = some [.nilFunc] := by kernel_rfl
theorem ty_ag136 : aggT Try.prog 136 = some false := by kernel_rfl
theorem ty_sz136 : szT Try.prog 136 = some 1 := by kernel_rfl
theorem ty_int136 : intT Try.prog 136 = some .u8 := by kernel_rfl
theorem ty_ifc136 : ifaceT Try.prog 136 = false := by kernel_rfl
theorem ty_bool136 : boolT Try.prog 136 = false := by kernel_rfl
theorem ty_z136 : zeroT Try.prog 136 = some [.int .u8 (0)] := by kernel_rfl
theorem ty_ag137 : aggT Try.prog 137 = some true := by kernel_rfl
theorem ty_sz137 : szT Try.prog 137 = some 12 := by kernel_rfl
theorem ty_int137 : intT Try.prog 137 = none := by kernel_rfl
theorem ty_ifc137 : ifaceT Try.prog 137 = false := by kernel_rfl
theorem ty_bool137 : boolT Try.prog 137 = false := by kernel_rfl
theorem ty_f137_0 : fieldT Try.prog 137 0 = some (0, 10, true) := by kernel_rfl
theorem ty_f137_1 : fieldT Try.prog 137 1 = some (10, 1, false) := by kernel_rfl
theorem ty_f137_2 : fieldT Try.prog 137 2 = some (11, 1, false) := by kernel_rfl
theorem ty_pl137 : placeT Try.prog 137 = some (fun i => #[(0, 10), (10, 1), (11, 1)][i]?) := by kernel_rfl
theorem ty_z137 : zeroT Try.prog 137 = some [.int .u8 (0), .int .u8 (0), .int .u8 (0), .int .u16 (0), .int .u8 (0), .int .u8 (0), .bool false, .bool false, .int .u8 (0), .slice none 0 0, .bool false, .int .u8 (0)] := by kernel_rfl
theorem ty_ag138 : aggT Try.prog 138 = some true := by kernel_rfl
theorem ty_sz138 : szT Try.prog 138 = some 12 := by kernel_rfl
theorem ty_int138 : intT Try.prog 138 = none := by kernel_rfl
theorem ty_ifc138 : ifaceT Try.prog 138 = false := by kernel_rfl
theorem ty_bool138 : boolT Try.prog 138 = false := by kernel_rfl
theorem ty_f138_0 : fieldT Try.prog 138 0 = some (0, 10, true) := by kernel_rfl
theorem ty_f138_1 : fieldT Try.prog 138 1 = some (10, 1, false) := by kernel_rfl
theorem ty_f138_2 : fieldT Try.prog 138 2 = some (11, 1, false) := by kernel_rfl
theorem ty_pl138 : placeT Try.prog 138 = some (fun i => #[(0, 10), (10, 1), (11, 1)][i]?) := by kernel_rfl
theorem ty_z138 : zeroT Try.prog 138 = some [.int .u8 (0), .int .u8 (0), .int .u8 (0), .int .u16 (0), .int .u8 (0), .int .u8 (0), .bool false, .bool false, .int .u8 (0), .slice none 0 0, .bool false, .int .u8 (0)] := by kernel_rfl
theorem ty_ag139 : aggT Try.prog 139 = some false := by kernel_rfl
theorem ty_sz139 : szT Try.prog 139 = some 1 := by kernel_rfl
theorem ty_int139 : intT Try.prog 139 = none := by kernel_rfl
theorem ty_ifc139 : ifaceT Try.prog 139 = false := by kernel_rfl
theorem ty_bool139 : boolT Try.prog 139 = false := by kernel_rfl
theorem ty_z139 : zeroT Try.prog 139 = some [.nilFunc] := by kernel_rfl
theorem ty_ag140 : aggT Try.prog 140 = some false := by kernel_rfl
theorem ty_sz140 : szT Try.prog 140 = some 1 := by kernel_rfl
theorem ty_int140 : intT Try.prog 140 = none := by kernel_rfl
theorem ty_ifc140 : ifaceT Try.prog 140 = false := by kernel_rfl
theorem ty_bool140 : boolT Try.prog 140 = false := by kernel_rfl
theorem ty_z140 : zeroT Try.prog 140 = some [.nilFunc] := by kernel_rfl
theorem ty_ag141 : aggT Try.prog 141 = some false := by kernel_rfl
theorem ty_sz141 : szT Try.prog 141 = some 1 := by kernel_rfl
theorem ty_int141 : intT Try.prog 141 = none := by kernel_rfl
theorem ty_ifc141 : ifaceT Try.prog 141 = false := by kernel_rfl
theorem ty_bool141 : boolT Try.prog 141 = false := by kernel_rfl
theorem ty_z141 : zeroT Try.prog 141 = some [.nilFunc] := by kernel_rfl
theorem ty_ag142 : aggT Try.prog 142 = some false := by kernel_rfl
theorem ty_sz142 : szT Try.prog 142 = some 1 := by kernel_rfl
theorem ty_int142 : intT Try.prog 142 = none := by kernel_rfl
theorem ty_ifc142 : ifaceT Try.prog 142 = false := by kernel_rfl
theorem ty_m142_0 : methA Try.prog 142 "plugboard/toggles.acknowledged" = some 52 := by kernel_rfl
theorem ty_k142_0 : nilOk Try.prog 142 "plugboard/toggles.acknowledged" = true := by kernel_rfl
theorem ty_m142_1 : methA Try.prog 142 "plugboard/toggles.copied" = some 53 := by kernel_rfl
theorem ty_k142_1 : nilOk Try.prog 142 "plugboard/toggles.copied" = true := by kernel_rfl
theorem ty_m142_2 : methA Try.prog 142 "plugboard/toggles.hear" = some 130 := by kernel_rfl
theorem ty_k142_2 : nilOk Try.prog 142 "plugboard/toggles.hear" = true := by kernel_rfl
theorem ty_bool142 : boolT Try.prog 142 = false := by kernel_rfl
theorem ty_z142 : zeroT Try.prog 142 = some [.pointer none] := by kernel_rfl
theorem ty_ag143 : aggT Try.prog 143 = some false := by kernel_rfl
theorem ty_sz143 : szT Try.prog 143 = some 1 := by kernel_rfl
theorem ty_int143 : intT Try.prog 143 = none := by kernel_rfl
theorem ty_ifc143 : ifaceT Try.prog 143 = false := by kernel_rfl
theorem ty_bool143 : boolT Try.prog 143 = false := by kernel_rfl
theorem ty_z143 : zeroT Try.prog 143 = some [.nilFunc] := by kernel_rfl
theorem ty_ag145 : aggT Try.prog 145 = some false := by kernel_rfl
theorem ty_sz145 : szT Try.prog 145 = some 1 := by kernel_rfl
theorem ty_int145 : intT Try.prog 145 = none := by kernel_rfl
theorem ty_ifc145 : ifaceT Try.prog 145 = false := by kernel_rfl
theorem ty_bool145 : boolT Try.prog 145 = false := by kernel_rfl
theorem ty_z145 : zeroT Try.prog 145 = some [.nilFunc] := by kernel_rfl
theorem ty_ag146 : aggT Try.prog 146 = some false := by kernel_rfl
theorem ty_sz146 : szT Try.prog 146 = some 1 := by kernel_rfl
theorem ty_int146 : intT Try.prog 146 = none := by kernel_rfl
theorem ty_ifc146 : ifaceT Try.prog 146 = false := by kernel_rfl
theorem ty_m146_0 : methA Try.prog 146 "Hear" = some 143 := by kernel_rfl
theorem ty_k146_0 : nilOk Try.prog 146 "Hear" = true := by kernel_rfl
theorem ty_bool146 : boolT Try.prog 146 = false := by kernel_rfl
theorem ty_z146 : zeroT Try.prog 146 = some [.nilFunc] := by kernel_rfl
theorem ty_ag147 : aggT Try.prog 147 = some true := by kernel_rfl
theorem ty_sz147 : szT Try.prog 147 = some 8 := by kernel_rfl
theorem ty_int147 : intT Try.prog 147 = none := by kernel_rfl
theorem ty_ifc147 : ifaceT Try.prog 147 = false := by kernel_rfl
theorem ty_bool147 : boolT Try.prog 147 = false := by kernel_rfl
theorem ty_arr147 : arrT Try.prog 147 = some (8, 5, 1, false) := by kernel_rfl
theorem ty_pl147 : placeT Try.prog 147 = some (fun i => some (i * 1, 1)) := by kernel_rfl
theorem ty_z147 : zeroT Try.prog 147 = some [.int .u8 (0), .int .u8 (0), .int .u8 (0), .int .u8 (0), .int .u8 (0), .int .u8 (0), .int .u8 (0), .int .u8 (0)] := by kernel_rfl
theorem ty_ag148 : aggT Try.prog 148 = some true := by kernel_rfl
theorem ty_sz148 : szT Try.prog 148 = some 3 := by kernel_rfl
theorem ty_int148 : intT Try.prog 148 = none := by kernel_rfl
theorem ty_ifc148 : ifaceT Try.prog 148 = false := by kernel_rfl
theorem ty_bool148 : boolT Try.prog 148 = false := by kernel_rfl
theorem ty_arr148 : arrT Try.prog 148 = some (3, 56, 1, false) := by kernel_rfl
theorem ty_pl148 : placeT Try.prog 148 = some (fun i => some (i * 1, 1)) := by kernel_rfl
theorem ty_z148 : zeroT Try.prog 148 = some [.int .u16 (0), .int .u16 (0), .int .u16 (0)] := by kernel_rfl
theorem ty_ag149 : aggT Try.prog 149 = some false := by kernel_rfl
theorem ty_sz149 : szT Try.prog 149 = some 1 := by kernel_rfl
theorem ty_int149 : intT Try.prog 149 = some .u64 := by kernel_rfl
theorem ty_ifc149 : ifaceT Try.prog 149 = false := by kernel_rfl
theorem ty_bool149 : boolT Try.prog 149 = false := by kernel_rfl
theorem ty_z149 : zeroT Try.prog 149 = some [.int .u64 (0)] := by kernel_rfl
theorem ty_ag150 : aggT Try.prog 150 = some false := by kernel_rfl
theorem ty_sz150 : szT Try.prog 150 = some 1 := by kernel_rfl
theorem ty_int150 : intT Try.prog 150 = none := by kernel_rfl
theorem ty_ifc150 : ifaceT Try.prog 150 = false := by kernel_rfl
theorem ty_bool150 : boolT Try.prog 150 = false := by kernel_rfl
theorem ty_elem150 : elemT Try.prog 150 = some (58, 5, true) := by kernel_rfl
theorem ty_app150 : appT Try.prog 150 = some (58, 5, 8) := by kernel_rfl
theorem ty_z150 : zeroT Try.prog 150 = some [.slice none 0 0] := by kernel_rfl
theorem ty_ag151 : aggT Try.prog 151 = some false := by kernel_rfl
theorem ty_sz151 : szT Try.prog 151 = some 1 := by kernel_rfl
theorem ty_int151 : intT Try.prog 151 = none := by kernel_rfl
theorem ty_ifc151 : ifaceT Try.prog 151 = false := by kernel_rfl
theorem ty_bool151 : boolT Try.prog 151 = false := by kernel_rfl
theorem ty_elem151 : elemT Try.prog 151 = some (9, 1, false) := by kernel_rfl
theorem ty_app151 : appT Try.prog 151 = some (9, 1, 16) := by kernel_rfl
theorem ty_z151 : zeroT Try.prog 151 = some [.slice none 0 0] := by kernel_rfl
theorem ty_ag152 : aggT Try.prog 152 = some false := by kernel_rfl
theorem ty_sz152 : szT Try.prog 152 = some 1 := by kernel_rfl
theorem ty_int152 : intT Try.prog 152 = none := by kernel_rfl
theorem ty_ifc152 : ifaceT Try.prog 152 = false := by kernel_rfl
theorem ty_bool152 : boolT Try.prog 152 = false := by kernel_rfl
theorem ty_z152 : zeroT Try.prog 152 = some [.nilFunc] := by kernel_rfl
theorem ty_ag153 : aggT Try.prog 153 = some false := by kernel_rfl
theorem ty_sz153 : szT Try.prog 153 = some 1 := by kernel_rfl
theorem ty_int153 : intT Try.prog 153 = none := by kernel_rfl
theorem ty_ifc153 : ifaceT Try.prog 153 = false := by kernel_rfl
theorem ty_bool153 : boolT Try.prog 153 = false := by kernel_rfl
theorem ty_z153 : zeroT Try.prog 153 = some [.nilFunc] := by kernel_rfl
theorem ty_ag154 : aggT Try.prog 154 = some false := by kernel_rfl
theorem ty_sz154 : szT Try.prog 154 = some 1 := by kernel_rfl
theorem ty_int154 : intT Try.prog 154 = none := by kernel_rfl
theorem ty_ifc154 : ifaceT Try.prog 154 = false := by kernel_rfl
theorem ty_bool154 : boolT Try.prog 154 = false := by kernel_rfl
theorem ty_z154 : zeroT Try.prog 154 = some [.nilFunc] := by kernel_rfl
theorem ty_ag155 : aggT Try.prog 155 = some false := by kernel_rfl
theorem ty_sz155 : szT Try.prog 155 = some 1 := by kernel_rfl
theorem ty_int155 : intT Try.prog 155 = none := by kernel_rfl
theorem ty_ifc155 : ifaceT Try.prog 155 = false := by kernel_rfl
theorem ty_bool155 : boolT Try.prog 155 = false := by kernel_rfl
theorem ty_z155 : zeroT Try.prog 155 = some [.nilFunc] := by kernel_rfl
theorem ty_ag156 : aggT Try.prog 156 = some false := by kernel_rfl
theorem ty_sz156 : szT Try.prog 156 = some 1 := by kernel_rfl
theorem ty_int156 : intT Try.prog 156 = none := by kernel_rfl
theorem ty_ifc156 : ifaceT Try.prog 156 = false := by kernel_rfl
theorem ty_bool156 : boolT Try.prog 156 = false := by kernel_rfl
theorem ty_z156 : zeroT Try.prog 156 = some [.nilFunc] := by kernel_rfl
theorem ty_ag157 : aggT Try.prog 157 = some false := by kernel_rfl
theorem ty_sz157 : szT Try.prog 157 = some 1 := by kernel_rfl
theorem ty_int157 : intT Try.prog 157 = none := by kernel_rfl
theorem ty_ifc157 : ifaceT Try.prog 157 = false := by kernel_rfl
theorem ty_m157_0 : methA Try.prog 157 "plugboard/controls.begun" = some 60 := by kernel_rfl
theorem ty_k157_0 : nilOk Try.prog 157 "plugboard/controls.begun" = true := by kernel_rfl
theorem ty_m157_1 : methA Try.prog 157 "plugboard/controls.end" = some 59 := by kernel_rfl
theorem ty_k157_1 : nilOk Try.prog 157 "plugboard/controls.end" = true := by kernel_rfl
theorem ty_m157_2 : methA Try.prog 157 "plugboard/controls.finished" = some 62 := by kernel_rfl
theorem ty_k157_2 : nilOk Try.prog 157 "plugboard/controls.finished" = true := by kernel_rfl
theorem ty_m157_3 : methA Try.prog 157 "plugboard/controls.moved" = some 61 := by kernel_rfl
theorem ty_k157_3 : nilOk Try.prog 157 "plugboard/controls.moved" = true := by kernel_rfl
theorem ty_bool157 : boolT Try.prog 157 = false := by kernel_rfl
theorem ty_z157 : zeroT Try.prog 157 = some [.pointer none] := by kernel_rfl
theorem ty_ag158 : aggT Try.prog 158 = some true := by kernel_rfl
theorem ty_sz158 : szT Try.prog 158 = some 4 := by kernel_rfl
theorem ty_int158 : intT Try.prog 158 = none := by kernel_rfl
theorem ty_ifc158 : ifaceT Try.prog 158 = false := by kernel_rfl
theorem ty_bool158 : boolT Try.prog 158 = false := by kernel_rfl
theorem ty_arr158 : arrT Try.prog 158 = some (4, 155, 1, false) := by kernel_rfl
theorem ty_pl158 : placeT Try.prog 158 = some (fun i => some (i * 1, 1)) := by kernel_rfl
theorem ty_z158 : zeroT Try.prog 158 = some [.nilFunc, .nilFunc, .nilFunc, .nilFunc] := by kernel_rfl
theorem ty_ag159 : aggT Try.prog 159 = some false := by kernel_rfl
theorem ty_sz159 : szT Try.prog 159 = some 1 := by kernel_rfl
theorem ty_int159 : intT Try.prog 159 = none := by kernel_rfl
theorem ty_ifc159 : ifaceT Try.prog 159 = false := by kernel_rfl
theorem ty_bool159 : boolT Try.prog 159 = false := by kernel_rfl
theorem ty_z159 : zeroT Try.prog 159 = some [.nilFunc] := by kernel_rfl
theorem ty_ag160 : aggT Try.prog 160 = some false := by kernel_rfl
theorem ty_sz160 : szT Try.prog 160 = some 1 := by kernel_rfl
theorem ty_int160 : intT Try.prog 160 = none := by kernel_rfl
theorem ty_ifc160 : ifaceT Try.prog 160 = false := by kernel_rfl
theorem ty_bool160 : boolT Try.prog 160 = false := by kernel_rfl
theorem ty_z160 : zeroT Try.prog 160 = some [.nilFunc] := by kernel_rfl
theorem ty_ag161 : aggT Try.prog 161 = some false := by kernel_rfl
theorem ty_sz161 : szT Try.prog 161 = some 1 := by kernel_rfl
theorem ty_int161 : intT Try.prog 161 = none := by kernel_rfl
theorem ty_ifc161 : ifaceT Try.prog 161 = false := by kernel_rfl
theorem ty_bool161 : boolT Try.prog 161 = false := by kernel_rfl
theorem ty_z161 : zeroT Try.prog 161 = some [.nilFunc] := by kernel_rfl
theorem ty_ag162 : aggT Try.prog 162 = some false := by kernel_rfl
theorem ty_sz162 : szT Try.prog 162 = some 1 := by kernel_rfl
theorem ty_int162 : intT Try.prog 162 = none := by kernel_rfl
theorem ty_ifc162 : ifaceT Try.prog 162 = false := by kernel_rfl
theorem ty_bool162 : boolT Try.prog 162 = false := by kernel_rfl
theorem ty_z162 : zeroT Try.prog 162 = some [.nilFunc] := by kernel_rfl
theorem ty_ag163 : aggT Try.prog 163 = some false := by kernel_rfl
theorem ty_sz163 : szT Try.prog 163 = some 1 := by kernel_rfl
theorem ty_int163 : intT Try.prog 163 = none := by kernel_rfl
theorem ty_ifc163 : ifaceT Try.prog 163 = false := by kernel_rfl
theorem ty_bool163 : boolT Try.prog 163 = false := by kernel_rfl
theorem ty_z163 : zeroT Try.prog 163 = some [.nilFunc] := by kernel_rfl
theorem ty_ag164 : aggT Try.prog 164 = some false := by kernel_rfl
theorem ty_sz164 : szT Try.prog 164 = some 1 := by kernel_rfl
theorem ty_int164 : intT Try.prog 164 = none := by kernel_rfl
theorem ty_ifc164 : ifaceT Try.prog 164 = false := by kernel_rfl
theorem ty_bool164 : boolT Try.prog 164 = false := by kernel_rfl
theorem ty_z164 : zeroT Try.prog 164 = some [.nilFunc] := by kernel_rfl
theorem ty_ag165 : aggT Try.prog 165 = some false := by kernel_rfl
theorem ty_sz165 : szT Try.prog 165 = some 1 := by kernel_rfl
theorem ty_int165 : intT Try.prog 165 = none := by kernel_rfl
theorem ty_ifc165 : ifaceT Try.prog 165 = false := by kernel_rfl
theorem ty_bool165 : boolT Try.prog 165 = false := by kernel_rfl
theorem ty_z165 : zeroT Try.prog 165 = some [.nilFunc] := by kernel_rfl
theorem ty_ag166 : aggT Try.prog 166 = some true := by kernel_rfl
theorem ty_sz166 : szT Try.prog 166 = some 1 := by kernel_rfl
theorem ty_int166 : intT Try.prog 166 = none := by kernel_rfl
theorem ty_ifc166 : ifaceT Try.prog 166 = false := by kernel_rfl
theorem ty_bool166 : boolT Try.prog 166 = false := by kernel_rfl
theorem ty_f166_0 : fieldT Try.prog 166 0 = some (0, 1, false) := by kernel_rfl
theorem ty_pl166 : placeT Try.prog 166 = some (fun i => #[(0, 1)][i]?) := by kernel_rfl
theorem ty_z166 : zeroT Try.prog 166 = some [.slice none 0 0] := by kernel_rfl
theorem ty_ag167 : aggT Try.prog 167 = some true := by kernel_rfl
theorem ty_sz167 : szT Try.prog 167 = some 1 := by kernel_rfl
theorem ty_int167 : intT Try.prog 167 = none := by kernel_rfl
theorem ty_ifc167 : ifaceT Try.prog 167 = false := by kernel_rfl
theorem ty_bool167 : boolT Try.prog 167 = false := by kernel_rfl
theorem ty_f167_0 : fieldT Try.prog 167 0 = some (0, 1, false) := by kernel_rfl
theorem ty_pl167 : placeT Try.prog 167 = some (fun i => #[(0, 1)][i]?) := by kernel_rfl
theorem ty_z167 : zeroT Try.prog 167 = some [.slice none 0 0] := by kernel_rfl
theorem ty_ag168 : aggT Try.prog 168 = some false := by kernel_rfl
theorem ty_sz168 : szT Try.prog 168 = some 1 := by kernel_rfl
theorem ty_int168 : intT Try.prog 168 = none := by kernel_rfl
theorem ty_ifc168 : ifaceT Try.prog 168 = false := by kernel_rfl
theorem ty_bool168 : boolT Try.prog 168 = false := by kernel_rfl
theorem ty_z168 : zeroT Try.prog 168 = some [.nilFunc] := by kernel_rfl
theorem ty_ag169 : aggT Try.prog 169 = some false := by kernel_rfl
theorem ty_sz169 : szT Try.prog 169 = some 1 := by kernel_rfl
theorem ty_int169 : intT Try.prog 169 = none := by kernel_rfl
theorem ty_ifc169 : ifaceT Try.prog 169 = false := by kernel_rfl
theorem ty_bool169 : boolT Try.prog 169 = false := by kernel_rfl
theorem ty_z169 : zeroT Try.prog 169 = some [.nilFunc] := by kernel_rfl
theorem ty_ag170 : aggT Try.prog 170 = some false := by kernel_rfl
theorem ty_sz170 : szT Try.prog 170 = some 1 := by kernel_rfl
theorem ty_int170 : intT Try.prog 170 = none := by kernel_rfl
theorem ty_ifc170 : ifaceT Try.prog 170 = false := by kernel_rfl
theorem ty_bool170 : boolT Try.prog 170 = false := by kernel_rfl
theorem ty_z170 : zeroT Try.prog 170 = some [.nilFunc] := by kernel_rfl
theorem ty_ag171 : aggT Try.prog 171 = some false := by kernel_rfl
theorem ty_sz171 : szT Try.prog 171 = some 1 := by kernel_rfl
theorem ty_int171 : intT Try.prog 171 = none := by kernel_rfl
theorem ty_ifc171 : ifaceT Try.prog 171 = false := by kernel_rfl
theorem ty_bool171 : boolT Try.prog 171 = false := by kernel_rfl
theorem ty_z171 : zeroT Try.prog 171 = some [.nilFunc] := by kernel_rfl
theorem ty_ag172 : aggT Try.prog 172 = some false := by kernel_rfl
theorem ty_sz172 : szT Try.prog 172 = some 1 := by kernel_rfl
theorem ty_int172 : intT Try.prog 172 = none := by kernel_rfl
theorem ty_ifc172 : ifaceT Try.prog 172 = false := by kernel_rfl
theorem ty_bool172 : boolT Try.prog 172 = false := by kernel_rfl
theorem ty_z172 : zeroT Try.prog 172 = some [.nilFunc] := by kernel_rfl
theorem ty_ag173 : aggT Try.prog 173 = some false := by kernel_rfl
theorem ty_sz173 : szT Try.prog 173 = some 1 := by kernel_rfl
theorem ty_int173 : intT Try.prog 173 = none := by kernel_rfl
theorem ty_ifc173 : ifaceT Try.prog 173 = false := by kernel_rfl
theorem ty_bool173 : boolT Try.prog 173 = false := by kernel_rfl
theorem ty_z173 : zeroT Try.prog 173 = some [.nilFunc] := by kernel_rfl
theorem ty_ag174 : aggT Try.prog 174 = some true := by kernel_rfl
theorem ty_sz174 : szT Try.prog 174 = some 4 := by kernel_rfl
theorem ty_int174 : intT Try.prog 174 = none := by kernel_rfl
theorem ty_ifc174 : ifaceT Try.prog 174 = false := by kernel_rfl
theorem ty_bool174 : boolT Try.prog 174 = false := by kernel_rfl
theorem ty_f174_0 : fieldT Try.prog 174 0 = some (0, 2, true) := by kernel_rfl
theorem ty_f174_1 : fieldT Try.prog 174 1 = some (2, 2, true) := by kernel_rfl
theorem ty_pl174 : placeT Try.prog 174 = some (fun i => #[(0, 2), (2, 2)][i]?) := by kernel_rfl
theorem ty_z174 : zeroT Try.prog 174 = some [.bool false, .slice none 0 0, .bool false, .slice none 0 0] := by kernel_rfl
theorem ty_ag175 : aggT Try.prog 175 = some true := by kernel_rfl
theorem ty_sz175 : szT Try.prog 175 = some 4 := by kernel_rfl
theorem ty_int175 : intT Try.prog 175 = none := by kernel_rfl
theorem ty_ifc175 : ifaceT Try.prog 175 = false := by kernel_rfl
theorem ty_bool175 : boolT Try.prog 175 = false := by kernel_rfl
theorem ty_f175_0 : fieldT Try.prog 175 0 = some (0, 2, true) := by kernel_rfl
theorem ty_f175_1 : fieldT Try.prog 175 1 = some (2, 2, true) := by kernel_rfl
theorem ty_pl175 : placeT Try.prog 175 = some (fun i => #[(0, 2), (2, 2)][i]?) := by kernel_rfl
theorem ty_z175 : zeroT Try.prog 175 = some [.bool false, .slice none 0 0, .bool false, .slice none 0 0] := by kernel_rfl
theorem ty_ag176 : aggT Try.prog 176 = some false := by kernel_rfl
theorem ty_sz176 : szT Try.prog 176 = some 1 := by kernel_rfl
theorem ty_int176 : intT Try.prog 176 = none := by kernel_rfl
theorem ty_ifc176 : ifaceT Try.prog 176 = false := by kernel_rfl
theorem ty_bool176 : boolT Try.prog 176 = false := by kernel_rfl
theorem ty_z176 : zeroT Try.prog 176 = some [.map none] := by kernel_rfl
theorem ty_ag177 : aggT Try.prog 177 = some false := by kernel_rfl
theorem ty_sz177 : szT Try.prog 177 = some 1 := by kernel_rfl
theorem ty_int177 : intT Try.prog 177 = none := by kernel_rfl
theorem ty_ifc177 : ifaceT Try.prog 177 = true := by kernel_rfl
theorem ty_bool177 : boolT Try.prog 177 = false := by kernel_rfl
theorem ty_z177 : zeroT Try.prog 177 = some [.nilIface] := by kernel_rfl
theorem ty_ag178 : aggT Try.prog 178 = some false := by kernel_rfl
theorem ty_sz178 : szT Try.prog 178 = some 1 := by kernel_rfl
theorem ty_int178 : intT Try.prog 178 = none := by kernel_rfl
theorem ty_ifc178 : ifaceT Try.prog 178 = true := by kernel_rfl
theorem ty_bool178 : boolT Try.prog 178 = false := by kernel_rfl
theorem ty_z178 : zeroT Try.prog 178 = some [.nilIface] := by kernel_rfl
theorem ty_ag179 : aggT Try.prog 179 = some false := by kernel_rfl
theorem ty_sz179 : szT Try.prog 179 = some 1 := by kernel_rfl
theorem ty_int179 : intT Try.prog 179 = none := by kernel_rfl
theorem ty_ifc179 : ifaceT Try.prog 179 = false := by kernel_rfl
theorem ty_m179_0 : methA Try.prog 179 "plugboard/endpoints.acknowledged" = some 138 := by kernel_rfl
theorem ty_k179_0 : nilOk Try.prog 179 "plugboard/endpoints.acknowledged" = true := by kernel_rfl
theorem ty_m179_1 : methA Try.prog 179 "plugboard/endpoints.read" = some 139 := by kernel_rfl
theorem ty_k179_1 : nilOk Try.prog 179 "plugboard/endpoints.read" = true := by kernel_rfl
theorem ty_m179_2 : methA Try.prog 179 "plugboard/endpoints.take" = some 140 := by kernel_rfl
theorem ty_k179_2 : nilOk Try.prog 179 "plugboard/endpoints.take" = true := by kernel_rfl
theorem ty_m179_3 : methA Try.prog 179 "plugboard/endpoints.written" = some 137 := by kernel_rfl
theorem ty_k179_3 : nilOk Try.prog 179 "plugboard/endpoints.written" = true := by kernel_rfl
theorem ty_bool179 : boolT Try.prog 179 = false := by kernel_rfl
theorem ty_z179 : zeroT Try.prog 179 = some [.pointer none] := by kernel_rfl
theorem ty_ag180 : aggT Try.prog 180 = some true := by kernel_rfl
theorem ty_sz180 : szT Try.prog 180 = some 2 := by kernel_rfl
theorem ty_int180 : intT Try.prog 180 = none := by kernel_rfl
theorem ty_ifc180 : ifaceT Try.prog 180 = false := by kernel_rfl
theorem ty_bool180 : boolT Try.prog 180 = false := by kernel_rfl
theorem ty_f180_0 : fieldT Try.prog 180 0 = some (0, 1, false) := by kernel_rfl
theorem ty_f180_1 : fieldT Try.prog 180 1 = some (1, 1, false) := by kernel_rfl
theorem ty_pl180 : placeT Try.prog 180 = some (fun i => #[(0, 1), (1, 1)][i]?) := by kernel_rfl
theorem ty_z180 : zeroT Try.prog 180 = some [.int .u8 (0), .pointer none] := by kernel_rfl
theorem ty_ag181 : aggT Try.prog 181 = some true := by kernel_rfl
theorem ty_sz181 : szT Try.prog 181 = some 2 := by kernel_rfl
theorem ty_int181 : intT Try.prog 181 = none := by kernel_rfl
theorem ty_ifc181 : ifaceT Try.prog 181 = false := by kernel_rfl
theorem ty_bool181 : boolT Try.prog 181 = false := by kernel_rfl
theorem ty_f181_0 : fieldT Try.prog 181 0 = some (0, 1, false) := by kernel_rfl
theorem ty_f181_1 : fieldT Try.prog 181 1 = some (1, 1, false) := by kernel_rfl
theorem ty_pl181 : placeT Try.prog 181 = some (fun i => #[(0, 1), (1, 1)][i]?) := by kernel_rfl
theorem ty_z181 : zeroT Try.prog 181 = some [.int .u8 (0), .pointer none] := by kernel_rfl
theorem ty_ag182 : aggT Try.prog 182 = some true := by kernel_rfl
theorem ty_sz182 : szT Try.prog 182 = some 6 := by kernel_rfl
theorem ty_int182 : intT Try.prog 182 = none := by kernel_rfl
theorem ty_ifc182 : ifaceT Try.prog 182 = false := by kernel_rfl
theorem ty_bool182 : boolT Try.prog 182 = false := by kernel_rfl
theorem ty_f182_0 : fieldT Try.prog 182 0 = some (0, 1, false) := by kernel_rfl
theorem ty_f182_1 : fieldT Try.prog 182 1 = some (1, 1, false) := by kernel_rfl
theorem ty_f182_2 : fieldT Try.prog 182 2 = some (2, 1, false) := by kernel_rfl
theorem ty_f182_3 : fieldT Try.prog 182 3 = some (3, 1, false) := by kernel_rfl
theorem ty_f182_4 : fieldT Try.prog 182 4 = some (4, 2, true) := by kernel_rfl
theorem ty_pl182 : placeT Try.prog 182 = some (fun i => #[(0, 1), (1, 1), (2, 1), (3, 1), (4, 2)][i]?) := by kernel_rfl
theorem ty_z182 : zeroT Try.prog 182 = some [.bool false, .int .u8 (0), .map none, .nilIface, .int .u8 (0), .pointer none] := by kernel_rfl
theorem ty_ag183 : aggT Try.prog 183 = some true := by kernel_rfl
theorem ty_sz183 : szT Try.prog 183 = some 6 := by kernel_rfl
theorem ty_int183 : intT Try.prog 183 = none := by kernel_rfl
theorem ty_ifc183 : ifaceT Try.prog 183 = false := by kernel_rfl
theorem ty_bool183 : boolT Try.prog 183 = false := by kernel_rfl
theorem ty_f183_0 : fieldT Try.prog 183 0 = some (0, 1, false) := by kernel_rfl
theorem ty_f183_1 : fieldT Try.prog 183 1 = some (1, 1, false) := by kernel_rfl
theorem ty_f183_2 : fieldT Try.prog 183 2 = some (2, 1, false) := by kernel_rfl
theorem ty_f183_3 : fieldT Try.prog 183 3 = some (3, 1, false) := by kernel_rfl
theorem ty_f183_4 : fieldT Try.prog 183 4 = some (4, 2, true) := by kernel_rfl
theorem ty_pl183 : placeT Try.prog 183 = some (fun i => #[(0, 1), (1, 1), (2, 1), (3, 1), (4, 2)][i]?) := by kernel_rfl
theorem ty_z183 : zeroT Try.prog 183 = some [.bool false, .int .u8 (0), .map none, .nilIface, .int .u8 (0), .pointer none] := by kernel_rfl
theorem ty_ag184 : aggT Try.prog 184 = some false := by kernel_rfl
theorem ty_sz184 : szT Try.prog 184 = some 1 := by kernel_rfl
theorem ty_int184 : intT Try.prog 184 = none := by kernel_rfl
theorem ty_ifc184 : ifaceT Try.prog 184 = false := by kernel_rfl
theorem ty_bool184 : boolT Try.prog 184 = false := by kernel_rfl
theorem ty_z184 : zeroT Try.prog 184 = some [.nilFunc] := by kernel_rfl
theorem ty_ag185 : aggT Try.prog 185 = some false := by kernel_rfl
theorem ty_sz185 : szT Try.prog 185 = some 1 := by kernel_rfl
theorem ty_int185 : intT Try.prog 185 = none := by kernel_rfl
theorem ty_ifc185 : ifaceT Try.prog 185 = false := by kernel_rfl
theorem ty_bool185 : boolT Try.prog 185 = false := by kernel_rfl
theorem ty_z185 : zeroT Try.prog 185 = some [.pointer none] := by kernel_rfl
theorem ty_ag186 : aggT Try.prog 186 = some false := by kernel_rfl
theorem ty_sz186 : szT Try.prog 186 = some 1 := by kernel_rfl
theorem ty_int186 : intT Try.prog 186 = some .u8 := by kernel_rfl
theorem ty_ifc186 : ifaceT Try.prog 186 = false := by kernel_rfl
theorem ty_bool186 : boolT Try.prog 186 = false := by kernel_rfl
theorem ty_z186 : zeroT Try.prog 186 = some [.int .u8 (0)] := by kernel_rfl
theorem ty_ag187 : aggT Try.prog 187 = some false := by kernel_rfl
theorem ty_sz187 : szT Try.prog 187 = some 1 := by kernel_rfl
theorem ty_int187 : intT Try.prog 187 = none := by kernel_rfl
theorem ty_ifc187 : ifaceT Try.prog 187 = false := by kernel_rfl
theorem ty_bool187 : boolT Try.prog 187 = false := by kernel_rfl
theorem ty_z187 : zeroT Try.prog 187 = some [.nilFunc] := by kernel_rfl
theorem ty_ag188 : aggT Try.prog 188 = some false := by kernel_rfl
theorem ty_sz188 : szT Try.prog 188 = some 1 := by kernel_rfl
theorem ty_int188 : intT Try.prog 188 = none := by kernel_rfl
theorem ty_ifc188 : ifaceT Try.prog 188 = false := by kernel_rfl
theorem ty_bool188 : boolT Try.prog 188 = false := by kernel_rfl
theorem ty_elem188 : elemT Try.prog 188 = some (193, 3, true) := by kernel_rfl
theorem ty_app188 : appT Try.prog 188 = some (193, 3, 24) := by kernel_rfl
theorem ty_z188 : zeroT Try.prog 188 = some [.slice none 0 0] := by kernel_rfl
theorem ty_ag189 : aggT Try.prog 189 = some false := by kernel_rfl
theorem ty_sz189 : szT Try.prog 189 = some 1 := by kernel_rfl
theorem ty_int189 : intT Try.prog 189 = none := by kernel_rfl
theorem ty_ifc189 : ifaceT Try.prog 189 = false := by kernel_rfl
theorem ty_bool189 : boolT Try.prog 189 = false := by kernel_rfl
theorem ty_z189 : zeroT Try.prog 189 = some [.nilFunc] := by kernel_rfl
theorem ty_ag190 : aggT Try.prog 190 = some false := by kernel_rfl
theorem ty_sz190 : szT Try.prog 190 = some 1 := by kernel_rfl
theorem ty_int190 : intT Try.prog 190 = none := by kernel_rfl
theorem ty_ifc190 : ifaceT Try.prog 190 = false := by kernel_rfl
theorem ty_bool190 : boolT Try.prog 190 = false := by kernel_rfl
theorem ty_z190 : zeroT Try.prog 190 = some [.nilFunc] := by kernel_rfl
theorem ty_ag191 : aggT Try.prog 191 = some false := by kernel_rfl
theorem ty_sz191 : szT Try.prog 191 = some 1 := by kernel_rfl
theorem ty_int191 : intT Try.prog 191 = none := by kernel_rfl
theorem ty_ifc191 : ifaceT Try.prog 191 = false := by kernel_rfl
theorem ty_bool191 : boolT Try.prog 191 = false := by kernel_rfl
theorem ty_z191 : zeroT Try.prog 191 = some [.nilFunc] := by kernel_rfl
theorem ty_ag192 : aggT Try.prog 192 = some true := by kernel_rfl
theorem ty_sz192 : szT Try.prog 192 = some 3 := by kernel_rfl
theorem ty_int192 : intT Try.prog 192 = none := by kernel_rfl
theorem ty_ifc192 : ifaceT Try.prog 192 = false := by kernel_rfl
theorem ty_bool192 : boolT Try.prog 192 = false := by kernel_rfl
theorem ty_f192_0 : fieldT Try.prog 192 0 = some (0, 1, false) := by kernel_rfl
theorem ty_f192_1 : fieldT Try.prog 192 1 = some (1, 1, false) := by kernel_rfl
theorem ty_f192_2 : fieldT Try.prog 192 2 = some (2, 1, false) := by kernel_rfl
theorem ty_pl192 : placeT Try.prog 192 = some (fun i => #[(0, 1), (1, 1), (2, 1)][i]?) := by kernel_rfl
theorem ty_z192 : zeroT Try.prog 192 = some [.int .i64 (0), .nilFunc, .nilFunc] := by kernel_rfl
theorem ty_ag193 : aggT Try.prog 193 = some true := by kernel_rfl
theorem ty_sz193 : szT Try.prog 193 = some 3 := by kernel_rfl
theorem ty_int193 : intT Try.prog 193 = none := by kernel_rfl
theorem ty_ifc193 : ifaceT Try.prog 193 = false := by kernel_rfl
theorem ty_bool193 : boolT Try.prog 193 = false := by kernel_rfl
theorem ty_f193_0 : fieldT Try.prog 193 0 = some (0, 1, false) := by kernel_rfl
theorem ty_f193_1 : fieldT Try.prog 193 1 = some (1, 1, false) := by kernel_rfl
theorem ty_f193_2 : fieldT Try.prog 193 2 = some (2, 1, false) := by kernel_rfl
theorem ty_pl193 : placeT Try.prog 193 = some (fun i => #[(0, 1), (1, 1), (2, 1)][i]?) := by kernel_rfl
theorem ty_z193 : zeroT Try.prog 193 = some [.int .i64 (0), .nilFunc, .nilFunc] := by kernel_rfl
theorem ty_ag194 : aggT Try.prog 194 = some false := by kernel_rfl
theorem ty_sz194 : szT Try.prog 194 = some 1 := by kernel_rfl
theorem ty_int194 : intT Try.prog 194 = some .u32 := by kernel_rfl
theorem ty_ifc194 : ifaceT Try.prog 194 = false := by kernel_rfl
theorem ty_bool194 : boolT Try.prog 194 = false := by kernel_rfl
theorem ty_z194 : zeroT Try.prog 194 = some [.int .u32 (0)] := by kernel_rfl
theorem ty_ag195 : aggT Try.prog 195 = some false := by kernel_rfl
theorem ty_sz195 : szT Try.prog 195 = some 1 := by kernel_rfl
theorem ty_int195 : intT Try.prog 195 = none := by kernel_rfl
theorem ty_ifc195 : ifaceT Try.prog 195 = false := by kernel_rfl
theorem ty_m195_0 : methA Try.prog 195 "plugboard/packets.from" = some 90 := by kernel_rfl
theorem ty_k195_0 : nilOk Try.prog 195 "plugboard/packets.from" = true := by kernel_rfl
theorem ty_m195_1 : methA Try.prog 195 "plugboard/packets.number" = some 89 := by kernel_rfl
theorem ty_k195_1 : nilOk Try.prog 195 "plugboard/packets.number" = true := by kernel_rfl
theorem ty_bool195 : boolT Try.prog 195 = false := by kernel_rfl
theorem ty_z195 : zeroT Try.prog 195 = some [.pointer none] := by kernel_rfl
theorem ty_ag197 : aggT Try.prog 197 = some false := by kernel_rfl
theorem ty_sz197 : szT Try.prog 197 = some 1 := by kernel_rfl
theorem ty_int197 : intT Try.prog 197 = none := by kernel_rfl
theorem ty_ifc197 : ifaceT Try.prog 197 = false := by kernel_rfl
theorem ty_bool197 : boolT Try.prog 197 = false := by kernel_rfl
theorem ty_z197 : zeroT Try.prog 197 = some [.nilFunc] := by kernel_rfl
theorem ty_ag198 : aggT Try.prog 198 = some false := by kernel_rfl
theorem ty_sz198 : szT Try.prog 198 = some 1 := by kernel_rfl
theorem ty_int198 : intT Try.prog 198 = none := by kernel_rfl
theorem ty_ifc198 : ifaceT Try.prog 198 = false := by kernel_rfl
theorem ty_bool198 : boolT Try.prog 198 = false := by kernel_rfl
theorem ty_z198 : zeroT Try.prog 198 = some [.nilFunc] := by kernel_rfl
theorem ty_ag199 : aggT Try.prog 199 = some false := by kernel_rfl
theorem ty_sz199 : szT Try.prog 199 = some 1 := by kernel_rfl
theorem ty_int199 : intT Try.prog 199 = none := by kernel_rfl
theorem ty_ifc199 : ifaceT Try.prog 199 = false := by kernel_rfl
theorem ty_bool199 : boolT Try.prog 199 = false := by kernel_rfl
theorem ty_z199 : zeroT Try.prog 199 = some [.nilFunc] := by kernel_rfl
theorem ty_ag200 : aggT Try.prog 200 = some false := by kernel_rfl
theorem ty_sz200 : szT Try.prog 200 = some 1 := by kernel_rfl
theorem ty_int200 : intT Try.prog 200 = none := by kernel_rfl
theorem ty_ifc200 : ifaceT Try.prog 200 = false := by kernel_rfl
theorem ty_bool200 : boolT Try.prog 200 = false := by kernel_rfl
theorem ty_z200 : zeroT Try.prog 200 = some [.nilFunc] := by kernel_rfl
theorem ty_ag201 : aggT Try.prog 201 = some false := by kernel_rfl
theorem ty_sz201 : szT Try.prog 201 = some 1 := by kernel_rfl
theorem ty_int201 : intT Try.prog 201 = none := by kernel_rfl
theorem ty_ifc201 : ifaceT Try.prog 201 = false := by kernel_rfl
theorem ty_bool201 : boolT Try.prog 201 = false := by kernel_rfl
theorem ty_z201 : zeroT Try.prog 201 = some [.nilFunc] := by kernel_rfl
theorem ty_ag202 : aggT Try.prog 202 = some false := by kernel_rfl
theorem ty_sz202 : szT Try.prog 202 = some 1 := by kernel_rfl
theorem ty_int202 : intT Try.prog 202 = none := by kernel_rfl
theorem ty_ifc202 : ifaceT Try.prog 202 = false := by kernel_rfl
theorem ty_bool202 : boolT Try.prog 202 = false := by kernel_rfl
theorem ty_z202 : zeroT Try.prog 202 = some [.nilFunc] := by kernel_rfl
theorem ty_ag203 : aggT Try.prog 203 = some false := by kernel_rfl
theorem ty_sz203 : szT Try.prog 203 = some 1 := by kernel_rfl
theorem ty_int203 : intT Try.prog 203 = none := by kernel_rfl
theorem ty_ifc203 : ifaceT Try.prog 203 = false := by kernel_rfl
theorem ty_bool203 : boolT Try.prog 203 = false := by kernel_rfl
theorem ty_z203 : zeroT Try.prog 203 = some [.nilFunc] := by kernel_rfl
theorem ty_ag204 : aggT Try.prog 204 = some true := by kernel_rfl
theorem ty_sz204 : szT Try.prog 204 = some 4 := by kernel_rfl
theorem ty_int204 : intT Try.prog 204 = none := by kernel_rfl
theorem ty_ifc204 : ifaceT Try.prog 204 = false := by kernel_rfl
theorem ty_bool204 : boolT Try.prog 204 = false := by kernel_rfl
theorem ty_f204_0 : fieldT Try.prog 204 0 = some (0, 1, false) := by kernel_rfl
theorem ty_f204_1 : fieldT Try.prog 204 1 = some (1, 1, false) := by kernel_rfl
theorem ty_f204_2 : fieldT Try.prog 204 2 = some (2, 1, false) := by kernel_rfl
theorem ty_f204_3 : fieldT Try.prog 204 3 = some (3, 1, false) := by kernel_rfl
theorem ty_pl204 : placeT Try.prog 204 = some (fun i => #[(0, 1), (1, 1), (2, 1), (3, 1)][i]?) := by kernel_rfl
theorem ty_z204 : zeroT Try.prog 204 = some [.pointer none, .pointer none, .pointer none, .string ⟨#[]⟩] := by kernel_rfl
theorem ty_ag205 : aggT Try.prog 205 = some true := by kernel_rfl
theorem ty_sz205 : szT Try.prog 205 = some 4 := by kernel_rfl
theorem ty_int205 : intT Try.prog 205 = none := by kernel_rfl
theorem ty_ifc205 : ifaceT Try.prog 205 = false := by kernel_rfl
theorem ty_bool205 : boolT Try.prog 205 = false := by kernel_rfl
theorem ty_f205_0 : fieldT Try.prog 205 0 = some (0, 1, false) := by kernel_rfl
theorem ty_f205_1 : fieldT Try.prog 205 1 = some (1, 1, false) := by kernel_rfl
theorem ty_f205_2 : fieldT Try.prog 205 2 = some (2, 1, false) := by kernel_rfl
theorem ty_f205_3 : fieldT Try.prog 205 3 = some (3, 1, false) := by kernel_rfl
theorem ty_pl205 : placeT Try.prog 205 = some (fun i => #[(0, 1), (1, 1), (2, 1), (3, 1)][i]?) := by kernel_rfl
theorem ty_z205 : zeroT Try.prog 205 = some [.pointer none, .pointer none, .pointer none, .string ⟨#[]⟩] := by kernel_rfl
theorem ty_ag206 : aggT Try.prog 206 = some true := by kernel_rfl
theorem ty_sz206 : szT Try.prog 206 = some 0 := by kernel_rfl
theorem ty_int206 : intT Try.prog 206 = none := by kernel_rfl
theorem ty_ifc206 : ifaceT Try.prog 206 = false := by kernel_rfl
theorem ty_bool206 : boolT Try.prog 206 = false := by kernel_rfl
theorem ty_arr206 : arrT Try.prog 206 = some (0, 16, 1, false) := by kernel_rfl
theorem ty_pl206 : placeT Try.prog 206 = some (fun i => some (i * 1, 1)) := by kernel_rfl
theorem ty_z206 : zeroT Try.prog 206 = some [] := by kernel_rfl
theorem ty_ag207 : aggT Try.prog 207 = some true := by kernel_rfl
theorem ty_sz207 : szT Try.prog 207 = some 0 := by kernel_rfl
theorem ty_int207 : intT Try.prog 207 = none := by kernel_rfl
theorem ty_ifc207 : ifaceT Try.prog 207 = false := by kernel_rfl
theorem ty_bool207 : boolT Try.prog 207 = false := by kernel_rfl
theorem ty_pl207 : placeT Try.prog 207 = some (fun i => #[(0, 0)][i]?) := by kernel_rfl
theorem ty_z207 : zeroT Try.prog 207 = some [] := by kernel_rfl
theorem ty_ag208 : aggT Try.prog 208 = some true := by kernel_rfl
theorem ty_sz208 : szT Try.prog 208 = some 0 := by kernel_rfl
theorem ty_int208 : intT Try.prog 208 = none := by kernel_rfl
theorem ty_ifc208 : ifaceT Try.prog 208 = false := by kernel_rfl
theorem ty_bool208 : boolT Try.prog 208 = false := by kernel_rfl
theorem ty_pl208 : placeT Try.prog 208 = some (fun i => #[(0, 0)][i]?) := by kernel_rfl
theorem ty_z208 : zeroT Try.prog 208 = some [] := by kernel_rfl
theorem ty_ag209 : aggT Try.prog 209 = some false := by kernel_rfl
theorem ty_sz209 : szT Try.prog 209 = some 1 := by kernel_rfl
theorem ty_int209 : intT Try.prog 209 = some .u8 := by kernel_rfl
theorem ty_ifc209 : ifaceT Try.prog 209 = false := by kernel_rfl
theorem ty_bool209 : boolT Try.prog 209 = false := by kernel_rfl
theorem ty_z209 : zeroT Try.prog 209 = some [.int .u8 (0)] := by kernel_rfl
theorem ty_ag210 : aggT Try.prog 210 = some false := by kernel_rfl
theorem ty_sz210 : szT Try.prog 210 = some 1 := by kernel_rfl
theorem ty_int210 : intT Try.prog 210 = some .u8 := by kernel_rfl
theorem ty_ifc210 : ifaceT Try.prog 210 = false := by kernel_rfl
theorem ty_m210_0 : methA Try.prog 210 "String" = some 144 := by kernel_rfl
theorem ty_k210_0 : nilOk Try.prog 210 "String" = true := by kernel_rfl
theorem ty_bool210 : boolT Try.prog 210 = false := by kernel_rfl
theorem ty_z210 : zeroT Try.prog 210 = some [.int .u8 (0)] := by kernel_rfl
theorem ty_ag211 : aggT Try.prog 211 = some false := by kernel_rfl
theorem ty_sz211 : szT Try.prog 211 = some 1 := by kernel_rfl
theorem ty_int211 : intT Try.prog 211 = none := by kernel_rfl
theorem ty_ifc211 : ifaceT Try.prog 211 = false := by kernel_rfl
theorem ty_bool211 : boolT Try.prog 211 = false := by kernel_rfl
theorem ty_z211 : zeroT Try.prog 211 = some [.nilFunc] := by kernel_rfl
theorem ty_ag212 : aggT Try.prog 212 = some false := by kernel_rfl
theorem ty_sz212 : szT Try.prog 212 = some 1 := by kernel_rfl
theorem ty_int212 : intT Try.prog 212 = none := by kernel_rfl
theorem ty_ifc212 : ifaceT Try.prog 212 = false := by kernel_rfl
theorem ty_bool212 : boolT Try.prog 212 = false := by kernel_rfl
theorem ty_z212 : zeroT Try.prog 212 = some [.pointer none] := by kernel_rfl
theorem ty_ag213 : aggT Try.prog 213 = some false := by kernel_rfl
theorem ty_sz213 : szT Try.prog 213 = some 1 := by kernel_rfl
theorem ty_int213 : intT Try.prog 213 = some .i32 := by kernel_rfl
theorem ty_ifc213 : ifaceT Try.prog 213 = false := by kernel_rfl
theorem ty_bool213 : boolT Try.prog 213 = false := by kernel_rfl
theorem ty_z213 : zeroT Try.prog 213 = some [.int .i32 (0)] := by kernel_rfl
theorem ty_ag214 : aggT Try.prog 214 = some false := by kernel_rfl
theorem ty_sz214 : szT Try.prog 214 = some 1 := by kernel_rfl
theorem ty_int214 : intT Try.prog 214 = some .i32 := by kernel_rfl
theorem ty_ifc214 : ifaceT Try.prog 214 = false := by kernel_rfl
theorem ty_bool214 : boolT Try.prog 214 = false := by kernel_rfl
theorem ty_z214 : zeroT Try.prog 214 = some [.int .i32 (0)] := by kernel_rfl
theorem ty_ag215 : aggT Try.prog 215 = some true := by kernel_rfl
theorem ty_sz215 : szT Try.prog 215 = some 11 := by kernel_rfl
theorem ty_int215 : intT Try.prog 215 = none := by kernel_rfl
theorem ty_ifc215 : ifaceT Try.prog 215 = false := by kernel_rfl
theorem ty_bool215 : boolT Try.prog 215 = false := by kernel_rfl
theorem ty_f215_0 : fieldT Try.prog 215 0 = some (0, 1, false) := by kernel_rfl
theorem ty_f215_1 : fieldT Try.prog 215 1 = some (1, 1, false) := by kernel_rfl
theorem ty_f215_2 : fieldT Try.prog 215 2 = some (2, 1, false) := by kernel_rfl
theorem ty_f215_3 : fieldT Try.prog 215 3 = some (3, 1, false) := by kernel_rfl
theorem ty_f215_4 : fieldT Try.prog 215 4 = some (4, 1, false) := by kernel_rfl
theorem ty_f215_5 : fieldT Try.prog 215 5 = some (5, 1, false) := by kernel_rfl
theorem ty_f215_6 : fieldT Try.prog 215 6 = some (6, 1, false) := by kernel_rfl
theorem ty_f215_7 : fieldT Try.prog 215 7 = some (7, 1, false) := by kernel_rfl
theorem ty_f215_8 : fieldT Try.prog 215 8 = some (8, 1, false) := by kernel_rfl
theorem ty_f215_9 : fieldT Try.prog 215 9 = some (9, 1, false) := by kernel_rfl
theorem ty_f215_10 : fieldT Try.prog 215 10 = some (10, 1, false) := by kernel_rfl
theorem ty_pl215 : placeT Try.prog 215 = some (fun i => #[(0, 1), (1, 1), (2, 1), (3, 1), (4, 1), (5, 1), (6, 1), (7, 1), (8, 1), (9, 1), (10, 1)][i]?) := by kernel_rfl
theorem ty_z215 : zeroT Try.prog 215 = some [.int .u64 (0), .int .u64 (0), .int .u32 (0), .int .u8 (0), .int .u8 (0), .int .u8 (0), .int .u8 (0), .nilFunc, .pointer none, .int .i32 (0), .int .i32 (0)] := by kernel_rfl
theorem ty_ag216 : aggT Try.prog 216 = some true := by kernel_rfl
theorem ty_sz216 : szT Try.prog 216 = some 11 := by kernel_rfl
theorem ty_int216 : intT Try.prog 216 = none := by kernel_rfl
theorem ty_ifc216 : ifaceT Try.prog 216 = false := by kernel_rfl
theorem ty_bool216 : boolT Try.prog 216 = false := by kernel_rfl
theorem ty_f216_0 : fieldT Try.prog 216 0 = some (0, 1, false) := by kernel_rfl
theorem ty_f216_1 : fieldT Try.prog 216 1 = some (1, 1, false) := by kernel_rfl
theorem ty_f216_2 : fieldT Try.prog 216 2 = some (2, 1, false) := by kernel_rfl
theorem ty_f216_3 : fieldT Try.prog 216 3 = some (3, 1, false) := by kernel_rfl
theorem ty_f216_4 : fieldT Try.prog 216 4 = some (4, 1, false) := by kernel_rfl
theorem ty_f216_5 : fieldT Try.prog 216 5 = some (5, 1, false) := by kernel_rfl
theorem ty_f216_6 : fieldT Try.prog 216 6 = some (6, 1, false) := by kernel_rfl
theorem ty_f216_7 : fieldT Try.prog 216 7 = some (7, 1, false) := by kernel_rfl
theorem ty_f216_8 : fieldT Try.prog 216 8 = some (8, 1, false) := by kernel_rfl
theorem ty_f216_9 : fieldT Try.prog 216 9 = some (9, 1, false) := by kernel_rfl
theorem ty_f216_10 : fieldT Try.prog 216 10 = some (10, 1, false) := by kernel_rfl
theorem ty_pl216 : placeT Try.prog 216 = some (fun i => #[(0, 1), (1, 1), (2, 1), (3, 1), (4, 1), (5, 1), (6, 1), (7, 1), (8, 1), (9, 1), (10, 1)][i]?) := by kernel_rfl
theorem ty_z216 : zeroT Try.prog 216 = some [.int .u64 (0), .int .u64 (0), .int .u32 (0), .int .u8 (0), .int .u8 (0), .int .u8 (0), .int .u8 (0), .nilFunc, .pointer none, .int .i32 (0), .int .i32 (0)] := by kernel_rfl
theorem ty_ag218 : aggT Try.prog 218 = some false := by kernel_rfl
theorem ty_sz218 : szT Try.prog 218 = some 1 := by kernel_rfl
theorem ty_int218 : intT Try.prog 218 = none := by kernel_rfl
theorem ty_ifc218 : ifaceT Try.prog 218 = false := by kernel_rfl
theorem ty_bool218 : boolT Try.prog 218 = false := by kernel_rfl
theorem ty_z218 : zeroT Try.prog 218 = some [.nilFunc] := by kernel_rfl
theorem ty_ag219 : aggT Try.prog 219 = some false := by kernel_rfl
theorem ty_sz219 : szT Try.prog 219 = some 1 := by kernel_rfl
theorem ty_int219 : intT Try.prog 219 = none := by kernel_rfl
theorem ty_ifc219 : ifaceT Try.prog 219 = false := by kernel_rfl
theorem ty_bool219 : boolT Try.prog 219 = false := by kernel_rfl
theorem ty_z219 : zeroT Try.prog 219 = some [.nilFunc] := by kernel_rfl
theorem ty_ag220 : aggT Try.prog 220 = some true := by kernel_rfl
theorem ty_sz220 : szT Try.prog 220 = some 2 := by kernel_rfl
theorem ty_int220 : intT Try.prog 220 = none := by kernel_rfl
theorem ty_eq220 : eqT Try.prog 220 = some [true, false] := by kernel_rfl
theorem ty_ifc220 : ifaceT Try.prog 220 = false := by kernel_rfl
theorem ty_bool220 : boolT Try.prog 220 = false := by kernel_rfl
theorem ty_f220_0 : fieldT Try.prog 220 0 = some (0, 1, false) := by kernel_rfl
theorem ty_f220_1 : fieldT Try.prog 220 1 = some (1, 1, false) := by kernel_rfl
theorem ty_pl220 : placeT Try.prog 220 = some (fun i => #[(0, 1), (1, 1)][i]?) := by kernel_rfl
theorem ty_z220 : zeroT Try.prog 220 = some [.int .u8 (0), .bool false] := by kernel_rfl
theorem ty_ag221 : aggT Try.prog 221 = some true := by kernel_rfl
theorem ty_sz221 : szT Try.prog 221 = some 2 := by kernel_rfl
theorem ty_int221 : intT Try.prog 221 = none := by kernel_rfl
theorem ty_eq221 : eqT Try.prog 221 = some [true, false] := by kernel_rfl
theorem ty_ifc221 : ifaceT Try.prog 221 = false := by kernel_rfl
theorem ty_bool221 : boolT Try.prog 221 = false := by kernel_rfl
theorem ty_f221_0 : fieldT Try.prog 221 0 = some (0, 1, false) := by kernel_rfl
theorem ty_f221_1 : fieldT Try.prog 221 1 = some (1, 1, false) := by kernel_rfl
theorem ty_pl221 : placeT Try.prog 221 = some (fun i => #[(0, 1), (1, 1)][i]?) := by kernel_rfl
theorem ty_z221 : zeroT Try.prog 221 = some [.int .u8 (0), .bool false] := by kernel_rfl
theorem ty_ag222 : aggT Try.prog 222 = some true := by kernel_rfl
theorem ty_sz222 : szT Try.prog 222 = some 4 := by kernel_rfl
theorem ty_int222 : intT Try.prog 222 = none := by kernel_rfl
theorem ty_eq222 : eqT Try.prog 222 = some [true, false, true, true] := by kernel_rfl
theorem ty_ifc222 : ifaceT Try.prog 222 = false := by kernel_rfl
theorem ty_bool222 : boolT Try.prog 222 = false := by kernel_rfl
theorem ty_f222_0 : fieldT Try.prog 222 0 = some (0, 1, false) := by kernel_rfl
theorem ty_f222_1 : fieldT Try.prog 222 1 = some (1, 1, false) := by kernel_rfl
theorem ty_f222_2 : fieldT Try.prog 222 2 = some (2, 1, false) := by kernel_rfl
theorem ty_f222_3 : fieldT Try.prog 222 3 = some (3, 1, false) := by kernel_rfl
theorem ty_pl222 : placeT Try.prog 222 = some (fun i => #[(0, 1), (1, 1), (2, 1), (3, 1)][i]?) := by kernel_rfl
theorem ty_z222 : zeroT Try.prog 222 = some [.int .u8 (0), .bool false, .int .u8 (0), .int .i64 (0)] := by kernel_rfl
theorem ty_ag223 : aggT Try.prog 223 = some true := by kernel_rfl
theorem ty_sz223 : szT Try.prog 223 = some 4 := by kernel_rfl
theorem ty_int223 : intT Try.prog 223 = none := by kernel_rfl
theorem ty_eq223 : eqT Try.prog 223 = some [true, false, true, true] := by kernel_rfl
theorem ty_ifc223 : ifaceT Try.prog 223 = false := by kernel_rfl
theorem ty_bool223 : boolT Try.prog 223 = false := by kernel_rfl
theorem ty_f223_0 : fieldT Try.prog 223 0 = some (0, 1, false) := by kernel_rfl
theorem ty_f223_1 : fieldT Try.prog 223 1 = some (1, 1, false) := by kernel_rfl
theorem ty_f223_2 : fieldT Try.prog 223 2 = some (2, 1, false) := by kernel_rfl
theorem ty_f223_3 : fieldT Try.prog 223 3 = some (3, 1, false) := by kernel_rfl
theorem ty_pl223 : placeT Try.prog 223 = some (fun i => #[(0, 1), (1, 1), (2, 1), (3, 1)][i]?) := by kernel_rfl
theorem ty_z223 : zeroT Try.prog 223 = some [.int .u8 (0), .bool false, .int .u8 (0), .int .i64 (0)] := by kernel_rfl
theorem ty_ag224 : aggT Try.prog 224 = some true := by kernel_rfl
theorem ty_sz224 : szT Try.prog 224 = some 1 := by kernel_rfl
theorem ty_int224 : intT Try.prog 224 = none := by kernel_rfl
theorem ty_ifc224 : ifaceT Try.prog 224 = false := by kernel_rfl
theorem ty_bool224 : boolT Try.prog 224 = false := by kernel_rfl
theorem ty_f224_0 : fieldT Try.prog 224 0 = some (0, 1, false) := by kernel_rfl
theorem ty_pl224 : placeT Try.prog 224 = some (fun i => #[(0, 1)][i]?) := by kernel_rfl
theorem ty_z224 : zeroT Try.prog 224 = some [.slice none 0 0] := by kernel_rfl
theorem ty_ag225 : aggT Try.prog 225 = some true := by kernel_rfl
theorem ty_sz225 : szT Try.prog 225 = some 1 := by kernel_rfl
theorem ty_int225 : intT Try.prog 225 = none := by kernel_rfl
theorem ty_ifc225 : ifaceT Try.prog 225 = false := by kernel_rfl
theorem ty_bool225 : boolT Try.prog 225 = false := by kernel_rfl
theorem ty_f225_0 : fieldT Try.prog 225 0 = some (0, 1, false) := by kernel_rfl
theorem ty_pl225 : placeT Try.prog 225 = some (fun i => #[(0, 1)][i]?) := by kernel_rfl
theorem ty_z225 : zeroT Try.prog 225 = some [.slice none 0 0] := by kernel_rfl
theorem ty_ag226 : aggT Try.prog 226 = some true := by kernel_rfl
theorem ty_sz226 : szT Try.prog 226 = some 2 := by kernel_rfl
theorem ty_int226 : intT Try.prog 226 = none := by kernel_rfl
theorem ty_ifc226 : ifaceT Try.prog 226 = false := by kernel_rfl
theorem ty_bool226 : boolT Try.prog 226 = false := by kernel_rfl
theorem ty_f226_0 : fieldT Try.prog 226 0 = some (0, 1, false) := by kernel_rfl
theorem ty_f226_1 : fieldT Try.prog 226 1 = some (1, 1, false) := by kernel_rfl
theorem ty_pl226 : placeT Try.prog 226 = some (fun i => #[(0, 1), (1, 1)][i]?) := by kernel_rfl
theorem ty_z226 : zeroT Try.prog 226 = some [.int .i64 (0), .slice none 0 0] := by kernel_rfl
theorem ty_ag227 : aggT Try.prog 227 = some true := by kernel_rfl
theorem ty_sz227 : szT Try.prog 227 = some 2 := by kernel_rfl
theorem ty_int227 : intT Try.prog 227 = none := by kernel_rfl
theorem ty_ifc227 : ifaceT Try.prog 227 = false := by kernel_rfl
theorem ty_bool227 : boolT Try.prog 227 = false := by kernel_rfl
theorem ty_f227_0 : fieldT Try.prog 227 0 = some (0, 1, false) := by kernel_rfl
theorem ty_f227_1 : fieldT Try.prog 227 1 = some (1, 1, false) := by kernel_rfl
theorem ty_pl227 : placeT Try.prog 227 = some (fun i => #[(0, 1), (1, 1)][i]?) := by kernel_rfl
theorem ty_z227 : zeroT Try.prog 227 = some [.int .i64 (0), .slice none 0 0] := by kernel_rfl
theorem ty_ag228 : aggT Try.prog 228 = some true := by kernel_rfl
theorem ty_sz228 : szT Try.prog 228 = some 9 := by kernel_rfl
theorem ty_int228 : intT Try.prog 228 = none := by kernel_rfl
theorem ty_ifc228 : ifaceT Try.prog 228 = false := by kernel_rfl
theorem ty_bool228 : boolT Try.prog 228 = false := by kernel_rfl
theorem ty_f228_0 : fieldT Try.prog 228 0 = some (0, 1, true) := by kernel_rfl
theorem ty_f228_1 : fieldT Try.prog 228 1 = some (1, 2, true) := by kernel_rfl
theorem ty_f228_2 : fieldT Try.prog 228 2 = some (3, 4, true) := by kernel_rfl
theorem ty_f228_3 : fieldT Try.prog 228 3 = some (7, 1, false) := by kernel_rfl
theorem ty_f228_4 : fieldT Try.prog 228 4 = some (8, 1, false) := by kernel_rfl
theorem ty_pl228 : placeT Try.prog 228 = some (fun i => #[(0, 1), (1, 2), (3, 4), (7, 1), (8, 1)][i]?) := by kernel_rfl
theorem ty_z228 : zeroT Try.prog 228 = some [.slice none 0 0, .int .i64 (0), .slice none 0 0, .int .u8 (0), .bool false, .int .u8 (0), .int .i64 (0), .bool false, .bool false] := by kernel_rfl
theorem ty_ag229 : aggT Try.prog 229 = some true := by kernel_rfl
theorem ty_sz229 : szT Try.prog 229 = some 9 := by kernel_rfl
theorem ty_int229 : intT Try.prog 229 = none := by kernel_rfl
theorem ty_ifc229 : ifaceT Try.prog 229 = false := by kernel_rfl
theorem ty_bool229 : boolT Try.prog 229 = false := by kernel_rfl
theorem ty_f229_0 : fieldT Try.prog 229 0 = some (0, 1, true) := by kernel_rfl
theorem ty_f229_1 : fieldT Try.prog 229 1 = some (1, 2, true) := by kernel_rfl
theorem ty_f229_2 : fieldT Try.prog 229 2 = some (3, 4, true) := by kernel_rfl
theorem ty_f229_3 : fieldT Try.prog 229 3 = some (7, 1, false) := by kernel_rfl
theorem ty_f229_4 : fieldT Try.prog 229 4 = some (8, 1, false) := by kernel_rfl
theorem ty_pl229 : placeT Try.prog 229 = some (fun i => #[(0, 1), (1, 2), (3, 4), (7, 1), (8, 1)][i]?) := by kernel_rfl
theorem ty_z229 : zeroT Try.prog 229 = some [.slice none 0 0, .int .i64 (0), .slice none 0 0, .int .u8 (0), .bool false, .int .u8 (0), .int .i64 (0), .bool false, .bool false] := by kernel_rfl
theorem ty_ag230 : aggT Try.prog 230 = some false := by kernel_rfl
theorem ty_sz230 : szT Try.prog 230 = some 1 := by kernel_rfl
theorem ty_int230 : intT Try.prog 230 = none := by kernel_rfl
theorem ty_ifc230 : ifaceT Try.prog 230 = false := by kernel_rfl
theorem ty_bool230 : boolT Try.prog 230 = false := by kernel_rfl
theorem ty_z230 : zeroT Try.prog 230 = some [.nilFunc] := by kernel_rfl
theorem ty_mixed : Try.prog.follows .mixedOrders = true := by kernel_rfl
theorem isf2 : IsFn Try.prog 2 Try.f2 := ⟨Try.func2, by kernel_rfl, by kernel_rfl⟩
theorem fok2 : fnOk Try.f2 = true := by kernel_rfl
theorem isf3 : IsFn Try.prog 3 Try.f3 := ⟨Try.func3, by kernel_rfl, by kernel_rfl⟩
theorem fok3 : fnOk Try.f3 = true := by kernel_rfl
theorem isf4 : IsFn Try.prog 4 Try.f4 := ⟨Try.func4, by kernel_rfl, by kernel_rfl⟩
theorem fok4 : fnOk Try.f4 = true := by kernel_rfl
theorem isf5 : IsFn Try.prog 5 Try.f5 := ⟨Try.func5, by kernel_rfl, by kernel_rfl⟩
theorem fok5 : fnOk Try.f5 = true := by kernel_rfl
theorem isf6 : IsFn Try.prog 6 Try.f6 := ⟨Try.func6, by kernel_rfl, by kernel_rfl⟩
theorem fok6 : fnOk Try.f6 = true := by kernel_rfl
theorem isf7 : IsFn Try.prog 7 Try.f7 := ⟨Try.func7, by kernel_rfl, by kernel_rfl⟩
theorem fok7 : fnOk Try.f7 = true := by kernel_rfl
theorem isf8 : IsFn Try.prog 8 Try.f8 := ⟨Try.func8, by kernel_rfl, by kernel_rfl⟩
theorem fok8 : fnOk Try.f8 = true := by kernel_rfl
theorem isf9 : IsFn Try.prog 9 Try.f9 := ⟨Try.func9, by kernel_rfl, by kernel_rfl⟩
theorem fok9 : fnOk Try.f9 = true := by kernel_rfl
theorem isf10 : IsFn Try.prog 10 Try.f10 := ⟨Try.func10, by kernel_rfl, by kernel_rfl⟩
theorem fok10 : fnOk Try.f10 = true := by kernel_rfl
theorem isf11 : IsFn Try.prog 11 Try.f11 := ⟨Try.func11, by kernel_rfl, by kernel_rfl⟩
theorem fok11 : fnOk Try.f11 = true := by kernel_rfl
theorem isf12 : IsFn Try.prog 12 Try.f12 := ⟨Try.func12, by kernel_rfl, by kernel_rfl⟩
theorem fok12 : fnOk Try.f12 = true := by kernel_rfl
theorem isf13 : IsFn Try.prog 13 Try.f13 := ⟨Try.func13, by kernel_rfl, by kernel_rfl⟩
theorem fok13 : fnOk Try.f13 = true := by kernel_rfl
theorem isf14 : IsFn Try.prog 14 Try.f14 := ⟨Try.func14, by kernel_rfl, by kernel_rfl⟩
theorem fok14 : fnOk Try.f14 = true := by kernel_rfl
theorem isf15 : IsFn Try.prog 15 Try.f15 := ⟨Try.func15, by kernel_rfl, by kernel_rfl⟩
theorem fok15 : fnOk Try.f15 = true := by kernel_rfl
theorem isf16 : IsFn Try.prog 16 Try.f16 := ⟨Try.func16, by kernel_rfl, by kernel_rfl⟩
theorem fok16 : fnOk Try.f16 = true := by kernel_rfl
theorem isf17 : IsFn Try.prog 17 Try.f17 := ⟨Try.func17, by kernel_rfl, by kernel_rfl⟩
theorem fok17 : fnOk Try.f17 = true := by kernel_rfl
theorem isf18 : IsFn Try.prog 18 Try.f18 := ⟨Try.func18, by kernel_rfl, by kernel_rfl⟩
theorem fok18 : fnOk Try.f18 = true := by kernel_rfl
theorem isf19 : IsFn Try.prog 19 Try.f19 := ⟨Try.func19, by kernel_rfl, by kernel_rfl⟩
theorem fok19 : fnOk Try.f19 = true := by kernel_rfl
theorem isf20 : IsFn Try.prog 20 Try.f20 := ⟨Try.func20, by kernel_rfl, by kernel_rfl⟩
theorem fok20 : fnOk Try.f20 = true := by kernel_rfl
theorem isf21 : IsFn Try.prog 21 Try.f21 := ⟨Try.func21, by kernel_rfl, by kernel_rfl⟩
theorem fok21 : fnOk Try.f21 = true := by kernel_rfl
theorem isf22 : IsFn Try.prog 22 Try.f22 := ⟨Try.func22, by kernel_rfl, by kernel_rfl⟩
theorem fok22 : fnOk Try.f22 = true := by kernel_rfl
theorem isf23 : IsFn Try.prog 23 Try.f23 := ⟨Try.func23, by kernel_rfl, by kernel_rfl⟩
theorem fok23 : fnOk Try.f23 = true := by kernel_rfl
theorem isf24 : IsFn Try.prog 24 Try.f24 := ⟨Try.func24, by kernel_rfl, by kernel_rfl⟩
theorem fok24 : fnOk Try.f24 = true := by kernel_rfl
theorem isf25 : IsFn Try.prog 25 Try.f25 := ⟨Try.func25, by kernel_rfl, by kernel_rfl⟩
theorem fok25 : fnOk Try.f25 = true := by kernel_rfl
theorem isf26 : IsFn Try.prog 26 Try.f26 := ⟨Try.func26, by kernel_rfl, by kernel_rfl⟩
theorem fok26 : fnOk Try.f26 = true := by kernel_rfl
theorem isf27 : IsFn Try.prog 27 Try.f27 := ⟨Try.func27, by kernel_rfl, by kernel_rfl⟩
theorem fok27 : fnOk Try.f27 = true := by kernel_rfl
theorem isf28 : IsFn Try.prog 28 Try.f28 := ⟨Try.func28, by kernel_rfl, by kernel_rfl⟩
theorem fok28 : fnOk Try.f28 = true := by kernel_rfl
theorem isf29 : IsFn Try.prog 29 Try.f29 := ⟨Try.func29, by kernel_rfl, by kernel_rfl⟩
theorem fok29 : fnOk Try.f29 = true := by kernel_rfl
theorem isf30 : IsFn Try.prog 30 Try.f30 := ⟨Try.func30, by kernel_rfl, by kernel_rfl⟩
theorem fok30 : fnOk Try.f30 = true := by kernel_rfl
theorem isf31 : IsFn Try.prog 31 Try.f31 := ⟨Try.func31, by kernel_rfl, by kernel_rfl⟩
theorem fok31 : fnOk Try.f31 = true := by kernel_rfl
theorem isf32 : IsFn Try.prog 32 Try.f32 := ⟨Try.func32, by kernel_rfl, by kernel_rfl⟩
theorem fok32 : fnOk Try.f32 = true := by kernel_rfl
theorem isf33 : IsFn Try.prog 33 Try.f33 := ⟨Try.func33, by kernel_rfl, by kernel_rfl⟩
theorem fok33 : fnOk Try.f33 = true := by kernel_rfl
theorem isf34 : IsFn Try.prog 34 Try.f34 := ⟨Try.func34, by kernel_rfl, by kernel_rfl⟩
theorem fok34 : fnOk Try.f34 = true := by kernel_rfl
theorem isf35 : IsFn Try.prog 35 Try.f35 := ⟨Try.func35, by kernel_rfl, by kernel_rfl⟩
theorem fok35 : fnOk Try.f35 = true := by kernel_rfl
theorem isf36 : IsFn Try.prog 36 Try.f36 := ⟨Try.func36, by kernel_rfl, by kernel_rfl⟩
theorem fok36 : fnOk Try.f36 = true := by kernel_rfl
theorem isf37 : IsFn Try.prog 37 Try.f37 := ⟨Try.func37, by kernel_rfl, by kernel_rfl⟩
theorem fok37 : fnOk Try.f37 = true := by kernel_rfl
theorem isf38 : IsFn Try.prog 38 Try.f38 := ⟨Try.func38, by kernel_rfl, by kernel_rfl⟩
theorem fok38 : fnOk Try.f38 = true := by kernel_rfl
theorem isf39 : IsFn Try.prog 39 Try.f39 := ⟨Try.func39, by kernel_rfl, by kernel_rfl⟩
theorem fok39 : fnOk Try.f39 = true := by kernel_rfl
theorem isf40 : IsFn Try.prog 40 Try.f40 := ⟨Try.func40, by kernel_rfl, by kernel_rfl⟩
theorem fok40 : fnOk Try.f40 = true := by kernel_rfl
theorem isf41 : IsFn Try.prog 41 Try.f41 := ⟨Try.func41, by kernel_rfl, by kernel_rfl⟩
theorem fok41 : fnOk Try.f41 = true := by kernel_rfl
theorem isf42 : IsFn Try.prog 42 Try.f42 := ⟨Try.func42, by kernel_rfl, by kernel_rfl⟩
theorem fok42 : fnOk Try.f42 = true := by kernel_rfl
theorem isf43 : IsFn Try.prog 43 Try.f43 := ⟨Try.func43, by kernel_rfl, by kernel_rfl⟩
theorem fok43 : fnOk Try.f43 = true := by kernel_rfl
theorem isf44 : IsFn Try.prog 44 Try.f44 := ⟨Try.func44, by kernel_rfl, by kernel_rfl⟩
theorem fok44 : fnOk Try.f44 = true := by kernel_rfl
theorem isf45 : IsFn Try.prog 45 Try.f45 := ⟨Try.func45, by kernel_rfl, by kernel_rfl⟩
theorem fok45 : fnOk Try.f45 = true := by kernel_rfl
theorem isf46 : IsFn Try.prog 46 Try.f46 := ⟨Try.func46, by kernel_rfl, by kernel_rfl⟩
theorem fok46 : fnOk Try.f46 = true := by kernel_rfl
theorem isf47 : IsFn Try.prog 47 Try.f47 := ⟨Try.func47, by kernel_rfl, by kernel_rfl⟩
theorem fok47 : fnOk Try.f47 = true := by kernel_rfl
theorem isf48 : IsFn Try.prog 48 Try.f48 := ⟨Try.func48, by kernel_rfl, by kernel_rfl⟩
theorem fok48 : fnOk Try.f48 = true := by kernel_rfl
theorem isf49 : IsFn Try.prog 49 Try.f49 := ⟨Try.func49, by kernel_rfl, by kernel_rfl⟩
theorem fok49 : fnOk Try.f49 = true := by kernel_rfl
theorem isf50 : IsFn Try.prog 50 Try.f50 := ⟨Try.func50, by kernel_rfl, by kernel_rfl⟩
theorem fok50 : fnOk Try.f50 = true := by kernel_rfl
theorem isf51 : IsFn Try.prog 51 Try.f51 := ⟨Try.func51, by kernel_rfl, by kernel_rfl⟩
theorem fok51 : fnOk Try.f51 = true := by kernel_rfl
theorem isf52 : IsFn Try.prog 52 Try.f52 := ⟨Try.func52, by kernel_rfl, by kernel_rfl⟩
theorem fok52 : fnOk Try.f52 = true := by kernel_rfl
theorem isf53 : IsFn Try.prog 53 Try.f53 := ⟨Try.func53, by kernel_rfl, by kernel_rfl⟩
theorem fok53 : fnOk Try.f53 = true := by kernel_rfl
theorem isf54 : IsFn Try.prog 54 Try.f54 := ⟨Try.func54, by kernel_rfl, by kernel_rfl⟩
theorem fok54 : fnOk Try.f54 = true := by kernel_rfl
theorem isf55 : IsFn Try.prog 55 Try.f55 := ⟨Try.func55, by kernel_rfl, by kernel_rfl⟩
theorem fok55 : fnOk Try.f55 = true := by kernel_rfl
theorem isf56 : IsFn Try.prog 56 Try.f56 := ⟨Try.func56, by kernel_rfl, by kernel_rfl⟩
theorem fok56 : fnOk Try.f56 = true := by kernel_rfl
theorem isf57 : IsFn Try.prog 57 Try.f57 := ⟨Try.func57, by kernel_rfl, by kernel_rfl⟩
theorem fok57 : fnOk Try.f57 = true := by kernel_rfl
theorem isf58 : IsFn Try.prog 58 Try.f58 := ⟨Try.func58, by kernel_rfl, by kernel_rfl⟩
theorem fok58 : fnOk Try.f58 = true := by kernel_rfl
theorem isf59 : IsFn Try.prog 59 Try.f59 := ⟨Try.func59, by kernel_rfl, by kernel_rfl⟩
theorem fok59 : fnOk Try.f59 = true := by kernel_rfl
theorem isf60 : IsFn Try.prog 60 Try.f60 := ⟨Try.func60, by kernel_rfl, by kernel_rfl⟩
theorem fok60 : fnOk Try.f60 = true := by kernel_rfl
theorem isf61 : IsFn Try.prog 61 Try.f61 := ⟨Try.func61, by kernel_rfl, by kernel_rfl⟩
theorem fok61 : fnOk Try.f61 = true := by kernel_rfl
theorem isf62 : IsFn Try.prog 62 Try.f62 := ⟨Try.func62, by kernel_rfl, by kernel_rfl⟩
theorem fok62 : fnOk Try.f62 = true := by kernel_rfl
theorem isf63 : IsFn Try.prog 63 Try.f63 := ⟨Try.func63, by kernel_rfl, by kernel_rfl⟩
theorem fok63 : fnOk Try.f63 = true := by kernel_rfl
theorem isf64 : IsFn Try.prog 64 Try.f64 := ⟨Try.func64, by kernel_rfl, by kernel_rfl⟩
theorem fok64 : fnOk Try.f64 = true := by kernel_rfl
theorem isf65 : IsFn Try.prog 65 Try.f65 := ⟨Try.func65, by kernel_rfl, by kernel_rfl⟩
theorem fok65 : fnOk Try.f65 = true := by kernel_rfl
theorem isf66 : IsFn Try.prog 66 Try.f66 := ⟨Try.func66, by kernel_rfl, by kernel_rfl⟩
theorem fok66 : fnOk Try.f66 = true := by kernel_rfl
theorem isf67 : IsFn Try.prog 67 Try.f67 := ⟨Try.func67, by kernel_rfl, by kernel_rfl⟩
theorem fok67 : fnOk Try.f67 = true := by kernel_rfl
theorem isf68 : IsFn Try.prog 68 Try.f68 := ⟨Try.func68, by kernel_rfl, by kernel_rfl⟩
theorem fok68 : fnOk Try.f68 = true := by kernel_rfl
theorem isf69 : IsFn Try.prog 69 Try.f69 := ⟨Try.func69, by kernel_rfl, by kernel_rfl⟩
theorem fok69 : fnOk Try.f69 = true := by kernel_rfl
theorem isf70 : IsFn Try.prog 70 Try.f70 := ⟨Try.func70, by kernel_rfl, by kernel_rfl⟩
theorem fok70 : fnOk Try.f70 = true := by kernel_rfl
theorem isf71 : IsFn Try.prog 71 Try.f71 := ⟨Try.func71, by kernel_rfl, by kernel_rfl⟩
theorem fok71 : fnOk Try.f71 = true := by kernel_rfl
theorem isf72 : IsFn Try.prog 72 Try.f72 := ⟨Try.func72, by kernel_rfl, by kernel_rfl⟩
theorem fok72 : fnOk Try.f72 = true := by kernel_rfl
theorem isf73 : IsFn Try.prog 73 Try.f73 := ⟨Try.func73, by kernel_rfl, by kernel_rfl⟩
theorem fok73 : fnOk Try.f73 = true := by kernel_rfl
theorem isf74 : IsFn Try.prog 74 Try.f74 := ⟨Try.func74, by kernel_rfl, by kernel_rfl⟩
theorem fok74 : fnOk Try.f74 = true := by kernel_rfl
theorem isf75 : IsFn Try.prog 75 Try.f75 := ⟨Try.func75, by kernel_rfl, by kernel_rfl⟩
theorem fok75 : fnOk Try.f75 = true := by kernel_rfl
theorem isf76 : IsFn Try.prog 76 Try.f76 := ⟨Try.func76, by kernel_rfl, by kernel_rfl⟩
theorem fok76 : fnOk Try.f76 = true := by kernel_rfl
theorem isf77 : IsFn Try.prog 77 Try.f77 := ⟨Try.func77, by kernel_rfl, by kernel_rfl⟩
theorem fok77 : fnOk Try.f77 = true := by kernel_rfl
theorem isf78 : IsFn Try.prog 78 Try.f78 := ⟨Try.func78, by kernel_rfl, by kernel_rfl⟩
theorem fok78 : fnOk Try.f78 = true := by kernel_rfl
theorem isf79 : IsFn Try.prog 79 Try.f79 := ⟨Try.func79, by kernel_rfl, by kernel_rfl⟩
theorem fok79 : fnOk Try.f79 = true := by kernel_rfl
theorem isf80 : IsFn Try.prog 80 Try.f80 := ⟨Try.func80, by kernel_rfl, by kernel_rfl⟩
theorem fok80 : fnOk Try.f80 = true := by kernel_rfl
theorem isf81 : IsFn Try.prog 81 Try.f81 := ⟨Try.func81, by kernel_rfl, by kernel_rfl⟩
theorem fok81 : fnOk Try.f81 = true := by kernel_rfl
theorem isf82 : IsFn Try.prog 82 Try.f82 := ⟨Try.func82, by kernel_rfl, by kernel_rfl⟩
theorem fok82 : fnOk Try.f82 = true := by kernel_rfl
theorem isf83 : IsFn Try.prog 83 Try.f83 := ⟨Try.func83, by kernel_rfl, by kernel_rfl⟩
theorem fok83 : fnOk Try.f83 = true := by kernel_rfl
theorem isf84 : IsFn Try.prog 84 Try.f84 := ⟨Try.func84, by kernel_rfl, by kernel_rfl⟩
theorem fok84 : fnOk Try.f84 = true := by kernel_rfl
theorem isf85 : IsFn Try.prog 85 Try.f85 := ⟨Try.func85, by kernel_rfl, by kernel_rfl⟩
theorem fok85 : fnOk Try.f85 = true := by kernel_rfl
theorem isf86 : IsFn Try.prog 86 Try.f86 := ⟨Try.func86, by kernel_rfl, by kernel_rfl⟩
theorem fok86 : fnOk Try.f86 = true := by kernel_rfl
theorem isf87 : IsFn Try.prog 87 Try.f87 := ⟨Try.func87, by kernel_rfl, by kernel_rfl⟩
theorem fok87 : fnOk Try.f87 = true := by kernel_rfl
theorem isf88 : IsFn Try.prog 88 Try.f88 := ⟨Try.func88, by kernel_rfl, by kernel_rfl⟩
theorem fok88 : fnOk Try.f88 = true := by kernel_rfl
theorem isf89 : IsFn Try.prog 89 Try.f89 := ⟨Try.func89, by kernel_rfl, by kernel_rfl⟩
theorem fok89 : fnOk Try.f89 = true := by kernel_rfl
theorem isf90 : IsFn Try.prog 90 Try.f90 := ⟨Try.func90, by kernel_rfl, by kernel_rfl⟩
theorem fok90 : fnOk Try.f90 = true := by kernel_rfl
theorem isf91 : IsFn Try.prog 91 Try.f91 := ⟨Try.func91, by kernel_rfl, by kernel_rfl⟩
theorem fok91 : fnOk Try.f91 = true := by kernel_rfl
theorem isf92 : IsFn Try.prog 92 Try.f92 := ⟨Try.func92, by kernel_rfl, by kernel_rfl⟩
theorem fok92 : fnOk Try.f92 = true := by kernel_rfl
theorem isf93 : IsFn Try.prog 93 Try.f93 := ⟨Try.func93, by kernel_rfl, by kernel_rfl⟩
theorem fok93 : fnOk Try.f93 = true := by kernel_rfl
theorem isf94 : IsFn Try.prog 94 Try.f94 := ⟨Try.func94, by kernel_rfl, by kernel_rfl⟩
theorem fok94 : fnOk Try.f94 = true := by kernel_rfl
theorem isf95 : IsFn Try.prog 95 Try.f95 := ⟨Try.func95, by kernel_rfl, by kernel_rfl⟩
theorem fok95 : fnOk Try.f95 = true := by kernel_rfl
theorem isf96 : IsFn Try.prog 96 Try.f96 := ⟨Try.func96, by kernel_rfl, by kernel_rfl⟩
theorem fok96 : fnOk Try.f96 = true := by kernel_rfl
theorem isf97 : IsFn Try.prog 97 Try.f97 := ⟨Try.func97, by kernel_rfl, by kernel_rfl⟩
theorem fok97 : fnOk Try.f97 = true := by kernel_rfl
theorem isf98 : IsFn Try.prog 98 Try.f98 := ⟨Try.func98, by kernel_rfl, by kernel_rfl⟩
theorem fok98 : fnOk Try.f98 = true := by kernel_rfl
theorem isf99 : IsFn Try.prog 99 Try.f99 := ⟨Try.func99, by kernel_rfl, by kernel_rfl⟩
theorem fok99 : fnOk Try.f99 = true := by kernel_rfl
theorem isf100 : IsFn Try.prog 100 Try.f100 := ⟨Try.func100, by kernel_rfl, by kernel_rfl⟩
theorem fok100 : fnOk Try.f100 = true := by kernel_rfl
theorem isf101 : IsFn Try.prog 101 Try.f101 := ⟨Try.func101, by kernel_rfl, by kernel_rfl⟩
theorem fok101 : fnOk Try.f101 = true := by kernel_rfl
theorem isf102 : IsFn Try.prog 102 Try.f102 := ⟨Try.func102, by kernel_rfl, by kernel_rfl⟩
theorem fok102 : fnOk Try.f102 = true := by kernel_rfl
theorem isf103 : IsFn Try.prog 103 Try.f103 := ⟨Try.func103, by kernel_rfl, by kernel_rfl⟩
theorem fok103 : fnOk Try.f103 = true := by kernel_rfl
theorem isf104 : IsFn Try.prog 104 Try.f104 := ⟨Try.func104, by kernel_rfl, by kernel_rfl⟩
theorem fok104 : fnOk Try.f104 = true := by kernel_rfl
theorem isf105 : IsFn Try.prog 105 Try.f105 := ⟨Try.func105, by kernel_rfl, by kernel_rfl⟩
theorem fok105 : fnOk Try.f105 = true := by kernel_rfl
theorem isf106 : IsFn Try.prog 106 Try.f106 := ⟨Try.func106, by kernel_rfl, by kernel_rfl⟩
theorem fok106 : fnOk Try.f106 = true := by kernel_rfl
theorem isf107 : IsFn Try.prog 107 Try.f107 := ⟨Try.func107, by kernel_rfl, by kernel_rfl⟩
theorem fok107 : fnOk Try.f107 = true := by kernel_rfl
theorem isf108 : IsFn Try.prog 108 Try.f108 := ⟨Try.func108, by kernel_rfl, by kernel_rfl⟩
theorem fok108 : fnOk Try.f108 = true := by kernel_rfl
theorem isf109 : IsFn Try.prog 109 Try.f109 := ⟨Try.func109, by kernel_rfl, by kernel_rfl⟩
theorem fok109 : fnOk Try.f109 = true := by kernel_rfl
theorem isf110 : IsFn Try.prog 110 Try.f110 := ⟨Try.func110, by kernel_rfl, by kernel_rfl⟩
theorem fok110 : fnOk Try.f110 = true := by kernel_rfl
theorem isf111 : IsFn Try.prog 111 Try.f111 := ⟨Try.func111, by kernel_rfl, by kernel_rfl⟩
theorem fok111 : fnOk Try.f111 = true := by kernel_rfl
theorem isf112 : IsFn Try.prog 112 Try.f112 := ⟨Try.func112, by kernel_rfl, by kernel_rfl⟩
theorem fok112 : fnOk Try.f112 = true := by kernel_rfl
theorem isf128 : IsFn Try.prog 128 Try.f128 := ⟨Try.func128, by kernel_rfl, by kernel_rfl⟩
theorem fok128 : fnOk Try.f128 = true := by kernel_rfl
theorem isf129 : IsFn Try.prog 129 Try.f129 := ⟨Try.func129, by kernel_rfl, by kernel_rfl⟩
theorem fok129 : fnOk Try.f129 = true := by kernel_rfl
theorem isf130 : IsFn Try.prog 130 Try.f130 := ⟨Try.func130, by kernel_rfl, by kernel_rfl⟩
theorem fok130 : fnOk Try.f130 = true := by kernel_rfl
theorem isf132 : IsFn Try.prog 132 Try.f132 := ⟨Try.func132, by kernel_rfl, by kernel_rfl⟩
theorem fok132 : fnOk Try.f132 = true := by kernel_rfl
theorem isf133 : IsFn Try.prog 133 Try.f133 := ⟨Try.func133, by kernel_rfl, by kernel_rfl⟩
theorem fok133 : fnOk Try.f133 = true := by kernel_rfl
theorem isf134 : IsFn Try.prog 134 Try.f134 := ⟨Try.func134, by kernel_rfl, by kernel_rfl⟩
theorem fok134 : fnOk Try.f134 = true := by kernel_rfl
theorem isf135 : IsFn Try.prog 135 Try.f135 := ⟨Try.func135, by kernel_rfl, by kernel_rfl⟩
theorem fok135 : fnOk Try.f135 = true := by kernel_rfl
theorem isf136 : IsFn Try.prog 136 Try.f136 := ⟨Try.func136, by kernel_rfl, by kernel_rfl⟩
theorem fok136 : fnOk Try.f136 = true := by kernel_rfl
theorem isf137 : IsFn Try.prog 137 Try.f137 := ⟨Try.func137, by kernel_rfl, by kernel_rfl⟩
theorem fok137 : fnOk Try.f137 = true := by kernel_rfl
theorem isf138 : IsFn Try.prog 138 Try.f138 := ⟨Try.func138, by kernel_rfl, by kernel_rfl⟩
theorem fok138 : fnOk Try.f138 = true := by kernel_rfl
theorem isf139 : IsFn Try.prog 139 Try.f139 := ⟨Try.func139, by kernel_rfl, by kernel_rfl⟩
theorem fok139 : fnOk Try.f139 = true := by kernel_rfl
theorem isf140 : IsFn Try.prog 140 Try.f140 := ⟨Try.func140, by kernel_rfl, by kernel_rfl⟩
theorem fok140 : fnOk Try.f140 = true := by kernel_rfl
theorem isf141 : IsFn Try.prog 141 Try.f141 := ⟨Try.func141, by kernel_rfl, by kernel_rfl⟩
theorem fok141 : fnOk Try.f141 = true := by kernel_rfl
theorem isf142 : IsFn Try.prog 142 Try.f142 := ⟨Try.func142, by kernel_rfl, by kernel_rfl⟩
theorem fok142 : fnOk Try.f142 = true := by kernel_rfl
theorem isf143 : IsFn Try.prog 143 Try.f143 := ⟨Try.func143, by kernel_rfl, by kernel_rfl⟩
theorem fok143 : fnOk Try.f143 = true := by kernel_rfl

attribute [push_cast] ty_ag1 ty_sz1 ty_int1 ty_ifc1 ty_bool1 ty_z1 Try.underlying1 ty_ag2 ty_sz2 ty_int2 ty_ifc2 ty_bool2 ty_z2 Try.underlying2 ty_ag3 ty_sz3 ty_int3 ty_ifc3 ty_bool3 ty_z3 Try.underlying3 ty_ag4 ty_sz4 ty_int4 ty_ifc4 ty_bool4 ty_z4 Try.underlying4 ty_ag5 ty_sz5 ty_int5 ty_ifc5 ty_bool5 ty_z5 Try.underlying5 ty_ag6 ty_sz6 ty_int6 ty_ifc6 ty_bool6 ty_z6 Try.underlying6 ty_ag7 ty_sz7 ty_int7 ty_eq7 ty_ifc7 ty_bool7 ty_f7_0 ty_f7_1 ty_f7_2 ty_f7_3 ty_pl7 ty_z7 Try.underlying7 ty_ag8 ty_sz8 ty_int8 ty_eq8 ty_ifc8 ty_m8_0 ty_k8_0 ty_m8_1 ty_k8_1 ty_bool8 ty_f8_0 ty_f8_1 ty_f8_2 ty_f8_3 ty_pl8 ty_z8 Try.underlying8 ty_ag9 ty_sz9 ty_int9 ty_ifc9 ty_bool9 ty_z9 Try.underlying9 ty_ag10 ty_sz10 ty_int10 ty_ifc10 ty_m10_0 ty_k10_0 ty_m10_1 ty_k10_1 ty_bool10 ty_z10 Try.underlying10 ty_ag11 ty_sz11 ty_int11 ty_ifc11 ty_m11_0 ty_k11_0 ty_m11_1 ty_k11_1 ty_bool11 ty_z11 Try.underlying11 ty_ag12 ty_sz12 ty_int12 ty_ifc12 ty_bool12 ty_z12 Try.underlying12 ty_ag13 ty_sz13 ty_int13 ty_ifc13 ty_bool13 ty_f13_0 ty_f13_1 ty_pl13 ty_z13 Try.underlying13 ty_ag14 ty_sz14 ty_int14 ty_ifc14 ty_m14_0 ty_k14_0 ty_m14_1 ty_k14_1 ty_bool14 ty_f14_0 ty_f14_1 ty_pl14 ty_z14 Try.underlying14 ty_ag15 ty_sz15 ty_int15 ty_ifc15 ty_m15_0 ty_k15_0 ty_m15_1 ty_k15_1 ty_bool15 ty_z15 Try.underlying15 ty_ag16 ty_sz16 ty_int16 ty_ifc16 ty_m16_0 ty_k16_0 ty_m16_1 ty_k16_1 ty_bool16 ty_z16 Try.underlying16 ty_ag17 ty_sz17 ty_int17 ty_ifc17 ty_m17_0 ty_k17_0 ty_bool17 ty_z17 Try.underlying17 ty_ag18 ty_sz18 ty_int18 ty_ifc18 ty_bool18 ty_f18_0 ty_pl18 ty_z18 Try.underlying18 ty_ag19 ty_sz19 ty_int19 ty_ifc19 ty_m19_0 ty_k19_0 ty_m19_1 ty_k19_1 ty_bool19 ty_f19_0 ty_pl19 ty_z19 Try.underlying19 ty_ag20 ty_sz20 ty_int20 ty_ifc20 ty_bool20 ty_z20 ty_ag21 ty_sz21 ty_int21 ty_ifc21 ty_bool21 ty_z21 Try.underlying21 ty_ag22 ty_sz22 ty_int22 ty_ifc22 ty_bool22 ty_elem22 ty_app22 ty_z22 Try.underlying22 ty_ag23 ty_sz23 ty_int23 ty_ifc23 ty_bool23 ty_elem23 ty_app23 ty_z23 Try.underlying23 ty_ag24 ty_sz24 ty_int24 ty_ifc24 ty_bool24 ty_elem24 ty_app24 ty_z24 Try.underlying24 ty_ag25 ty_sz25 ty_int25 ty_ifc25 ty_bool25 ty_z25 Try.underlying25 ty_ag26 ty_sz26 ty_int26 ty_ifc26 ty_bool26 ty_f26_0 ty_f26_1 ty_pl26 ty_z26 Try.underlying26 ty_ag27 ty_sz27 ty_int27 ty_ifc27 ty_bool27 ty_f27_0 ty_f27_1 ty_pl27 ty_z27 Try.underlying27 ty_ag28 ty_sz28 ty_int28 ty_ifc28 ty_bool28 ty_z28 Try.underlying28 ty_ag30 ty_sz30 ty_int30 ty_ifc30 ty_bool30 ty_z30 Try.underlying30 ty_ag31 ty_sz31 ty_int31 ty_ifc31 ty_m31_0 ty_k31_0 ty_bool31 ty_z31 Try.underlying31 ty_ag32 ty_sz32 ty_int32 ty_ifc32 ty_bool32 ty_f32_0 ty_f32_1 ty_pl32 ty_z32 Try.underlying32 ty_ag33 ty_sz33 ty_int33 ty_ifc33 ty_bool33 ty_f33_0 ty_f33_1 ty_pl33 ty_z33 Try.underlying33 ty_ag34 ty_sz34 ty_int34 ty_ifc34 ty_bool34 ty_f34_0 ty_f34_1 ty_pl34 ty_z34 Try.underlying34 ty_ag35 ty_sz35 ty_int35 ty_ifc35 ty_bool35 ty_f35_0 ty_f35_1 ty_pl35 ty_z35 Try.underlying35 ty_ag36 ty_sz36 ty_int36 ty_ifc36 ty_m36_0 ty_k36_0 ty_m36_1 ty_k36_1 ty_bool36 ty_z36 Try.underlying36 ty_ag37 ty_sz37 ty_int37 ty_ifc37 ty_bool37 ty_z37 Try.underlying37 ty_ag39 ty_sz39 ty_int39 ty_ifc39 ty_bool39 ty_z39 Try.underlying39 ty_ag40 ty_sz40 ty_int40 ty_ifc40 ty_bool40 ty_z40 Try.underlying40 ty_ag41 ty_sz41 ty_int41 ty_ifc41 ty_bool41 ty_f41_0 ty_f41_1 ty_pl41 ty_z41 Try.underlying41 ty_ag42 ty_sz42 ty_int42 ty_ifc42 ty_bool42 ty_f42_0 ty_f42_1 ty_pl42 ty_z42 Try.underlying42 ty_ag43 ty_sz43 ty_int43 ty_ifc43 ty_bool43 ty_elem43 ty_app43 ty_z43 Try.underlying43 ty_ag45 ty_sz45 ty_int45 ty_ifc45 ty_bool45 ty_z45 Try.underlying45 ty_ag46 ty_sz46 ty_int46 ty_ifc46 ty_bool46 ty_z46 Try.underlying46 ty_ag47 ty_sz47 ty_int47 ty_ifc47 ty_bool47 ty_f47_0 ty_f47_1 ty_f47_2 ty_f47_3 ty_f47_4 ty_f47_5 ty_f47_6 ty_pl47 ty_z47 Try.underlying47 ty_ag48 ty_sz48 ty_int48 ty_ifc48 ty_bool48 ty_f48_0 ty_f48_1 ty_f48_2 ty_f48_3 ty_f48_4 ty_f48_5 ty_f48_6 ty_pl48 ty_z48 Try.underlying48 ty_ag49 ty_sz49 ty_int49 ty_ifc49 ty_bool49 ty_z49 Try.underlying49 ty_ag50 ty_sz50 ty_int50 ty_ifc50 ty_bool50 ty_z50 Try.underlying50 ty_ag51 ty_sz51 ty_int51 ty_ifc51 ty_bool51 ty_z51 Try.underlying51 ty_ag52 ty_sz52 ty_int52 ty_ifc52 ty_bool52 ty_z52 Try.underlying52 ty_ag53 ty_sz53 ty_int53 ty_ifc53 ty_m53_0 ty_k53_0 ty_bool53 ty_z53 Try.underlying53 ty_ag54 ty_sz54 ty_int54 ty_ifc54 ty_bool54 ty_f54_0 ty_f54_1 ty_pl54 ty_z54 Try.underlying54 ty_ag55 ty_sz55 ty_int55 ty_ifc55 ty_bool55 ty_f55_0 ty_f55_1 ty_pl55 ty_z55 Try.underlying55 ty_ag56 ty_sz56 ty_int56 ty_ifc56 ty_bool56 ty_z56 Try.underlying56 ty_ag57 ty_sz57 ty_int57 ty_eq57 ty_ifc57 ty_bool57 ty_f57_0 ty_f57_1 ty_f57_2 ty_f57_3 ty_f57_4 ty_pl57 ty_z57 Try.underlying57 ty_ag58 ty_sz58 ty_int58 ty_eq58 ty_ifc58 ty_bool58 ty_f58_0 ty_f58_1 ty_f58_2 ty_f58_3 ty_f58_4 ty_pl58 ty_z58 Try.underlying58 ty_ag59 ty_sz59 ty_int59 ty_ifc59 ty_bool59 ty_z59 Try.underlying59 ty_ag61 ty_sz61 ty_int61 ty_ifc61 ty_bool61 ty_z61 Try.underlying61 ty_ag62 ty_sz62 ty_int62 ty_ifc62 ty_bool62 ty_z62 Try.underlying62 ty_ag63 ty_sz63 ty_int63 ty_ifc63 ty_bool63 ty_f63_0 ty_f63_1 ty_f63_2 ty_pl63 ty_z63 Try.underlying63 ty_ag64 ty_sz64 ty_int64 ty_ifc64 ty_bool64 ty_f64_0 ty_f64_1 ty_f64_2 ty_pl64 ty_z64 Try.underlying64 ty_ag65 ty_sz65 ty_int65 ty_ifc65 ty_bool65 ty_elem65 ty_app65 ty_z65 Try.underlying65 ty_ag66 ty_sz66 ty_int66 ty_ifc66 ty_bool66 ty_z66 Try.underlying66 ty_ag67 ty_sz67 ty_int67 ty_ifc67 ty_bool67 ty_z67 Try.underlying67 ty_ag68 ty_sz68 ty_int68 ty_ifc68 ty_bool68 ty_f68_0 ty_f68_1 ty_f68_2 ty_f68_3 ty_f68_4 ty_f68_5 ty_f68_6 ty_f68_7 ty_f68_8 ty_pl68 ty_z68 Try.underlying68 ty_ag69 ty_sz69 ty_int69 ty_ifc69 ty_bool69 ty_f69_0 ty_f69_1 ty_f69_2 ty_f69_3 ty_f69_4 ty_f69_5 ty_f69_6 ty_f69_7 ty_f69_8 ty_pl69 ty_z69 Try.underlying69 ty_ag71 ty_sz71 ty_int71 ty_ifc71 ty_bool71 ty_z71 Try.underlying71 ty_ag72 ty_sz72 ty_int72 ty_ifc72 ty_bool72 ty_z72 Try.underlying72 ty_ag73 ty_sz73 ty_int73 ty_ifc73 ty_bool73 ty_f73_0 ty_f73_1 ty_f73_2 ty_f73_3 ty_f73_4 ty_f73_5 ty_f73_6 ty_f73_7 ty_pl73 ty_z73 Try.underlying73 ty_ag74 ty_sz74 ty_int74 ty_ifc74 ty_bool74 ty_f74_0 ty_f74_1 ty_f74_2 ty_f74_3 ty_f74_4 ty_f74_5 ty_f74_6 ty_f74_7 ty_pl74 ty_z74 Try.underlying74 ty_ag76 ty_sz76 ty_int76 ty_ifc76 ty_bool76 ty_z76 Try.underlying76 ty_ag78 ty_sz78 ty_int78 ty_ifc78 ty_bool78 ty_z78 Try.underlying78 ty_ag79 ty_sz79 ty_int79 ty_ifc79 ty_bool79 ty_z79 Try.underlying79 ty_ag80 ty_sz80 ty_int80 ty_ifc80 ty_bool80 ty_z80 Try.underlying80 ty_ag81 ty_sz81 ty_int81 ty_ifc81 ty_bool81 ty_z81 Try.underlying81 ty_ag82 ty_sz82 ty_int82 ty_ifc82 ty_bool82 ty_z82 Try.underlying82 ty_ag83 ty_sz83 ty_int83 ty_ifc83 ty_bool83 ty_f83_0 ty_f83_1 ty_pl83 ty_z83 Try.underlying83 ty_ag84 ty_sz84 ty_int84 ty_ifc84 ty_bool84 ty_f84_0 ty_f84_1 ty_pl84 ty_z84 Try.underlying84 ty_ag85 ty_sz85 ty_int85 ty_ifc85 ty_m85_0 ty_k85_0 ty_bool85 ty_z85 Try.underlying85 ty_ag86 ty_sz86 ty_int86 ty_ifc86 ty_bool86 ty_z86 Try.underlying86 ty_ag87 ty_sz87 ty_int87 ty_ifc87 ty_m87_0 ty_k87_0 ty_m87_1 ty_k87_1 ty_m87_2 ty_k87_2 ty_m87_3 ty_k87_3 ty_m87_4 ty_k87_4 ty_bool87 ty_z87 Try.underlying87 ty_ag88 ty_sz88 ty_int88 ty_ifc88 ty_m88_0 ty_k88_0 ty_m88_1 ty_k88_1 ty_m88_2 ty_k88_2 ty_m88_3 ty_k88_3 ty_m88_4 ty_k88_4 ty_m88_5 ty_k88_5 ty_m88_6 ty_k88_6 ty_m88_7 ty_k88_7 ty_m88_8 ty_k88_8 ty_m88_9 ty_k88_9 ty_m88_10 ty_k88_10 ty_m88_11 ty_k88_11 ty_bool88 ty_z88 Try.underlying88 ty_ag90 ty_sz90 ty_int90 ty_ifc90 ty_bool90 ty_z90 Try.underlying90 ty_ag92 ty_sz92 ty_int92 ty_ifc92 ty_bool92 ty_z92 Try.underlying92 ty_ag93 ty_sz93 ty_int93 ty_ifc93 ty_bool93 ty_elem93 ty_app93 ty_z93 Try.underlying93 ty_ag94 ty_sz94 ty_int94 ty_ifc94 ty_bool94 ty_f94_0 ty_f94_1 ty_pl94 ty_z94 Try.underlying94 ty_ag95 ty_sz95 ty_int95 ty_ifc95 ty_bool95 ty_f95_0 ty_f95_1 ty_pl95 ty_z95 Try.underlying95 ty_ag96 ty_sz96 ty_int96 ty_ifc96 ty_bool96 ty_z96 Try.underlying96 ty_ag97 ty_sz97 ty_int97 ty_ifc97 ty_bool97 ty_f97_0 ty_f97_1 ty_pl97 ty_z97 Try.underlying97 ty_ag98 ty_sz98 ty_int98 ty_ifc98 ty_bool98 ty_f98_0 ty_f98_1 ty_pl98 ty_z98 Try.underlying98 ty_ag99 ty_sz99 ty_int99 ty_ifc99 ty_bool99 ty_z99 Try.underlying99 ty_ag100 ty_sz100 ty_int100 ty_ifc100 ty_bool100 ty_z100 Try.underlying100 ty_ag101 ty_sz101 ty_int101 ty_ifc101 ty_bool101 ty_arr101 ty_pl101 ty_z101 ty_ag102 ty_sz102 ty_int102 ty_ifc102 ty_bool102 ty_arr102 ty_pl102 ty_z102 ty_ag103 ty_sz103 ty_int103 ty_ifc103 ty_bool103 ty_z103 Try.underlying103 ty_ag105 ty_sz105 ty_int105 ty_ifc105 ty_bool105 ty_z105 Try.underlying105 ty_ag106 ty_sz106 ty_int106 ty_ifc106 ty_bool106 ty_z106 Try.underlying106 ty_ag107 ty_sz107 ty_int107 ty_ifc107 ty_m107_0 ty_k107_0 ty_bool107 ty_z107 Try.underlying107 ty_ag108 ty_sz108 ty_int108 ty_ifc108 ty_bool108 ty_z108 Try.underlying108 ty_ag109 ty_sz109 ty_int109 ty_ifc109 ty_bool109 ty_z109 Try.underlying109 ty_ag111 ty_sz111 ty_int111 ty_ifc111 ty_bool111 ty_z111 Try.underlying111 ty_ag112 ty_sz112 ty_int112 ty_eq112 ty_ifc112 ty_bool112 ty_f112_0 ty_f112_1 ty_f112_2 ty_f112_3 ty_f112_4 ty_pl112 ty_z112 Try.underlying112 ty_ag113 ty_sz113 ty_int113 ty_eq113 ty_ifc113 ty_bool113 ty_f113_0 ty_f113_1 ty_f113_2 ty_f113_3 ty_f113_4 ty_pl113 ty_z113 Try.underlying113 ty_ag114 ty_sz114 ty_int114 ty_ifc114 ty_bool114 ty_f114_0 ty_f114_1 ty_f114_2 ty_f114_3 ty_f114_4 ty_f114_5 ty_pl114 ty_z114 Try.underlying114 ty_ag115 ty_sz115 ty_int115 ty_ifc115 ty_bool115 ty_f115_0 ty_f115_1 ty_f115_2 ty_f115_3 ty_f115_4 ty_f115_5 ty_pl115 ty_z115 Try.underlying115 ty_ag117 ty_sz117 ty_int117 ty_ifc117 ty_bool117 ty_z117 Try.underlying117 ty_ag118 ty_sz118 ty_int118 ty_ifc118 ty_bool118 ty_z118 ty_ag119 ty_sz119 ty_int119 ty_ifc119 ty_bool119 ty_z119 ty_ag120 ty_sz120 ty_int120 ty_ifc120 ty_bool120 ty_f120_0 ty_f120_1 ty_f120_2 ty_f120_3 ty_f120_4 ty_f120_5 ty_f120_6 ty_f120_7 ty_f120_8 ty_pl120 ty_z120 Try.underlying120 ty_ag121 ty_sz121 ty_int121 ty_ifc121 ty_bool121 ty_f121_0 ty_f121_1 ty_f121_2 ty_f121_3 ty_f121_4 ty_f121_5 ty_f121_6 ty_f121_7 ty_f121_8 ty_pl121 ty_z121 Try.underlying121 ty_ag122 ty_sz122 ty_int122 ty_ifc122 ty_bool122 ty_f122_0 ty_f122_1 ty_f122_2 ty_f122_3 ty_pl122 ty_z122 Try.underlying122 ty_ag123 ty_sz123 ty_int123 ty_ifc123 ty_bool123 ty_f123_0 ty_f123_1 ty_f123_2 ty_f123_3 ty_pl123 ty_z123 Try.underlying123 ty_ag124 ty_sz124 ty_int124 ty_ifc124 ty_bool124 ty_z124 Try.underlying124 ty_ag125 ty_sz125 ty_int125 ty_ifc125 ty_bool125 ty_z125 Try.underlying125 ty_ag126 ty_sz126 ty_int126 ty_ifc126 ty_bool126 ty_z126 Try.underlying126 ty_ag127 ty_sz127 ty_int127 ty_ifc127 ty_bool127 ty_elem127 ty_app127 ty_z127 Try.underlying127 ty_ag128 ty_sz128 ty_int128 ty_ifc128 ty_bool128 ty_z128 Try.underlying128 ty_ag129 ty_sz129 ty_int129 ty_ifc129 ty_bool129 ty_z129 ty_ag130 ty_sz130 ty_int130 ty_ifc130 ty_bool130 ty_z130 ty_ag131 ty_sz131 ty_int131 ty_ifc131 ty_bool131 ty_z131 ty_ag132 ty_sz132 ty_int132 ty_ifc132 ty_bool132 ty_z132 ty_ag133 ty_sz133 ty_int133 ty_ifc133 ty_bool133 ty_z133 Try.underlying133 ty_ag135 ty_sz135 ty_int135 ty_ifc135 ty_bool135 ty_z135 Try.underlying135 ty_ag136 ty_sz136 ty_int136 ty_ifc136 ty_bool136 ty_z136 Try.underlying136 ty_ag137 ty_sz137 ty_int137 ty_ifc137 ty_bool137 ty_f137_0 ty_f137_1 ty_f137_2 ty_pl137 ty_z137 Try.underlying137 ty_ag138 ty_sz138 ty_int138 ty_ifc138 ty_bool138 ty_f138_0 ty_f138_1 ty_f138_2 ty_pl138 ty_z138 Try.underlying138 ty_ag139 ty_sz139 ty_int139 ty_ifc139 ty_bool139 ty_z139 Try.underlying139 ty_ag140 ty_sz140 ty_int140 ty_ifc140 ty_bool140 ty_z140 Try.underlying140 ty_ag141 ty_sz141 ty_int141 ty_ifc141 ty_bool141 ty_z141 Try.underlying141 ty_ag142 ty_sz142 ty_int142 ty_ifc142 ty_m142_0 ty_k142_0 ty_m142_1 ty_k142_1 ty_m142_2 ty_k142_2 ty_bool142 ty_z142 Try.underlying142 ty_ag143 ty_sz143 ty_int143 ty_ifc143 ty_bool143 ty_z143 Try.underlying143 ty_ag145 ty_sz145 ty_int145 ty_ifc145 ty_bool145 ty_z145 Try.underlying145 ty_ag146 ty_sz146 ty_int146 ty_ifc146 ty_m146_0 ty_k146_0 ty_bool146 ty_z146 Try.underlying146 ty_ag147 ty_sz147 ty_int147 ty_ifc147 ty_bool147 ty_arr147 ty_pl147 ty_z147 ty_ag148 ty_sz148 ty_int148 ty_ifc148 ty_bool148 ty_arr148 ty_pl148 ty_z148 ty_ag149 ty_sz149 ty_int149 ty_ifc149 ty_bool149 ty_z149 Try.underlying149 ty_ag150 ty_sz150 ty_int150 ty_ifc150 ty_bool150 ty_elem150 ty_app150 ty_z150 Try.underlying150 ty_ag151 ty_sz151 ty_int151 ty_ifc151 ty_bool151 ty_elem151 ty_app151 ty_z151 Try.underlying151 ty_ag152 ty_sz152 ty_int152 ty_ifc152 ty_bool152 ty_z152 Try.underlying152 ty_ag153 ty_sz153 ty_int153 ty_ifc153 ty_bool153 ty_z153 Try.underlying153 ty_ag154 ty_sz154 ty_int154 ty_ifc154 ty_bool154 ty_z154 Try.underlying154 ty_ag155 ty_sz155 ty_int155 ty_ifc155 ty_bool155 ty_z155 Try.underlying155 ty_ag156 ty_sz156 ty_int156 ty_ifc156 ty_bool156 ty_z156 Try.underlying156 ty_ag157 ty_sz157 ty_int157 ty_ifc157 ty_m157_0 ty_k157_0 ty_m157_1 ty_k157_1 ty_m157_2 ty_k157_2 ty_m157_3 ty_k157_3 ty_bool157 ty_z157 Try.underlying157 ty_ag158 ty_sz158 ty_int158 ty_ifc158 ty_bool158 ty_arr158 ty_pl158 ty_z158 ty_ag159 ty_sz159 ty_int159 ty_ifc159 ty_bool159 ty_z159 Try.underlying159 ty_ag160 ty_sz160 ty_int160 ty_ifc160 ty_bool160 ty_z160 Try.underlying160 ty_ag161 ty_sz161 ty_int161 ty_ifc161 ty_bool161 ty_z161 Try.underlying161 ty_ag162 ty_sz162 ty_int162 ty_ifc162 ty_bool162 ty_z162 Try.underlying162 ty_ag163 ty_sz163 ty_int163 ty_ifc163 ty_bool163 ty_z163 Try.underlying163 ty_ag164 ty_sz164 ty_int164 ty_ifc164 ty_bool164 ty_z164 Try.underlying164 ty_ag165 ty_sz165 ty_int165 ty_ifc165 ty_bool165 ty_z165 Try.underlying165 ty_ag166 ty_sz166 ty_int166 ty_ifc166 ty_bool166 ty_f166_0 ty_pl166 ty_z166 Try.underlying166 ty_ag167 ty_sz167 ty_int167 ty_ifc167 ty_bool167 ty_f167_0 ty_pl167 ty_z167 Try.underlying167 ty_ag168 ty_sz168 ty_int168 ty_ifc168 ty_bool168 ty_z168 Try.underlying168 ty_ag169 ty_sz169 ty_int169 ty_ifc169 ty_bool169 ty_z169 Try.underlying169 ty_ag170 ty_sz170 ty_int170 ty_ifc170 ty_bool170 ty_z170 Try.underlying170 ty_ag171 ty_sz171 ty_int171 ty_ifc171 ty_bool171 ty_z171 Try.underlying171 ty_ag172 ty_sz172 ty_int172 ty_ifc172 ty_bool172 ty_z172 Try.underlying172 ty_ag173 ty_sz173 ty_int173 ty_ifc173 ty_bool173 ty_z173 Try.underlying173 ty_ag174 ty_sz174 ty_int174 ty_ifc174 ty_bool174 ty_f174_0 ty_f174_1 ty_pl174 ty_z174 Try.underlying174 ty_ag175 ty_sz175 ty_int175 ty_ifc175 ty_bool175 ty_f175_0 ty_f175_1 ty_pl175 ty_z175 Try.underlying175 ty_ag176 ty_sz176 ty_int176 ty_ifc176 ty_bool176 ty_z176 Try.underlying176 ty_ag177 ty_sz177 ty_int177 ty_ifc177 ty_bool177 ty_z177 ty_ag178 ty_sz178 ty_int178 ty_ifc178 ty_bool178 ty_z178 ty_ag179 ty_sz179 ty_int179 ty_ifc179 ty_m179_0 ty_k179_0 ty_m179_1 ty_k179_1 ty_m179_2 ty_k179_2 ty_m179_3 ty_k179_3 ty_bool179 ty_z179 Try.underlying179 ty_ag180 ty_sz180 ty_int180 ty_ifc180 ty_bool180 ty_f180_0 ty_f180_1 ty_pl180 ty_z180 Try.underlying180 ty_ag181 ty_sz181 ty_int181 ty_ifc181 ty_bool181 ty_f181_0 ty_f181_1 ty_pl181 ty_z181 Try.underlying181 ty_ag182 ty_sz182 ty_int182 ty_ifc182 ty_bool182 ty_f182_0 ty_f182_1 ty_f182_2 ty_f182_3 ty_f182_4 ty_pl182 ty_z182 Try.underlying182 ty_ag183 ty_sz183 ty_int183 ty_ifc183 ty_bool183 ty_f183_0 ty_f183_1 ty_f183_2 ty_f183_3 ty_f183_4 ty_pl183 ty_z183 Try.underlying183 ty_ag184 ty_sz184 ty_int184 ty_ifc184 ty_bool184 ty_z184 Try.underlying184 ty_ag185 ty_sz185 ty_int185 ty_ifc185 ty_bool185 ty_z185 Try.underlying185 ty_ag186 ty_sz186 ty_int186 ty_ifc186 ty_bool186 ty_z186 Try.underlying186 ty_ag187 ty_sz187 ty_int187 ty_ifc187 ty_bool187 ty_z187 Try.underlying187 ty_ag188 ty_sz188 ty_int188 ty_ifc188 ty_bool188 ty_elem188 ty_app188 ty_z188 Try.underlying188 ty_ag189 ty_sz189 ty_int189 ty_ifc189 ty_bool189 ty_z189 Try.underlying189 ty_ag190 ty_sz190 ty_int190 ty_ifc190 ty_bool190 ty_z190 Try.underlying190 ty_ag191 ty_sz191 ty_int191 ty_ifc191 ty_bool191 ty_z191 Try.underlying191 ty_ag192 ty_sz192 ty_int192 ty_ifc192 ty_bool192 ty_f192_0 ty_f192_1 ty_f192_2 ty_pl192 ty_z192 Try.underlying192 ty_ag193 ty_sz193 ty_int193 ty_ifc193 ty_bool193 ty_f193_0 ty_f193_1 ty_f193_2 ty_pl193 ty_z193 Try.underlying193 ty_ag194 ty_sz194 ty_int194 ty_ifc194 ty_bool194 ty_z194 Try.underlying194 ty_ag195 ty_sz195 ty_int195 ty_ifc195 ty_m195_0 ty_k195_0 ty_m195_1 ty_k195_1 ty_bool195 ty_z195 Try.underlying195 ty_ag197 ty_sz197 ty_int197 ty_ifc197 ty_bool197 ty_z197 Try.underlying197 ty_ag198 ty_sz198 ty_int198 ty_ifc198 ty_bool198 ty_z198 Try.underlying198 ty_ag199 ty_sz199 ty_int199 ty_ifc199 ty_bool199 ty_z199 Try.underlying199 ty_ag200 ty_sz200 ty_int200 ty_ifc200 ty_bool200 ty_z200 Try.underlying200 ty_ag201 ty_sz201 ty_int201 ty_ifc201 ty_bool201 ty_z201 Try.underlying201 ty_ag202 ty_sz202 ty_int202 ty_ifc202 ty_bool202 ty_z202 Try.underlying202 ty_ag203 ty_sz203 ty_int203 ty_ifc203 ty_bool203 ty_z203 Try.underlying203 ty_ag204 ty_sz204 ty_int204 ty_ifc204 ty_bool204 ty_f204_0 ty_f204_1 ty_f204_2 ty_f204_3 ty_pl204 ty_z204 Try.underlying204 ty_ag205 ty_sz205 ty_int205 ty_ifc205 ty_bool205 ty_f205_0 ty_f205_1 ty_f205_2 ty_f205_3 ty_pl205 ty_z205 Try.underlying205 ty_ag206 ty_sz206 ty_int206 ty_ifc206 ty_bool206 ty_arr206 ty_pl206 ty_z206 ty_ag207 ty_sz207 ty_int207 ty_ifc207 ty_bool207 ty_pl207 ty_z207 Try.underlying207 ty_ag208 ty_sz208 ty_int208 ty_ifc208 ty_bool208 ty_pl208 ty_z208 Try.underlying208 ty_ag209 ty_sz209 ty_int209 ty_ifc209 ty_bool209 ty_z209 Try.underlying209 ty_ag210 ty_sz210 ty_int210 ty_ifc210 ty_m210_0 ty_k210_0 ty_bool210 ty_z210 Try.underlying210 ty_ag211 ty_sz211 ty_int211 ty_ifc211 ty_bool211 ty_z211 Try.underlying211 ty_ag212 ty_sz212 ty_int212 ty_ifc212 ty_bool212 ty_z212 Try.underlying212 ty_ag213 ty_sz213 ty_int213 ty_ifc213 ty_bool213 ty_z213 Try.underlying213 ty_ag214 ty_sz214 ty_int214 ty_ifc214 ty_bool214 ty_z214 Try.underlying214 ty_ag215 ty_sz215 ty_int215 ty_ifc215 ty_bool215 ty_f215_0 ty_f215_1 ty_f215_2 ty_f215_3 ty_f215_4 ty_f215_5 ty_f215_6 ty_f215_7 ty_f215_8 ty_f215_9 ty_f215_10 ty_pl215 ty_z215 Try.underlying215 ty_ag216 ty_sz216 ty_int216 ty_ifc216 ty_bool216 ty_f216_0 ty_f216_1 ty_f216_2 ty_f216_3 ty_f216_4 ty_f216_5 ty_f216_6 ty_f216_7 ty_f216_8 ty_f216_9 ty_f216_10 ty_pl216 ty_z216 Try.underlying216 ty_ag218 ty_sz218 ty_int218 ty_ifc218 ty_bool218 ty_z218 Try.underlying218 ty_ag219 ty_sz219 ty_int219 ty_ifc219 ty_bool219 ty_z219 Try.underlying219 ty_ag220 ty_sz220 ty_int220 ty_eq220 ty_ifc220 ty_bool220 ty_f220_0 ty_f220_1 ty_pl220 ty_z220 Try.underlying220 ty_ag221 ty_sz221 ty_int221 ty_eq221 ty_ifc221 ty_bool221 ty_f221_0 ty_f221_1 ty_pl221 ty_z221 Try.underlying221 ty_ag222 ty_sz222 ty_int222 ty_eq222 ty_ifc222 ty_bool222 ty_f222_0 ty_f222_1 ty_f222_2 ty_f222_3 ty_pl222 ty_z222 Try.underlying222 ty_ag223 ty_sz223 ty_int223 ty_eq223 ty_ifc223 ty_bool223 ty_f223_0 ty_f223_1 ty_f223_2 ty_f223_3 ty_pl223 ty_z223 Try.underlying223 ty_ag224 ty_sz224 ty_int224 ty_ifc224 ty_bool224 ty_f224_0 ty_pl224 ty_z224 Try.underlying224 ty_ag225 ty_sz225 ty_int225 ty_ifc225 ty_bool225 ty_f225_0 ty_pl225 ty_z225 Try.underlying225 ty_ag226 ty_sz226 ty_int226 ty_ifc226 ty_bool226 ty_f226_0 ty_f226_1 ty_pl226 ty_z226 Try.underlying226 ty_ag227 ty_sz227 ty_int227 ty_ifc227 ty_bool227 ty_f227_0 ty_f227_1 ty_pl227 ty_z227 Try.underlying227 ty_ag228 ty_sz228 ty_int228 ty_ifc228 ty_bool228 ty_f228_0 ty_f228_1 ty_f228_2 ty_f228_3 ty_f228_4 ty_pl228 ty_z228 Try.underlying228 ty_ag229 ty_sz229 ty_int229 ty_ifc229 ty_bool229 ty_f229_0 ty_f229_1 ty_f229_2 ty_f229_3 ty_f229_4 ty_pl229 ty_z229 Try.underlying229 ty_ag230 ty_sz230 ty_int230 ty_ifc230 ty_bool230 ty_z230 Try.underlying230 Try.params2 fok2 Try.func2 Try.params3 fok3 Try.func3 Try.params4 fok4 Try.func4 Try.params5 fok5 Try.func5 Try.params6 fok6 Try.func6 Try.params7 fok7 Try.func7 Try.params8 fok8 Try.func8 Try.params9 fok9 Try.func9 Try.params10 fok10 Try.func10 Try.params11 fok11 Try.func11 Try.params12 fok12 Try.func12 Try.params13 fok13 Try.func13 Try.params14 fok14 Try.func14 Try.params15 fok15 Try.func15 Try.params16 fok16 Try.func16 Try.params17 fok17 Try.func17 Try.params18 fok18 Try.func18 Try.params19 fok19 Try.func19 Try.params20 fok20 Try.func20 Try.params21 fok21 Try.func21 Try.params22 fok22 Try.func22 Try.params23 fok23 Try.func23 Try.params24 fok24 Try.func24 Try.params25 fok25 Try.func25 Try.params26 fok26 Try.func26 Try.params27 fok27 Try.func27 Try.params28 fok28 Try.func28 Try.params29 fok29 Try.func29 Try.params30 fok30 Try.func30 Try.params31 fok31 Try.func31 Try.params32 fok32 Try.func32 Try.params33 fok33 Try.func33 Try.params34 fok34 Try.func34 Try.params35 fok35 Try.func35 Try.params36 fok36 Try.func36 Try.params37 fok37 Try.func37 Try.params38 fok38 Try.func38 Try.params39 fok39 Try.func39 Try.params40 fok40 Try.func40 Try.params41 fok41 Try.func41 Try.params42 fok42 Try.func42 Try.params43 fok43 Try.func43 Try.params44 fok44 Try.func44 Try.params45 fok45 Try.func45 Try.params46 fok46 Try.func46 Try.params47 fok47 Try.func47 Try.params48 fok48 Try.func48 Try.params49 fok49 Try.func49 Try.params50 fok50 Try.func50 Try.params51 fok51 Try.func51 Try.params52 fok52 Try.func52 Try.params53 fok53 Try.func53 Try.params54 fok54 Try.func54 Try.params55 fok55 Try.func55 Try.params56 fok56 Try.func56 Try.params57 fok57 Try.func57 Try.params58 fok58 Try.func58 Try.params59 fok59 Try.func59 Try.params60 fok60 Try.func60 Try.params61 fok61 Try.func61 Try.params62 fok62 Try.func62 Try.params63 fok63 Try.func63 Try.params64 fok64 Try.func64 Try.params65 fok65 Try.func65 Try.params66 fok66 Try.func66 Try.params67 fok67 Try.func67 Try.params68 fok68 Try.func68 Try.params69 fok69 Try.func69 Try.params70 fok70 Try.func70 Try.params71 fok71 Try.func71 Try.params72 fok72 Try.func72 Try.params73 fok73 Try.func73 Try.params74 fok74 Try.func74 Try.params75 fok75 Try.func75 Try.params76 fok76 Try.func76 Try.params77 fok77 Try.func77 Try.params78 fok78 Try.func78 Try.params79 fok79 Try.func79 Try.params80 fok80 Try.func80 Try.params81 fok81 Try.func81 Try.params82 fok82 Try.func82 Try.params83 fok83 Try.func83 Try.params84 fok84 Try.func84 Try.params85 fok85 Try.func85 Try.params86 fok86 Try.func86 Try.params87 fok87 Try.func87 Try.params88 fok88 Try.func88 Try.params89 fok89 Try.func89 Try.params90 fok90 Try.func90 Try.params91 fok91 Try.func91 Try.params92 fok92 Try.func92 Try.params93 fok93 Try.func93 Try.params94 fok94 Try.func94 Try.params95 fok95 Try.func95 Try.params96 fok96 Try.func96 Try.params97 fok97 Try.func97 Try.params98 fok98 Try.func98 Try.params99 fok99 Try.func99 Try.params100 fok100 Try.func100 Try.params101 fok101 Try.func101 Try.params102 fok102 Try.func102 Try.params103 fok103 Try.func103 Try.params104 fok104 Try.func104 Try.params105 fok105 Try.func105 Try.params106 fok106 Try.func106 Try.params107 fok107 Try.func107 Try.params108 fok108 Try.func108 Try.params109 fok109 Try.func109 Try.params110 fok110 Try.func110 Try.params111 fok111 Try.func111 Try.params112 fok112 Try.func112 Try.params128 fok128 Try.func128 Try.params129 fok129 Try.func129 Try.params130 fok130 Try.func130 Try.params132 fok132 Try.func132 Try.params133 fok133 Try.func133 Try.params134 fok134 Try.func134 Try.params135 fok135 Try.func135 Try.params136 fok136 Try.func136 Try.params137 fok137 Try.func137 Try.params138 fok138 Try.func138 Try.params139 fok139 Try.func139 Try.params140 fok140 Try.func140 Try.params141 fok141 Try.func141 Try.params142 fok142 Try.func142 Try.params143 fok143 Try.func143

end Go.Proofs.Ytebmmecpcgnnkaa
