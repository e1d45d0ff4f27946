/-
  The types of this seat, as the abstract view asks for them.
  Conditions: none.
-/
import Derived.Test.YtmjocalgekfodaaProg
import Derived.Test.YtmjocalgekfodaaKC2
import Derived.KernelRfl
namespace Go.Proofs.Ytmjocalgekfodaa
set_option linter.unusedVariables false

theorem ty_ag1 : aggT Try.prog 1 = some false := by kernel_rfl
theorem ty_sz1 : szT Try.prog 1 = some 1 := by kernel_rfl
theorem ty_int1 : intT Try.prog 1 = none := by kernel_rfl
theorem ty_ifc1 : ifaceT Try.prog 1 = false := by kernel_rfl
theorem ty_bool1 : boolT Try.prog 1 = false := by kernel_rfl
theorem ty_z1 : zeroT Try.prog 1 = some [.nilFunc] := by kernel_rfl
theorem ty_ag2 : aggT Try.prog 2 = some false := by kernel_rfl
theorem ty_sz2 : szT Try.prog 2 = some 1 := by kernel_rfl
theorem ty_int2 : intT Try.prog 2 = some .i64 := by kernel_rfl
theorem ty_ifc2 : ifaceT Try.prog 2 = false := by kernel_rfl
theorem ty_bool2 : boolT Try.prog 2 = false := by kernel_rfl
theorem ty_z2 : zeroT Try.prog 2 = some [.int .i64 (0)] := by kernel_rfl
theorem ty_ag3 : aggT Try.prog 3 = some false := by kernel_rfl
theorem ty_sz3 : szT Try.prog 3 = some 1 := by kernel_rfl
theorem ty_int3 : intT Try.prog 3 = some .i64 := by kernel_rfl
theorem ty_ifc3 : ifaceT Try.prog 3 = false := by kernel_rfl
theorem ty_bool3 : boolT Try.prog 3 = false := by kernel_rfl
theorem ty_z3 : zeroT Try.prog 3 = some [.int .i64 (0)] := by kernel_rfl
theorem ty_ag4 : aggT Try.prog 4 = some false := by kernel_rfl
theorem ty_sz4 : szT Try.prog 4 = some 1 := by kernel_rfl
theorem ty_int4 : intT Try.prog 4 = none := by kernel_rfl
theorem ty_ifc4 : ifaceT Try.prog 4 = false := by kernel_rfl
theorem ty_bool4 : boolT Try.prog 4 = true := by kernel_rfl
theorem ty_z4 : zeroT Try.prog 4 = some [.bool false] := by kernel_rfl
theorem ty_ag5 : aggT Try.prog 5 = some false := by kernel_rfl
theorem ty_sz5 : szT Try.prog 5 = some 1 := by kernel_rfl
theorem ty_int5 : intT Try.prog 5 = some .u8 := by kernel_rfl
theorem ty_ifc5 : ifaceT Try.prog 5 = false := by kernel_rfl
theorem ty_bool5 : boolT Try.prog 5 = false := by kernel_rfl
theorem ty_z5 : zeroT Try.prog 5 = some [.int .u8 (0)] := by kernel_rfl
theorem ty_ag6 : aggT Try.prog 6 = some false := by kernel_rfl
theorem ty_sz6 : szT Try.prog 6 = some 1 := by kernel_rfl
theorem ty_int6 : intT Try.prog 6 = some .u8 := by kernel_rfl
theorem ty_ifc6 : ifaceT Try.prog 6 = false := by kernel_rfl
theorem ty_bool6 : boolT Try.prog 6 = false := by kernel_rfl
theorem ty_z6 : zeroT Try.prog 6 = some [.int .u8 (0)] := by kernel_rfl
theorem ty_ag7 : aggT Try.prog 7 = some true := by kernel_rfl
theorem ty_sz7 : szT Try.prog 7 = some 4 := by kernel_rfl
theorem ty_int7 : intT Try.prog 7 = none := by kernel_rfl
theorem ty_eq7 : eqT Try.prog 7 = some [true, true, false, true] := by kernel_rfl
theorem ty_ifc7 : ifaceT Try.prog 7 = false := by kernel_rfl
theorem ty_bool7 : boolT Try.prog 7 = false := by kernel_rfl
theorem ty_f7_0 : fieldT Try.prog 7 0 = some (0, 1, false) := by kernel_rfl
theorem ty_f7_1 : fieldT Try.prog 7 1 = some (1, 1, false) := by kernel_rfl
theorem ty_f7_2 : fieldT Try.prog 7 2 = some (2, 1, false) := by kernel_rfl
theorem ty_f7_3 : fieldT Try.prog 7 3 = some (3, 1, false) := by kernel_rfl
theorem ty_pl7 : placeT Try.prog 7 = some (fun i => #[(0, 1), (1, 1), (2, 1), (3, 1)][i]?) := by kernel_rfl
theorem ty_z7 : zeroT Try.prog 7 = some [.int .i64 (0), .int .i64 (0), .bool false, .int .u8 (0)] := by kernel_rfl
theorem ty_ag8 : aggT Try.prog 8 = some true := by kernel_rfl
theorem ty_sz8 : szT Try.prog 8 = some 4 := by kernel_rfl
theorem ty_int8 : intT Try.prog 8 = none := by kernel_rfl
theorem ty_eq8 : eqT Try.prog 8 = some [true, true, false, true] := by kernel_rfl
theorem ty_ifc8 : ifaceT Try.prog 8 = false := by kernel_rfl
theorem ty_m8_0 : methA Try.prog 8 "Error" = some 85 := by kernel_rfl
theorem ty_k8_0 : nilOk Try.prog 8 "Error" = true := by kernel_rfl
theorem ty_m8_1 : methA Try.prog 8 "RuntimeError" = some 86 := by kernel_rfl
theorem ty_k8_1 : nilOk Try.prog 8 "RuntimeError" = true := by kernel_rfl
theorem ty_bool8 : boolT Try.prog 8 = false := by kernel_rfl
theorem ty_f8_0 : fieldT Try.prog 8 0 = some (0, 1, false) := by kernel_rfl
theorem ty_f8_1 : fieldT Try.prog 8 1 = some (1, 1, false) := by kernel_rfl
theorem ty_f8_2 : fieldT Try.prog 8 2 = some (2, 1, false) := by kernel_rfl
theorem ty_f8_3 : fieldT Try.prog 8 3 = some (3, 1, false) := by kernel_rfl
theorem ty_pl8 : placeT Try.prog 8 = some (fun i => #[(0, 1), (1, 1), (2, 1), (3, 1)][i]?) := by kernel_rfl
theorem ty_z8 : zeroT Try.prog 8 = some [.int .i64 (0), .int .i64 (0), .bool false, .int .u8 (0)] := by kernel_rfl
theorem ty_ag9 : aggT Try.prog 9 = some false := by kernel_rfl
theorem ty_sz9 : szT Try.prog 9 = some 1 := by kernel_rfl
theorem ty_int9 : intT Try.prog 9 = none := by kernel_rfl
theorem ty_ifc9 : ifaceT Try.prog 9 = false := by kernel_rfl
theorem ty_bool9 : boolT Try.prog 9 = false := by kernel_rfl
theorem ty_z9 : zeroT Try.prog 9 = some [.string ⟨#[]⟩] := by kernel_rfl
theorem ty_ag10 : aggT Try.prog 10 = some false := by kernel_rfl
theorem ty_sz10 : szT Try.prog 10 = some 1 := by kernel_rfl
theorem ty_int10 : intT Try.prog 10 = none := by kernel_rfl
theorem ty_ifc10 : ifaceT Try.prog 10 = false := by kernel_rfl
theorem ty_m10_0 : methA Try.prog 10 "Error" = some 87 := by kernel_rfl
theorem ty_k10_0 : nilOk Try.prog 10 "Error" = true := by kernel_rfl
theorem ty_m10_1 : methA Try.prog 10 "RuntimeError" = some 88 := by kernel_rfl
theorem ty_k10_1 : nilOk Try.prog 10 "RuntimeError" = true := by kernel_rfl
theorem ty_bool10 : boolT Try.prog 10 = false := by kernel_rfl
theorem ty_z10 : zeroT Try.prog 10 = some [.string ⟨#[]⟩] := by kernel_rfl
theorem ty_ag11 : aggT Try.prog 11 = some false := by kernel_rfl
theorem ty_sz11 : szT Try.prog 11 = some 1 := by kernel_rfl
theorem ty_int11 : intT Try.prog 11 = none := by kernel_rfl
theorem ty_ifc11 : ifaceT Try.prog 11 = false := by kernel_rfl
theorem ty_m11_0 : methA Try.prog 11 "Error" = some 89 := by kernel_rfl
theorem ty_k11_0 : nilOk Try.prog 11 "Error" = true := by kernel_rfl
theorem ty_m11_1 : methA Try.prog 11 "RuntimeError" = some 90 := by kernel_rfl
theorem ty_k11_1 : nilOk Try.prog 11 "RuntimeError" = true := by kernel_rfl
theorem ty_bool11 : boolT Try.prog 11 = false := by kernel_rfl
theorem ty_z11 : zeroT Try.prog 11 = some [.string ⟨#[]⟩] := by kernel_rfl
theorem ty_ag12 : aggT Try.prog 12 = some false := by kernel_rfl
theorem ty_sz12 : szT Try.prog 12 = some 1 := by kernel_rfl
theorem ty_int12 : intT Try.prog 12 = some .u64 := by kernel_rfl
theorem ty_ifc12 : ifaceT Try.prog 12 = false := by kernel_rfl
theorem ty_bool12 : boolT Try.prog 12 = false := by kernel_rfl
theorem ty_z12 : zeroT Try.prog 12 = some [.int .u64 (0)] := by kernel_rfl
theorem ty_ag13 : aggT Try.prog 13 = some true := by kernel_rfl
theorem ty_sz13 : szT Try.prog 13 = some 2 := by kernel_rfl
theorem ty_int13 : intT Try.prog 13 = none := by kernel_rfl
theorem ty_ifc13 : ifaceT Try.prog 13 = false := by kernel_rfl
theorem ty_bool13 : boolT Try.prog 13 = false := by kernel_rfl
theorem ty_f13_0 : fieldT Try.prog 13 0 = some (0, 1, false) := by kernel_rfl
theorem ty_f13_1 : fieldT Try.prog 13 1 = some (1, 1, false) := by kernel_rfl
theorem ty_pl13 : placeT Try.prog 13 = some (fun i => #[(0, 1), (1, 1)][i]?) := by kernel_rfl
theorem ty_z13 : zeroT Try.prog 13 = some [.string ⟨#[]⟩, .int .u64 (0)] := by kernel_rfl
theorem ty_ag14 : aggT Try.prog 14 = some true := by kernel_rfl
theorem ty_sz14 : szT Try.prog 14 = some 2 := by kernel_rfl
theorem ty_int14 : intT Try.prog 14 = none := by kernel_rfl
theorem ty_ifc14 : ifaceT Try.prog 14 = false := by kernel_rfl
theorem ty_m14_0 : methA Try.prog 14 "Error" = some 91 := by kernel_rfl
theorem ty_k14_0 : nilOk Try.prog 14 "Error" = true := by kernel_rfl
theorem ty_m14_1 : methA Try.prog 14 "RuntimeError" = some 92 := by kernel_rfl
theorem ty_k14_1 : nilOk Try.prog 14 "RuntimeError" = true := by kernel_rfl
theorem ty_bool14 : boolT Try.prog 14 = false := by kernel_rfl
theorem ty_f14_0 : fieldT Try.prog 14 0 = some (0, 1, false) := by kernel_rfl
theorem ty_f14_1 : fieldT Try.prog 14 1 = some (1, 1, false) := by kernel_rfl
theorem ty_pl14 : placeT Try.prog 14 = some (fun i => #[(0, 1), (1, 1)][i]?) := by kernel_rfl
theorem ty_z14 : zeroT Try.prog 14 = some [.string ⟨#[]⟩, .int .u64 (0)] := by kernel_rfl
theorem ty_ag15 : aggT Try.prog 15 = some false := by kernel_rfl
theorem ty_sz15 : szT Try.prog 15 = some 1 := by kernel_rfl
theorem ty_int15 : intT Try.prog 15 = none := by kernel_rfl
theorem ty_ifc15 : ifaceT Try.prog 15 = false := by kernel_rfl
theorem ty_m15_0 : methA Try.prog 15 "Error" = some 93 := by kernel_rfl
theorem ty_k15_0 : nilOk Try.prog 15 "Error" = true := by kernel_rfl
theorem ty_m15_1 : methA Try.prog 15 "RuntimeError" = some 94 := by kernel_rfl
theorem ty_k15_1 : nilOk Try.prog 15 "RuntimeError" = true := by kernel_rfl
theorem ty_bool15 : boolT Try.prog 15 = false := by kernel_rfl
theorem ty_z15 : zeroT Try.prog 15 = some [.pointer none] := by kernel_rfl
theorem ty_ag16 : aggT Try.prog 16 = some false := by kernel_rfl
theorem ty_sz16 : szT Try.prog 16 = some 1 := by kernel_rfl
theorem ty_int16 : intT Try.prog 16 = none := by kernel_rfl
theorem ty_ifc16 : ifaceT Try.prog 16 = false := by kernel_rfl
theorem ty_m16_0 : methA Try.prog 16 "Error" = some 95 := by kernel_rfl
theorem ty_k16_0 : nilOk Try.prog 16 "Error" = true := by kernel_rfl
theorem ty_m16_1 : methA Try.prog 16 "RuntimeError" = some 96 := by kernel_rfl
theorem ty_k16_1 : nilOk Try.prog 16 "RuntimeError" = true := by kernel_rfl
theorem ty_bool16 : boolT Try.prog 16 = false := by kernel_rfl
theorem ty_z16 : zeroT Try.prog 16 = some [.pointer none] := by kernel_rfl
theorem ty_ag17 : aggT Try.prog 17 = some false := by kernel_rfl
theorem ty_sz17 : szT Try.prog 17 = some 1 := by kernel_rfl
theorem ty_int17 : intT Try.prog 17 = none := by kernel_rfl
theorem ty_ifc17 : ifaceT Try.prog 17 = false := by kernel_rfl
theorem ty_m17_0 : methA Try.prog 17 "Align" = some 97 := by kernel_rfl
theorem ty_k17_0 : nilOk Try.prog 17 "Align" = true := by kernel_rfl
theorem ty_bool17 : boolT Try.prog 17 = false := by kernel_rfl
theorem ty_z17 : zeroT Try.prog 17 = some [.pointer none] := by kernel_rfl
theorem ty_ag18 : aggT Try.prog 18 = some true := by kernel_rfl
theorem ty_sz18 : szT Try.prog 18 = some 1 := by kernel_rfl
theorem ty_int18 : intT Try.prog 18 = none := by kernel_rfl
theorem ty_ifc18 : ifaceT Try.prog 18 = false := by kernel_rfl
theorem ty_bool18 : boolT Try.prog 18 = false := by kernel_rfl
theorem ty_f18_0 : fieldT Try.prog 18 0 = some (0, 1, false) := by kernel_rfl
theorem ty_pl18 : placeT Try.prog 18 = some (fun i => #[(0, 1)][i]?) := by kernel_rfl
theorem ty_z18 : zeroT Try.prog 18 = some [.pointer none] := by kernel_rfl
theorem ty_ag19 : aggT Try.prog 19 = some true := by kernel_rfl
theorem ty_sz19 : szT Try.prog 19 = some 1 := by kernel_rfl
theorem ty_int19 : intT Try.prog 19 = none := by kernel_rfl
theorem ty_ifc19 : ifaceT Try.prog 19 = false := by kernel_rfl
theorem ty_m19_0 : methA Try.prog 19 "Error" = some 98 := by kernel_rfl
theorem ty_k19_0 : nilOk Try.prog 19 "Error" = true := by kernel_rfl
theorem ty_m19_1 : methA Try.prog 19 "RuntimeError" = some 99 := by kernel_rfl
theorem ty_k19_1 : nilOk Try.prog 19 "RuntimeError" = true := by kernel_rfl
theorem ty_bool19 : boolT Try.prog 19 = false := by kernel_rfl
theorem ty_f19_0 : fieldT Try.prog 19 0 = some (0, 1, false) := by kernel_rfl
theorem ty_pl19 : placeT Try.prog 19 = some (fun i => #[(0, 1)][i]?) := by kernel_rfl
theorem ty_z19 : zeroT Try.prog 19 = some [.pointer none] := by kernel_rfl
theorem ty_ag20 : aggT Try.prog 20 = some false := by kernel_rfl
theorem ty_sz20 : szT Try.prog 20 = some 1 := by kernel_rfl
theorem ty_int20 : intT Try.prog 20 = none := by kernel_rfl
theorem ty_ifc20 : ifaceT Try.prog 20 = true := by kernel_rfl
theorem ty_bool20 : boolT Try.prog 20 = false := by kernel_rfl
theorem ty_z20 : zeroT Try.prog 20 = some [.nilIface] := by kernel_rfl
theorem ty_ag21 : aggT Try.prog 21 = some false := by kernel_rfl
theorem ty_sz21 : szT Try.prog 21 = some 1 := by kernel_rfl
theorem ty_int21 : intT Try.prog 21 = some .i32 := by kernel_rfl
theorem ty_ifc21 : ifaceT Try.prog 21 = false := by kernel_rfl
theorem ty_bool21 : boolT Try.prog 21 = false := by kernel_rfl
theorem ty_z21 : zeroT Try.prog 21 = some [.int .i32 (0)] := by kernel_rfl
theorem ty_ag22 : aggT Try.prog 22 = some false := by kernel_rfl
theorem ty_sz22 : szT Try.prog 22 = some 1 := by kernel_rfl
theorem ty_int22 : intT Try.prog 22 = none := by kernel_rfl
theorem ty_ifc22 : ifaceT Try.prog 22 = false := by kernel_rfl
theorem ty_bool22 : boolT Try.prog 22 = false := by kernel_rfl
theorem ty_elem22 : elemT Try.prog 22 = some (5, 1, false) := by kernel_rfl
theorem ty_app22 : appT Try.prog 22 = some (5, 1, 1) := by kernel_rfl
theorem ty_z22 : zeroT Try.prog 22 = some [.slice none 0 0] := by kernel_rfl
theorem ty_ag23 : aggT Try.prog 23 = some false := by kernel_rfl
theorem ty_sz23 : szT Try.prog 23 = some 1 := by kernel_rfl
theorem ty_int23 : intT Try.prog 23 = none := by kernel_rfl
theorem ty_ifc23 : ifaceT Try.prog 23 = false := by kernel_rfl
theorem ty_bool23 : boolT Try.prog 23 = false := by kernel_rfl
theorem ty_elem23 : elemT Try.prog 23 = some (24, 1, false) := by kernel_rfl
theorem ty_app23 : appT Try.prog 23 = some (24, 1, 2) := by kernel_rfl
theorem ty_z23 : zeroT Try.prog 23 = some [.slice none 0 0] := by kernel_rfl
theorem ty_ag24 : aggT Try.prog 24 = some false := by kernel_rfl
theorem ty_sz24 : szT Try.prog 24 = some 1 := by kernel_rfl
theorem ty_int24 : intT Try.prog 24 = some .u16 := by kernel_rfl
theorem ty_ifc24 : ifaceT Try.prog 24 = false := by kernel_rfl
theorem ty_bool24 : boolT Try.prog 24 = false := by kernel_rfl
theorem ty_z24 : zeroT Try.prog 24 = some [.int .u16 (0)] := by kernel_rfl
theorem ty_ag25 : aggT Try.prog 25 = some true := by kernel_rfl
theorem ty_sz25 : szT Try.prog 25 = some 2 := by kernel_rfl
theorem ty_int25 : intT Try.prog 25 = none := by kernel_rfl
theorem ty_ifc25 : ifaceT Try.prog 25 = false := by kernel_rfl
theorem ty_bool25 : boolT Try.prog 25 = false := by kernel_rfl
theorem ty_f25_0 : fieldT Try.prog 25 0 = some (0, 1, false) := by kernel_rfl
theorem ty_f25_1 : fieldT Try.prog 25 1 = some (1, 1, false) := by kernel_rfl
theorem ty_pl25 : placeT Try.prog 25 = some (fun i => #[(0, 1), (1, 1)][i]?) := by kernel_rfl
theorem ty_z25 : zeroT Try.prog 25 = some [.slice none 0 0, .int .u16 (0)] := by kernel_rfl
theorem ty_ag26 : aggT Try.prog 26 = some true := by kernel_rfl
theorem ty_sz26 : szT Try.prog 26 = some 2 := by kernel_rfl
theorem ty_int26 : intT Try.prog 26 = none := by kernel_rfl
theorem ty_ifc26 : ifaceT Try.prog 26 = false := by kernel_rfl
theorem ty_bool26 : boolT Try.prog 26 = false := by kernel_rfl
theorem ty_f26_0 : fieldT Try.prog 26 0 = some (0, 1, false) := by kernel_rfl
theorem ty_f26_1 : fieldT Try.prog 26 1 = some (1, 1, false) := by kernel_rfl
theorem ty_pl26 : placeT Try.prog 26 = some (fun i => #[(0, 1), (1, 1)][i]?) := by kernel_rfl
theorem ty_z26 : zeroT Try.prog 26 = some [.slice none 0 0, .int .u16 (0)] := by kernel_rfl
theorem ty_ag27 : aggT Try.prog 27 = some false := by kernel_rfl
theorem ty_sz27 : szT Try.prog 27 = some 1 := by kernel_rfl
theorem ty_int27 : intT Try.prog 27 = none := by kernel_rfl
theorem ty_ifc27 : ifaceT Try.prog 27 = false := by kernel_rfl
theorem ty_bool27 : boolT Try.prog 27 = false := by kernel_rfl
theorem ty_z27 : zeroT Try.prog 27 = some [.nilFunc] := by kernel_rfl
theorem ty_ag28 : aggT Try.prog 28 = some false := by kernel_rfl
theorem ty_sz28 : szT Try.prog 28 = some 1 := by kernel_rfl
theorem ty_int28 : intT Try.prog 28 = some .u64 := by kernel_rfl
theorem ty_ifc28 : ifaceT Try.prog 28 = false := by kernel_rfl
theorem ty_bool28 : boolT Try.prog 28 = false := by kernel_rfl
theorem ty_z28 : zeroT Try.prog 28 = some [.int .u64 (0)] := by kernel_rfl
theorem ty_ag29 : aggT Try.prog 29 = some false := by kernel_rfl
theorem ty_sz29 : szT Try.prog 29 = some 1 := by kernel_rfl
theorem ty_int29 : intT Try.prog 29 = some .i64 := by kernel_rfl
theorem ty_ifc29 : ifaceT Try.prog 29 = false := by kernel_rfl
theorem ty_bool29 : boolT Try.prog 29 = false := by kernel_rfl
theorem ty_z29 : zeroT Try.prog 29 = some [.int .i64 (0)] := by kernel_rfl
theorem ty_ag31 : aggT Try.prog 31 = some false := by kernel_rfl
theorem ty_sz31 : szT Try.prog 31 = some 1 := by kernel_rfl
theorem ty_int31 : intT Try.prog 31 = none := by kernel_rfl
theorem ty_ifc31 : ifaceT Try.prog 31 = false := by kernel_rfl
theorem ty_bool31 : boolT Try.prog 31 = false := by kernel_rfl
theorem ty_z31 : zeroT Try.prog 31 = some [.nilFunc] := by kernel_rfl
theorem ty_ag32 : aggT Try.prog 32 = some false := by kernel_rfl
theorem ty_sz32 : szT Try.prog 32 = some 1 := by kernel_rfl
theorem ty_int32 : intT Try.prog 32 = none := by kernel_rfl
theorem ty_ifc32 : ifaceT Try.prog 32 = false := by kernel_rfl
theorem ty_bool32 : boolT Try.prog 32 = false := by kernel_rfl
theorem ty_z32 : zeroT Try.prog 32 = some [.nilFunc] := by kernel_rfl
theorem ty_ag33 : aggT Try.prog 33 = some false := by kernel_rfl
theorem ty_sz33 : szT Try.prog 33 = some 1 := by kernel_rfl
theorem ty_int33 : intT Try.prog 33 = none := by kernel_rfl
theorem ty_ifc33 : ifaceT Try.prog 33 = false := by kernel_rfl
theorem ty_bool33 : boolT Try.prog 33 = false := by kernel_rfl
theorem ty_z33 : zeroT Try.prog 33 = some [.nilFunc] := by kernel_rfl
theorem ty_ag34 : aggT Try.prog 34 = some false := by kernel_rfl
theorem ty_sz34 : szT Try.prog 34 = some 1 := by kernel_rfl
theorem ty_int34 : intT Try.prog 34 = some .u32 := by kernel_rfl
theorem ty_ifc34 : ifaceT Try.prog 34 = false := by kernel_rfl
theorem ty_bool34 : boolT Try.prog 34 = false := by kernel_rfl
theorem ty_z34 : zeroT Try.prog 34 = some [.int .u32 (0)] := by kernel_rfl
theorem ty_ag35 : aggT Try.prog 35 = some true := by kernel_rfl
theorem ty_sz35 : szT Try.prog 35 = some 4 := by kernel_rfl
theorem ty_int35 : intT Try.prog 35 = none := by kernel_rfl
theorem ty_eq35 : eqT Try.prog 35 = some [true, true, true, true] := by kernel_rfl
theorem ty_ifc35 : ifaceT Try.prog 35 = false := by kernel_rfl
theorem ty_bool35 : boolT Try.prog 35 = false := by kernel_rfl
theorem ty_f35_0 : fieldT Try.prog 35 0 = some (0, 1, false) := by kernel_rfl
theorem ty_f35_1 : fieldT Try.prog 35 1 = some (1, 1, false) := by kernel_rfl
theorem ty_f35_2 : fieldT Try.prog 35 2 = some (2, 1, false) := by kernel_rfl
theorem ty_f35_3 : fieldT Try.prog 35 3 = some (3, 1, false) := by kernel_rfl
theorem ty_pl35 : placeT Try.prog 35 = some (fun i => #[(0, 1), (1, 1), (2, 1), (3, 1)][i]?) := by kernel_rfl
theorem ty_z35 : zeroT Try.prog 35 = some [.int .i64 (0), .int .i64 (0), .int .i64 (0), .int .u32 (0)] := by kernel_rfl
theorem ty_ag36 : aggT Try.prog 36 = some true := by kernel_rfl
theorem ty_sz36 : szT Try.prog 36 = some 4 := by kernel_rfl
theorem ty_int36 : intT Try.prog 36 = none := by kernel_rfl
theorem ty_eq36 : eqT Try.prog 36 = some [true, true, true, true] := by kernel_rfl
theorem ty_ifc36 : ifaceT Try.prog 36 = false := by kernel_rfl
theorem ty_m36_0 : methA Try.prog 36 "plugboard/audios.right" = some 58 := by kernel_rfl
theorem ty_k36_0 : nilOk Try.prog 36 "plugboard/audios.right" = true := by kernel_rfl
theorem ty_bool36 : boolT Try.prog 36 = false := by kernel_rfl
theorem ty_f36_0 : fieldT Try.prog 36 0 = some (0, 1, false) := by kernel_rfl
theorem ty_f36_1 : fieldT Try.prog 36 1 = some (1, 1, false) := by kernel_rfl
theorem ty_f36_2 : fieldT Try.prog 36 2 = some (2, 1, false) := by kernel_rfl
theorem ty_f36_3 : fieldT Try.prog 36 3 = some (3, 1, false) := by kernel_rfl
theorem ty_pl36 : placeT Try.prog 36 = some (fun i => #[(0, 1), (1, 1), (2, 1), (3, 1)][i]?) := by kernel_rfl
theorem ty_z36 : zeroT Try.prog 36 = some [.int .i64 (0), .int .i64 (0), .int .i64 (0), .int .u32 (0)] := by kernel_rfl
theorem ty_ag37 : aggT Try.prog 37 = some false := by kernel_rfl
theorem ty_sz37 : szT Try.prog 37 = some 1 := by kernel_rfl
theorem ty_int37 : intT Try.prog 37 = none := by kernel_rfl
theorem ty_ifc37 : ifaceT Try.prog 37 = false := by kernel_rfl
theorem ty_bool37 : boolT Try.prog 37 = false := by kernel_rfl
theorem ty_elem37 : elemT Try.prog 37 = some (45, 3, true) := by kernel_rfl
theorem ty_app37 : appT Try.prog 37 = some (45, 3, 8) := by kernel_rfl
theorem ty_z37 : zeroT Try.prog 37 = some [.slice none 0 0] := by kernel_rfl
theorem ty_ag38 : aggT Try.prog 38 = some false := by kernel_rfl
theorem ty_sz38 : szT Try.prog 38 = some 1 := by kernel_rfl
theorem ty_int38 : intT Try.prog 38 = none := by kernel_rfl
theorem ty_ifc38 : ifaceT Try.prog 38 = false := by kernel_rfl
theorem ty_bool38 : boolT Try.prog 38 = false := by kernel_rfl
theorem ty_elem38 : elemT Try.prog 38 = some (3, 1, false) := by kernel_rfl
theorem ty_app38 : appT Try.prog 38 = some (3, 1, 8) := by kernel_rfl
theorem ty_z38 : zeroT Try.prog 38 = some [.slice none 0 0] := by kernel_rfl
theorem ty_ag39 : aggT Try.prog 39 = some true := by kernel_rfl
theorem ty_sz39 : szT Try.prog 39 = some 4 := by kernel_rfl
theorem ty_int39 : intT Try.prog 39 = none := by kernel_rfl
theorem ty_ifc39 : ifaceT Try.prog 39 = false := by kernel_rfl
theorem ty_bool39 : boolT Try.prog 39 = false := by kernel_rfl
theorem ty_f39_0 : fieldT Try.prog 39 0 = some (0, 1, false) := by kernel_rfl
theorem ty_f39_1 : fieldT Try.prog 39 1 = some (1, 1, false) := by kernel_rfl
theorem ty_f39_2 : fieldT Try.prog 39 2 = some (2, 1, false) := by kernel_rfl
theorem ty_f39_3 : fieldT Try.prog 39 3 = some (3, 1, false) := by kernel_rfl
theorem ty_pl39 : placeT Try.prog 39 = some (fun i => #[(0, 1), (1, 1), (2, 1), (3, 1)][i]?) := by kernel_rfl
theorem ty_z39 : zeroT Try.prog 39 = some [.slice none 0 0, .slice none 0 0, .int .i64 (0), .int .i64 (0)] := by kernel_rfl
theorem ty_ag40 : aggT Try.prog 40 = some true := by kernel_rfl
theorem ty_sz40 : szT Try.prog 40 = some 4 := by kernel_rfl
theorem ty_int40 : intT Try.prog 40 = none := by kernel_rfl
theorem ty_ifc40 : ifaceT Try.prog 40 = false := by kernel_rfl
theorem ty_bool40 : boolT Try.prog 40 = false := by kernel_rfl
theorem ty_f40_0 : fieldT Try.prog 40 0 = some (0, 1, false) := by kernel_rfl
theorem ty_f40_1 : fieldT Try.prog 40 1 = some (1, 1, false) := by kernel_rfl
theorem ty_f40_2 : fieldT Try.prog 40 2 = some (2, 1, false) := by kernel_rfl
theorem ty_f40_3 : fieldT Try.prog 40 3 = some (3, 1, false) := by kernel_rfl
theorem ty_pl40 : placeT Try.prog 40 = some (fun i => #[(0, 1), (1, 1), (2, 1), (3, 1)][i]?) := by kernel_rfl
theorem ty_z40 : zeroT Try.prog 40 = some [.slice none 0 0, .slice none 0 0, .int .i64 (0), .int .i64 (0)] := by kernel_rfl
theorem ty_ag42 : aggT Try.prog 42 = some false := by kernel_rfl
theorem ty_sz42 : szT Try.prog 42 = some 1 := by kernel_rfl
theorem ty_int42 : intT Try.prog 42 = none := by kernel_rfl
theorem ty_ifc42 : ifaceT Try.prog 42 = false := by kernel_rfl
theorem ty_bool42 : boolT Try.prog 42 = false := by kernel_rfl
theorem ty_z42 : zeroT Try.prog 42 = some [.nilFunc] := by kernel_rfl
theorem ty_ag43 : aggT Try.prog 43 = some false := by kernel_rfl
theorem ty_sz43 : szT Try.prog 43 = some 1 := by kernel_rfl
theorem ty_int43 : intT Try.prog 43 = none := by kernel_rfl
theorem ty_ifc43 : ifaceT Try.prog 43 = false := by kernel_rfl
theorem ty_bool43 : boolT Try.prog 43 = false := by kernel_rfl
theorem ty_z43 : zeroT Try.prog 43 = some [.nilFunc] := by kernel_rfl
theorem ty_ag44 : aggT Try.prog 44 = some true := by kernel_rfl
theorem ty_sz44 : szT Try.prog 44 = some 3 := by kernel_rfl
theorem ty_int44 : intT Try.prog 44 = none := by kernel_rfl
theorem ty_eq44 : eqT Try.prog 44 = some [true, false, false] := by kernel_rfl
theorem ty_ifc44 : ifaceT Try.prog 44 = false := by kernel_rfl
theorem ty_bool44 : boolT Try.prog 44 = false := by kernel_rfl
theorem ty_f44_0 : fieldT Try.prog 44 0 = some (0, 1, false) := by kernel_rfl
theorem ty_f44_1 : fieldT Try.prog 44 1 = some (1, 1, false) := by kernel_rfl
theorem ty_f44_2 : fieldT Try.prog 44 2 = some (2, 1, false) := by kernel_rfl
theorem ty_pl44 : placeT Try.prog 44 = some (fun i => #[(0, 1), (1, 1), (2, 1)][i]?) := by kernel_rfl
theorem ty_z44 : zeroT Try.prog 44 = some [.int .u32 (0), .bool false, .bool false] := by kernel_rfl
theorem ty_ag45 : aggT Try.prog 45 = some true := by kernel_rfl
theorem ty_sz45 : szT Try.prog 45 = some 3 := by kernel_rfl
theorem ty_int45 : intT Try.prog 45 = none := by kernel_rfl
theorem ty_eq45 : eqT Try.prog 45 = some [true, false, false] := by kernel_rfl
theorem ty_ifc45 : ifaceT Try.prog 45 = false := by kernel_rfl
theorem ty_bool45 : boolT Try.prog 45 = false := by kernel_rfl
theorem ty_f45_0 : fieldT Try.prog 45 0 = some (0, 1, false) := by kernel_rfl
theorem ty_f45_1 : fieldT Try.prog 45 1 = some (1, 1, false) := by kernel_rfl
theorem ty_f45_2 : fieldT Try.prog 45 2 = some (2, 1, false) := by kernel_rfl
theorem ty_pl45 : placeT Try.prog 45 = some (fun i => #[(0, 1), (1, 1), (2, 1)][i]?) := by kernel_rfl
theorem ty_z45 : zeroT Try.prog 45 = some [.int .u32 (0), .bool false, .bool false] := by kernel_rfl
theorem ty_ag46 : aggT Try.prog 46 = some false := by kernel_rfl
theorem ty_sz46 : szT Try.prog 46 = some 1 := by kernel_rfl
theorem ty_int46 : intT Try.prog 46 = none := by kernel_rfl
theorem ty_ifc46 : ifaceT Try.prog 46 = false := by kernel_rfl
theorem ty_bool46 : boolT Try.prog 46 = false := by kernel_rfl
theorem ty_elem46 : elemT Try.prog 46 = some (34, 1, false) := by kernel_rfl
theorem ty_app46 : appT Try.prog 46 = some (34, 1, 4) := by kernel_rfl
theorem ty_z46 : zeroT Try.prog 46 = some [.slice none 0 0] := by kernel_rfl
theorem ty_ag48 : aggT Try.prog 48 = some false := by kernel_rfl
theorem ty_sz48 : szT Try.prog 48 = some 1 := by kernel_rfl
theorem ty_int48 : intT Try.prog 48 = none := by kernel_rfl
theorem ty_ifc48 : ifaceT Try.prog 48 = false := by kernel_rfl
theorem ty_bool48 : boolT Try.prog 48 = false := by kernel_rfl
theorem ty_z48 : zeroT Try.prog 48 = some [.nilFunc] := by kernel_rfl
theorem ty_ag49 : aggT Try.prog 49 = some false := by kernel_rfl
theorem ty_sz49 : szT Try.prog 49 = some 1 := by kernel_rfl
theorem ty_int49 : intT Try.prog 49 = none := by kernel_rfl
theorem ty_ifc49 : ifaceT Try.prog 49 = false := by kernel_rfl
theorem ty_bool49 : boolT Try.prog 49 = false := by kernel_rfl
theorem ty_z49 : zeroT Try.prog 49 = some [.nilFunc] := by kernel_rfl
theorem ty_ag50 : aggT Try.prog 50 = some false := by kernel_rfl
theorem ty_sz50 : szT Try.prog 50 = some 1 := by kernel_rfl
theorem ty_int50 : intT Try.prog 50 = none := by kernel_rfl
theorem ty_ifc50 : ifaceT Try.prog 50 = false := by kernel_rfl
theorem ty_bool50 : boolT Try.prog 50 = false := by kernel_rfl
theorem ty_elem50 : elemT Try.prog 50 = some (21, 1, false) := by kernel_rfl
theorem ty_app50 : appT Try.prog 50 = some (21, 1, 4) := by kernel_rfl
theorem ty_z50 : zeroT Try.prog 50 = some [.slice none 0 0] := by kernel_rfl
theorem ty_ag51 : aggT Try.prog 51 = some true := by kernel_rfl
theorem ty_sz51 : szT Try.prog 51 = some 5 := by kernel_rfl
theorem ty_int51 : intT Try.prog 51 = none := by kernel_rfl
theorem ty_ifc51 : ifaceT Try.prog 51 = false := by kernel_rfl
theorem ty_bool51 : boolT Try.prog 51 = false := by kernel_rfl
theorem ty_f51_0 : fieldT Try.prog 51 0 = some (0, 1, false) := by kernel_rfl
theorem ty_f51_1 : fieldT Try.prog 51 1 = some (1, 1, false) := by kernel_rfl
theorem ty_f51_2 : fieldT Try.prog 51 2 = some (2, 1, false) := by kernel_rfl
theorem ty_f51_3 : fieldT Try.prog 51 3 = some (3, 1, false) := by kernel_rfl
theorem ty_f51_4 : fieldT Try.prog 51 4 = some (4, 1, false) := by kernel_rfl
theorem ty_pl51 : placeT Try.prog 51 = some (fun i => #[(0, 1), (1, 1), (2, 1), (3, 1), (4, 1)][i]?) := by kernel_rfl
theorem ty_z51 : zeroT Try.prog 51 = some [.int .u32 (0), .int .u16 (0), .slice none 0 0, .int .u16 (0), .slice none 0 0] := by kernel_rfl
theorem ty_ag52 : aggT Try.prog 52 = some true := by kernel_rfl
theorem ty_sz52 : szT Try.prog 52 = some 5 := by kernel_rfl
theorem ty_int52 : intT Try.prog 52 = none := by kernel_rfl
theorem ty_ifc52 : ifaceT Try.prog 52 = false := by kernel_rfl
theorem ty_m52_0 : methA Try.prog 52 "plugboard/plugboardlaw42.nominal" = some 19 := by kernel_rfl
theorem ty_k52_0 : nilOk Try.prog 52 "plugboard/plugboardlaw42.nominal" = true := by kernel_rfl
theorem ty_m52_1 : methA Try.prog 52 "plugboard/plugboardlaw42.ticks" = some 20 := by kernel_rfl
theorem ty_k52_1 : nilOk Try.prog 52 "plugboard/plugboardlaw42.ticks" = true := by kernel_rfl
theorem ty_bool52 : boolT Try.prog 52 = false := by kernel_rfl
theorem ty_f52_0 : fieldT Try.prog 52 0 = some (0, 1, false) := by kernel_rfl
theorem ty_f52_1 : fieldT Try.prog 52 1 = some (1, 1, false) := by kernel_rfl
theorem ty_f52_2 : fieldT Try.prog 52 2 = some (2, 1, false) := by kernel_rfl
theorem ty_f52_3 : fieldT Try.prog 52 3 = some (3, 1, false) := by kernel_rfl
theorem ty_f52_4 : fieldT Try.prog 52 4 = some (4, 1, false) := by kernel_rfl
theorem ty_pl52 : placeT Try.prog 52 = some (fun i => #[(0, 1), (1, 1), (2, 1), (3, 1), (4, 1)][i]?) := by kernel_rfl
theorem ty_z52 : zeroT Try.prog 52 = some [.int .u32 (0), .int .u16 (0), .slice none 0 0, .int .u16 (0), .slice none 0 0] := by kernel_rfl
theorem ty_ag54 : aggT Try.prog 54 = some false := by kernel_rfl
theorem ty_sz54 : szT Try.prog 54 = some 1 := by kernel_rfl
theorem ty_int54 : intT Try.prog 54 = none := by kernel_rfl
theorem ty_ifc54 : ifaceT Try.prog 54 = false := by kernel_rfl
theorem ty_bool54 : boolT Try.prog 54 = false := by kernel_rfl
theorem ty_z54 : zeroT Try.prog 54 = some [.nilFunc] := by kernel_rfl
theorem ty_ag55 : aggT Try.prog 55 = some false := by kernel_rfl
theorem ty_sz55 : szT Try.prog 55 = some 1 := by kernel_rfl
theorem ty_int55 : intT Try.prog 55 = none := by kernel_rfl
theorem ty_ifc55 : ifaceT Try.prog 55 = false := by kernel_rfl
theorem ty_bool55 : boolT Try.prog 55 = false := by kernel_rfl
theorem ty_z55 : zeroT Try.prog 55 = some [.nilFunc] := by kernel_rfl
theorem ty_ag56 : aggT Try.prog 56 = some false := by kernel_rfl
theorem ty_sz56 : szT Try.prog 56 = some 1 := by kernel_rfl
theorem ty_int56 : intT Try.prog 56 = none := by kernel_rfl
theorem ty_ifc56 : ifaceT Try.prog 56 = false := by kernel_rfl
theorem ty_bool56 : boolT Try.prog 56 = false := by kernel_rfl
theorem ty_z56 : zeroT Try.prog 56 = some [.nilFunc] := by kernel_rfl
theorem ty_ag57 : aggT Try.prog 57 = some false := by kernel_rfl
theorem ty_sz57 : szT Try.prog 57 = some 1 := by kernel_rfl
theorem ty_int57 : intT Try.prog 57 = none := by kernel_rfl
theorem ty_ifc57 : ifaceT Try.prog 57 = false := by kernel_rfl
theorem ty_bool57 : boolT Try.prog 57 = false := by kernel_rfl
theorem ty_z57 : zeroT Try.prog 57 = some [.nilFunc] := by kernel_rfl
theorem ty_ag58 : aggT Try.prog 58 = some false := by kernel_rfl
theorem ty_sz58 : szT Try.prog 58 = some 1 := by kernel_rfl
theorem ty_int58 : intT Try.prog 58 = none := by kernel_rfl
theorem ty_ifc58 : ifaceT Try.prog 58 = false := by kernel_rfl
theorem ty_bool58 : boolT Try.prog 58 = false := by kernel_rfl
theorem ty_z58 : zeroT Try.prog 58 = some [.nilFunc] := by kernel_rfl
theorem ty_ag59 : aggT Try.prog 59 = some true := by kernel_rfl
theorem ty_sz59 : szT Try.prog 59 = some 2 := by kernel_rfl
theorem ty_int59 : intT Try.prog 59 = none := by kernel_rfl
theorem ty_eq59 : eqT Try.prog 59 = some [true, true] := by kernel_rfl
theorem ty_ifc59 : ifaceT Try.prog 59 = false := by kernel_rfl
theorem ty_bool59 : boolT Try.prog 59 = false := by kernel_rfl
theorem ty_f59_0 : fieldT Try.prog 59 0 = some (0, 1, false) := by kernel_rfl
theorem ty_f59_1 : fieldT Try.prog 59 1 = some (1, 1, false) := by kernel_rfl
theorem ty_pl59 : placeT Try.prog 59 = some (fun i => #[(0, 1), (1, 1)][i]?) := by kernel_rfl
theorem ty_z59 : zeroT Try.prog 59 = some [.int .u32 (0), .int .u32 (0)] := by kernel_rfl
theorem ty_ag60 : aggT Try.prog 60 = some true := by kernel_rfl
theorem ty_sz60 : szT Try.prog 60 = some 2 := by kernel_rfl
theorem ty_int60 : intT Try.prog 60 = none := by kernel_rfl
theorem ty_eq60 : eqT Try.prog 60 = some [true, true] := by kernel_rfl
theorem ty_ifc60 : ifaceT Try.prog 60 = false := by kernel_rfl
theorem ty_bool60 : boolT Try.prog 60 = false := by kernel_rfl
theorem ty_f60_0 : fieldT Try.prog 60 0 = some (0, 1, false) := by kernel_rfl
theorem ty_f60_1 : fieldT Try.prog 60 1 = some (1, 1, false) := by kernel_rfl
theorem ty_pl60 : placeT Try.prog 60 = some (fun i => #[(0, 1), (1, 1)][i]?) := by kernel_rfl
theorem ty_z60 : zeroT Try.prog 60 = some [.int .u32 (0), .int .u32 (0)] := by kernel_rfl
theorem ty_ag61 : aggT Try.prog 61 = some false := by kernel_rfl
theorem ty_sz61 : szT Try.prog 61 = some 1 := by kernel_rfl
theorem ty_int61 : intT Try.prog 61 = none := by kernel_rfl
theorem ty_ifc61 : ifaceT Try.prog 61 = false := by kernel_rfl
theorem ty_bool61 : boolT Try.prog 61 = false := by kernel_rfl
theorem ty_elem61 : elemT Try.prog 61 = some (22, 1, false) := by kernel_rfl
theorem ty_app61 : appT Try.prog 61 = some (22, 1, 24) := by kernel_rfl
theorem ty_z61 : zeroT Try.prog 61 = some [.slice none 0 0] := by kernel_rfl
theorem ty_ag63 : aggT Try.prog 63 = some false := by kernel_rfl
theorem ty_sz63 : szT Try.prog 63 = some 1 := by kernel_rfl
theorem ty_int63 : intT Try.prog 63 = none := by kernel_rfl
theorem ty_ifc63 : ifaceT Try.prog 63 = false := by kernel_rfl
theorem ty_bool63 : boolT Try.prog 63 = false := by kernel_rfl
theorem ty_z63 : zeroT Try.prog 63 = some [.nilFunc] := by kernel_rfl
theorem ty_ag65 : aggT Try.prog 65 = some false := by kernel_rfl
theorem ty_sz65 : szT Try.prog 65 = some 1 := by kernel_rfl
theorem ty_int65 : intT Try.prog 65 = none := by kernel_rfl
theorem ty_ifc65 : ifaceT Try.prog 65 = false := by kernel_rfl
theorem ty_bool65 : boolT Try.prog 65 = false := by kernel_rfl
theorem ty_z65 : zeroT Try.prog 65 = some [.nilFunc] := by kernel_rfl
theorem ty_ag66 : aggT Try.prog 66 = some false := by kernel_rfl
theorem ty_sz66 : szT Try.prog 66 = some 1 := by kernel_rfl
theorem ty_int66 : intT Try.prog 66 = none := by kernel_rfl
theorem ty_ifc66 : ifaceT Try.prog 66 = false := by kernel_rfl
theorem ty_bool66 : boolT Try.prog 66 = false := by kernel_rfl
theorem ty_z66 : zeroT Try.prog 66 = some [.nilFunc] := by kernel_rfl
theorem ty_ag67 : aggT Try.prog 67 = some false := by kernel_rfl
theorem ty_sz67 : szT Try.prog 67 = some 1 := by kernel_rfl
theorem ty_int67 : intT Try.prog 67 = none := by kernel_rfl
theorem ty_ifc67 : ifaceT Try.prog 67 = false := by kernel_rfl
theorem ty_bool67 : boolT Try.prog 67 = false := by kernel_rfl
theorem ty_z67 : zeroT Try.prog 67 = some [.nilFunc] := by kernel_rfl
theorem ty_ag68 : aggT Try.prog 68 = some false := by kernel_rfl
theorem ty_sz68 : szT Try.prog 68 = some 1 := by kernel_rfl
theorem ty_int68 : intT Try.prog 68 = none := by kernel_rfl
theorem ty_ifc68 : ifaceT Try.prog 68 = false := by kernel_rfl
theorem ty_bool68 : boolT Try.prog 68 = false := by kernel_rfl
theorem ty_z68 : zeroT Try.prog 68 = some [.nilFunc] := by kernel_rfl
theorem ty_ag70 : aggT Try.prog 70 = some false := by kernel_rfl
theorem ty_sz70 : szT Try.prog 70 = some 1 := by kernel_rfl
theorem ty_int70 : intT Try.prog 70 = none := by kernel_rfl
theorem ty_ifc70 : ifaceT Try.prog 70 = false := by kernel_rfl
theorem ty_bool70 : boolT Try.prog 70 = false := by kernel_rfl
theorem ty_z70 : zeroT Try.prog 70 = some [.nilFunc] := by kernel_rfl
theorem ty_ag71 : aggT Try.prog 71 = some false := by kernel_rfl
theorem ty_sz71 : szT Try.prog 71 = some 1 := by kernel_rfl
theorem ty_int71 : intT Try.prog 71 = none := by kernel_rfl
theorem ty_ifc71 : ifaceT Try.prog 71 = false := by kernel_rfl
theorem ty_bool71 : boolT Try.prog 71 = false := by kernel_rfl
theorem ty_z71 : zeroT Try.prog 71 = some [.nilFunc] := by kernel_rfl
theorem ty_ag72 : aggT Try.prog 72 = some true := by kernel_rfl
theorem ty_sz72 : szT Try.prog 72 = some 7 := by kernel_rfl
theorem ty_int72 : intT Try.prog 72 = none := by kernel_rfl
theorem ty_ifc72 : ifaceT Try.prog 72 = false := by kernel_rfl
theorem ty_bool72 : boolT Try.prog 72 = false := by kernel_rfl
theorem ty_f72_0 : fieldT Try.prog 72 0 = some (0, 1, false) := by kernel_rfl
theorem ty_f72_1 : fieldT Try.prog 72 1 = some (1, 1, false) := by kernel_rfl
theorem ty_f72_2 : fieldT Try.prog 72 2 = some (2, 1, false) := by kernel_rfl
theorem ty_f72_3 : fieldT Try.prog 72 3 = some (3, 1, false) := by kernel_rfl
theorem ty_f72_4 : fieldT Try.prog 72 4 = some (4, 1, false) := by kernel_rfl
theorem ty_f72_5 : fieldT Try.prog 72 5 = some (5, 1, false) := by kernel_rfl
theorem ty_f72_6 : fieldT Try.prog 72 6 = some (6, 1, false) := by kernel_rfl
theorem ty_pl72 : placeT Try.prog 72 = some (fun i => #[(0, 1), (1, 1), (2, 1), (3, 1), (4, 1), (5, 1), (6, 1)][i]?) := by kernel_rfl
theorem ty_z72 : zeroT Try.prog 72 = some [.bool false, .int .u8 (0), .int .i64 (0), .bool false, .slice none 0 0, .bool false, .int .i64 (0)] := by kernel_rfl
theorem ty_ag73 : aggT Try.prog 73 = some true := by kernel_rfl
theorem ty_sz73 : szT Try.prog 73 = some 7 := by kernel_rfl
theorem ty_int73 : intT Try.prog 73 = none := by kernel_rfl
theorem ty_ifc73 : ifaceT Try.prog 73 = false := by kernel_rfl
theorem ty_bool73 : boolT Try.prog 73 = false := by kernel_rfl
theorem ty_f73_0 : fieldT Try.prog 73 0 = some (0, 1, false) := by kernel_rfl
theorem ty_f73_1 : fieldT Try.prog 73 1 = some (1, 1, false) := by kernel_rfl
theorem ty_f73_2 : fieldT Try.prog 73 2 = some (2, 1, false) := by kernel_rfl
theorem ty_f73_3 : fieldT Try.prog 73 3 = some (3, 1, false) := by kernel_rfl
theorem ty_f73_4 : fieldT Try.prog 73 4 = some (4, 1, false) := by kernel_rfl
theorem ty_f73_5 : fieldT Try.prog 73 5 = some (5, 1, false) := by kernel_rfl
theorem ty_f73_6 : fieldT Try.prog 73 6 = some (6, 1, false) := by kernel_rfl
theorem ty_pl73 : placeT Try.prog 73 = some (fun i => #[(0, 1), (1, 1), (2, 1), (3, 1), (4, 1), (5, 1), (6, 1)][i]?) := by kernel_rfl
theorem ty_z73 : zeroT Try.prog 73 = some [.bool false, .int .u8 (0), .int .i64 (0), .bool false, .slice none 0 0, .bool false, .int .i64 (0)] := by kernel_rfl
theorem ty_ag74 : aggT Try.prog 74 = some false := by kernel_rfl
theorem ty_sz74 : szT Try.prog 74 = some 1 := by kernel_rfl
theorem ty_int74 : intT Try.prog 74 = none := by kernel_rfl
theorem ty_ifc74 : ifaceT Try.prog 74 = false := by kernel_rfl
theorem ty_bool74 : boolT Try.prog 74 = false := by kernel_rfl
theorem ty_z74 : zeroT Try.prog 74 = some [.nilFunc] := by kernel_rfl
theorem ty_ag75 : aggT Try.prog 75 = some true := by kernel_rfl
theorem ty_sz75 : szT Try.prog 75 = some 13 := by kernel_rfl
theorem ty_int75 : intT Try.prog 75 = none := by kernel_rfl
theorem ty_ifc75 : ifaceT Try.prog 75 = false := by kernel_rfl
theorem ty_bool75 : boolT Try.prog 75 = false := by kernel_rfl
theorem ty_f75_0 : fieldT Try.prog 75 0 = some (0, 7, true) := by kernel_rfl
theorem ty_f75_1 : fieldT Try.prog 75 1 = some (7, 1, false) := by kernel_rfl
theorem ty_f75_2 : fieldT Try.prog 75 2 = some (8, 1, false) := by kernel_rfl
theorem ty_f75_3 : fieldT Try.prog 75 3 = some (9, 1, false) := by kernel_rfl
theorem ty_f75_4 : fieldT Try.prog 75 4 = some (10, 1, false) := by kernel_rfl
theorem ty_f75_5 : fieldT Try.prog 75 5 = some (11, 1, false) := by kernel_rfl
theorem ty_f75_6 : fieldT Try.prog 75 6 = some (12, 1, false) := by kernel_rfl
theorem ty_pl75 : placeT Try.prog 75 = some (fun i => #[(0, 7), (7, 1), (8, 1), (9, 1), (10, 1), (11, 1), (12, 1)][i]?) := by kernel_rfl
theorem ty_z75 : zeroT Try.prog 75 = some [.bool false, .int .u8 (0), .int .i64 (0), .bool false, .slice none 0 0, .bool false, .int .i64 (0), .slice none 0 0, .slice none 0 0, .int .i64 (0), .int .i64 (0), .bool false, .int .i64 (0)] := by kernel_rfl
theorem ty_ag76 : aggT Try.prog 76 = some true := by kernel_rfl
theorem ty_sz76 : szT Try.prog 76 = some 13 := by kernel_rfl
theorem ty_int76 : intT Try.prog 76 = none := by kernel_rfl
theorem ty_ifc76 : ifaceT Try.prog 76 = false := by kernel_rfl
theorem ty_bool76 : boolT Try.prog 76 = false := by kernel_rfl
theorem ty_f76_0 : fieldT Try.prog 76 0 = some (0, 7, true) := by kernel_rfl
theorem ty_f76_1 : fieldT Try.prog 76 1 = some (7, 1, false) := by kernel_rfl
theorem ty_f76_2 : fieldT Try.prog 76 2 = some (8, 1, false) := by kernel_rfl
theorem ty_f76_3 : fieldT Try.prog 76 3 = some (9, 1, false) := by kernel_rfl
theorem ty_f76_4 : fieldT Try.prog 76 4 = some (10, 1, false) := by kernel_rfl
theorem ty_f76_5 : fieldT Try.prog 76 5 = some (11, 1, false) := by kernel_rfl
theorem ty_f76_6 : fieldT Try.prog 76 6 = some (12, 1, false) := by kernel_rfl
theorem ty_pl76 : placeT Try.prog 76 = some (fun i => #[(0, 7), (7, 1), (8, 1), (9, 1), (10, 1), (11, 1), (12, 1)][i]?) := by kernel_rfl
theorem ty_z76 : zeroT Try.prog 76 = some [.bool false, .int .u8 (0), .int .i64 (0), .bool false, .slice none 0 0, .bool false, .int .i64 (0), .slice none 0 0, .slice none 0 0, .int .i64 (0), .int .i64 (0), .bool false, .int .i64 (0)] := by kernel_rfl
theorem ty_ag78 : aggT Try.prog 78 = some false := by kernel_rfl
theorem ty_sz78 : szT Try.prog 78 = some 1 := by kernel_rfl
theorem ty_int78 : intT Try.prog 78 = none := by kernel_rfl
theorem ty_ifc78 : ifaceT Try.prog 78 = false := by kernel_rfl
theorem ty_bool78 : boolT Try.prog 78 = false := by kernel_rfl
theorem ty_z78 : zeroT Try.prog 78 = some [.nilFunc] := by kernel_rfl
theorem ty_ag79 : aggT Try.prog 79 = some false := by kernel_rfl
theorem ty_sz79 : szT Try.prog 79 = some 1 := by kernel_rfl
theorem ty_int79 : intT Try.prog 79 = none := by kernel_rfl
theorem ty_ifc79 : ifaceT Try.prog 79 = false := by kernel_rfl
theorem ty_bool79 : boolT Try.prog 79 = false := by kernel_rfl
theorem ty_z79 : zeroT Try.prog 79 = some [.nilFunc] := by kernel_rfl
theorem ty_ag80 : aggT Try.prog 80 = some false := by kernel_rfl
theorem ty_sz80 : szT Try.prog 80 = some 1 := by kernel_rfl
theorem ty_int80 : intT Try.prog 80 = some .u8 := by kernel_rfl
theorem ty_ifc80 : ifaceT Try.prog 80 = false := by kernel_rfl
theorem ty_bool80 : boolT Try.prog 80 = false := by kernel_rfl
theorem ty_z80 : zeroT Try.prog 80 = some [.int .u8 (0)] := by kernel_rfl
theorem ty_ag81 : aggT Try.prog 81 = some true := by kernel_rfl
theorem ty_sz81 : szT Try.prog 81 = some 2 := by kernel_rfl
theorem ty_int81 : intT Try.prog 81 = none := by kernel_rfl
theorem ty_ifc81 : ifaceT Try.prog 81 = false := by kernel_rfl
theorem ty_bool81 : boolT Try.prog 81 = false := by kernel_rfl
theorem ty_f81_0 : fieldT Try.prog 81 0 = some (0, 1, false) := by kernel_rfl
theorem ty_f81_1 : fieldT Try.prog 81 1 = some (1, 1, false) := by kernel_rfl
theorem ty_pl81 : placeT Try.prog 81 = some (fun i => #[(0, 1), (1, 1)][i]?) := by kernel_rfl
theorem ty_z81 : zeroT Try.prog 81 = some [.int .u8 (0), .slice none 0 0] := by kernel_rfl
theorem ty_ag82 : aggT Try.prog 82 = some true := by kernel_rfl
theorem ty_sz82 : szT Try.prog 82 = some 2 := by kernel_rfl
theorem ty_int82 : intT Try.prog 82 = none := by kernel_rfl
theorem ty_ifc82 : ifaceT Try.prog 82 = false := by kernel_rfl
theorem ty_bool82 : boolT Try.prog 82 = false := by kernel_rfl
theorem ty_f82_0 : fieldT Try.prog 82 0 = some (0, 1, false) := by kernel_rfl
theorem ty_f82_1 : fieldT Try.prog 82 1 = some (1, 1, false) := by kernel_rfl
theorem ty_pl82 : placeT Try.prog 82 = some (fun i => #[(0, 1), (1, 1)][i]?) := by kernel_rfl
theorem ty_z82 : zeroT Try.prog 82 = some [.int .u8 (0), .slice none 0 0] := by kernel_rfl
theorem ty_ag83 : aggT Try.prog 83 = some false := by kernel_rfl
theorem ty_sz83 : szT Try.prog 83 = some 1 := by kernel_rfl
theorem ty_int83 : intT Try.prog 83 = none := by kernel_rfl
theorem ty_ifc83 : ifaceT Try.prog 83 = false := by kernel_rfl
theorem ty_bool83 : boolT Try.prog 83 = false := by kernel_rfl
theorem ty_z83 : zeroT Try.prog 83 = some [.nilFunc] := by kernel_rfl
theorem ty_ag84 : aggT Try.prog 84 = some false := by kernel_rfl
theorem ty_sz84 : szT Try.prog 84 = some 1 := by kernel_rfl
theorem ty_int84 : intT Try.prog 84 = some .u8 := by kernel_rfl
theorem ty_ifc84 : ifaceT Try.prog 84 = false := by kernel_rfl
theorem ty_bool84 : boolT Try.prog 84 = false := by kernel_rfl
theorem ty_z84 : zeroT Try.prog 84 = some [.int .u8 (0)] := by kernel_rfl
theorem ty_ag85 : aggT Try.prog 85 = some true := by kernel_rfl
theorem ty_sz85 : szT Try.prog 85 = some 7 := by kernel_rfl
theorem ty_int85 : intT Try.prog 85 = none := by kernel_rfl
theorem ty_ifc85 : ifaceT Try.prog 85 = false := by kernel_rfl
theorem ty_bool85 : boolT Try.prog 85 = false := by kernel_rfl
theorem ty_f85_0 : fieldT Try.prog 85 0 = some (0, 1, false) := by kernel_rfl
theorem ty_f85_1 : fieldT Try.prog 85 1 = some (1, 1, false) := by kernel_rfl
theorem ty_f85_2 : fieldT Try.prog 85 2 = some (2, 1, false) := by kernel_rfl
theorem ty_f85_3 : fieldT Try.prog 85 3 = some (3, 1, false) := by kernel_rfl
theorem ty_f85_4 : fieldT Try.prog 85 4 = some (4, 1, false) := by kernel_rfl
theorem ty_f85_5 : fieldT Try.prog 85 5 = some (5, 1, false) := by kernel_rfl
theorem ty_f85_6 : fieldT Try.prog 85 6 = some (6, 1, false) := by kernel_rfl
theorem ty_pl85 : placeT Try.prog 85 = some (fun i => #[(0, 1), (1, 1), (2, 1), (3, 1), (4, 1), (5, 1), (6, 1)][i]?) := by kernel_rfl
theorem ty_z85 : zeroT Try.prog 85 = some [.int .u8 (0), .int .u8 (0), .int .u8 (0), .bool false, .bool false, .int .i64 (0), .slice none 0 0] := by kernel_rfl
theorem ty_ag86 : aggT Try.prog 86 = some true := by kernel_rfl
theorem ty_sz86 : szT Try.prog 86 = some 7 := by kernel_rfl
theorem ty_int86 : intT Try.prog 86 = none := by kernel_rfl
theorem ty_ifc86 : ifaceT Try.prog 86 = false := by kernel_rfl
theorem ty_bool86 : boolT Try.prog 86 = false := by kernel_rfl
theorem ty_f86_0 : fieldT Try.prog 86 0 = some (0, 1, false) := by kernel_rfl
theorem ty_f86_1 : fieldT Try.prog 86 1 = some (1, 1, false) := by kernel_rfl
theorem ty_f86_2 : fieldT Try.prog 86 2 = some (2, 1, false) := by kernel_rfl
theorem ty_f86_3 : fieldT Try.prog 86 3 = some (3, 1, false) := by kernel_rfl
theorem ty_f86_4 : fieldT Try.prog 86 4 = some (4, 1, false) := by kernel_rfl
theorem ty_f86_5 : fieldT Try.prog 86 5 = some (5, 1, false) := by kernel_rfl
theorem ty_f86_6 : fieldT Try.prog 86 6 = some (6, 1, false) := by kernel_rfl
theorem ty_pl86 : placeT Try.prog 86 = some (fun i => #[(0, 1), (1, 1), (2, 1), (3, 1), (4, 1), (5, 1), (6, 1)][i]?) := by kernel_rfl
theorem ty_z86 : zeroT Try.prog 86 = some [.int .u8 (0), .int .u8 (0), .int .u8 (0), .bool false, .bool false, .int .i64 (0), .slice none 0 0] := by kernel_rfl
theorem ty_ag88 : aggT Try.prog 88 = some false := by kernel_rfl
theorem ty_sz88 : szT Try.prog 88 = some 1 := by kernel_rfl
theorem ty_int88 : intT Try.prog 88 = none := by kernel_rfl
theorem ty_ifc88 : ifaceT Try.prog 88 = false := by kernel_rfl
theorem ty_bool88 : boolT Try.prog 88 = false := by kernel_rfl
theorem ty_z88 : zeroT Try.prog 88 = some [.nilFunc] := by kernel_rfl
theorem ty_ag89 : aggT Try.prog 89 = some true := by kernel_rfl
theorem ty_sz89 : szT Try.prog 89 = some 3 := by kernel_rfl
theorem ty_int89 : intT Try.prog 89 = none := by kernel_rfl
theorem ty_ifc89 : ifaceT Try.prog 89 = false := by kernel_rfl
theorem ty_bool89 : boolT Try.prog 89 = false := by kernel_rfl
theorem ty_f89_0 : fieldT Try.prog 89 0 = some (0, 1, false) := by kernel_rfl
theorem ty_f89_1 : fieldT Try.prog 89 1 = some (1, 1, false) := by kernel_rfl
theorem ty_f89_2 : fieldT Try.prog 89 2 = some (2, 1, false) := by kernel_rfl
theorem ty_pl89 : placeT Try.prog 89 = some (fun i => #[(0, 1), (1, 1), (2, 1)][i]?) := by kernel_rfl
theorem ty_z89 : zeroT Try.prog 89 = some [.int .i64 (0), .slice none 0 0, .int .i64 (0)] := by kernel_rfl
theorem ty_ag90 : aggT Try.prog 90 = some true := by kernel_rfl
theorem ty_sz90 : szT Try.prog 90 = some 3 := by kernel_rfl
theorem ty_int90 : intT Try.prog 90 = none := by kernel_rfl
theorem ty_ifc90 : ifaceT Try.prog 90 = false := by kernel_rfl
theorem ty_bool90 : boolT Try.prog 90 = false := by kernel_rfl
theorem ty_f90_0 : fieldT Try.prog 90 0 = some (0, 1, false) := by kernel_rfl
theorem ty_f90_1 : fieldT Try.prog 90 1 = some (1, 1, false) := by kernel_rfl
theorem ty_f90_2 : fieldT Try.prog 90 2 = some (2, 1, false) := by kernel_rfl
theorem ty_pl90 : placeT Try.prog 90 = some (fun i => #[(0, 1), (1, 1), (2, 1)][i]?) := by kernel_rfl
theorem ty_z90 : zeroT Try.prog 90 = some [.int .i64 (0), .slice none 0 0, .int .i64 (0)] := by kernel_rfl
theorem ty_ag92 : aggT Try.prog 92 = some false := by kernel_rfl
theorem ty_sz92 : szT Try.prog 92 = some 1 := by kernel_rfl
theorem ty_int92 : intT Try.prog 92 = none := by kernel_rfl
theorem ty_ifc92 : ifaceT Try.prog 92 = false := by kernel_rfl
theorem ty_bool92 : boolT Try.prog 92 = false := by kernel_rfl
theorem ty_z92 : zeroT Try.prog 92 = some [.nilFunc] := by kernel_rfl
theorem ty_ag93 : aggT Try.prog 93 = some false := by kernel_rfl
theorem ty_sz93 : szT Try.prog 93 = some 1 := by kernel_rfl
theorem ty_int93 : intT Try.prog 93 = none := by kernel_rfl
theorem ty_ifc93 : ifaceT Try.prog 93 = false := by kernel_rfl
theorem ty_bool93 : boolT Try.prog 93 = false := by kernel_rfl
theorem ty_z93 : zeroT Try.prog 93 = some [.nilFunc] := by kernel_rfl
theorem ty_ag94 : aggT Try.prog 94 = some false := by kernel_rfl
theorem ty_sz94 : szT Try.prog 94 = some 1 := by kernel_rfl
theorem ty_int94 : intT Try.prog 94 = none := by kernel_rfl
theorem ty_ifc94 : ifaceT Try.prog 94 = false := by kernel_rfl
theorem ty_bool94 : boolT Try.prog 94 = false := by kernel_rfl
theorem ty_z94 : zeroT Try.prog 94 = some [.nilFunc] := by kernel_rfl
theorem ty_ag95 : aggT Try.prog 95 = some false := by kernel_rfl
theorem ty_sz95 : szT Try.prog 95 = some 1 := by kernel_rfl
theorem ty_int95 : intT Try.prog 95 = none := by kernel_rfl
theorem ty_ifc95 : ifaceT Try.prog 95 = false := by kernel_rfl
theorem ty_bool95 : boolT Try.prog 95 = false := by kernel_rfl
theorem ty_z95 : zeroT Try.prog 95 = some [.nilFunc] := by kernel_rfl
theorem ty_ag96 : aggT Try.prog 96 = some true := by kernel_rfl
theorem ty_sz96 : szT Try.prog 96 = some 2 := by kernel_rfl
theorem ty_int96 : intT Try.prog 96 = none := by kernel_rfl
theorem ty_ifc96 : ifaceT Try.prog 96 = false := by kernel_rfl
theorem ty_bool96 : boolT Try.prog 96 = false := by kernel_rfl
theorem ty_f96_0 : fieldT Try.prog 96 0 = some (0, 1, false) := by kernel_rfl
theorem ty_f96_1 : fieldT Try.prog 96 1 = some (1, 1, false) := by kernel_rfl
theorem ty_pl96 : placeT Try.prog 96 = some (fun i => #[(0, 1), (1, 1)][i]?) := by kernel_rfl
theorem ty_z96 : zeroT Try.prog 96 = some [.bool false, .slice none 0 0] := by kernel_rfl
theorem ty_ag97 : aggT Try.prog 97 = some true := by kernel_rfl
theorem ty_sz97 : szT Try.prog 97 = some 2 := by kernel_rfl
theorem ty_int97 : intT Try.prog 97 = none := by kernel_rfl
theorem ty_ifc97 : ifaceT Try.prog 97 = false := by kernel_rfl
theorem ty_bool97 : boolT Try.prog 97 = false := by kernel_rfl
theorem ty_f97_0 : fieldT Try.prog 97 0 = some (0, 1, false) := by kernel_rfl
theorem ty_f97_1 : fieldT Try.prog 97 1 = some (1, 1, false) := by kernel_rfl
theorem ty_pl97 : placeT Try.prog 97 = some (fun i => #[(0, 1), (1, 1)][i]?) := by kernel_rfl
theorem ty_z97 : zeroT Try.prog 97 = some [.bool false, .slice none 0 0] := by kernel_rfl
theorem ty_ag98 : aggT Try.prog 98 = some true := by kernel_rfl
theorem ty_sz98 : szT Try.prog 98 = some 2 := by kernel_rfl
theorem ty_int98 : intT Try.prog 98 = none := by kernel_rfl
theorem ty_ifc98 : ifaceT Try.prog 98 = false := by kernel_rfl
theorem ty_bool98 : boolT Try.prog 98 = false := by kernel_rfl
theorem ty_f98_0 : fieldT Try.prog 98 0 = some (0, 1, false) := by kernel_rfl
theorem ty_f98_1 : fieldT Try.prog 98 1 = some (1, 1, false) := by kernel_rfl
theorem ty_pl98 : placeT Try.prog 98 = some (fun i => #[(0, 1), (1, 1)][i]?) := by kernel_rfl
theorem ty_z98 : zeroT Try.prog 98 = some [.bool false, .slice none 0 0] := by kernel_rfl
theorem ty_ag99 : aggT Try.prog 99 = some true := by kernel_rfl
theorem ty_sz99 : szT Try.prog 99 = some 2 := by kernel_rfl
theorem ty_int99 : intT Try.prog 99 = none := by kernel_rfl
theorem ty_ifc99 : ifaceT Try.prog 99 = false := by kernel_rfl
theorem ty_bool99 : boolT Try.prog 99 = false := by kernel_rfl
theorem ty_f99_0 : fieldT Try.prog 99 0 = some (0, 1, false) := by kernel_rfl
theorem ty_f99_1 : fieldT Try.prog 99 1 = some (1, 1, false) := by kernel_rfl
theorem ty_pl99 : placeT Try.prog 99 = some (fun i => #[(0, 1), (1, 1)][i]?) := by kernel_rfl
theorem ty_z99 : zeroT Try.prog 99 = some [.bool false, .slice none 0 0] := by kernel_rfl
theorem ty_ag100 : aggT Try.prog 100 = some false := by kernel_rfl
theorem ty_sz100 : szT Try.prog 100 = some 1 := by kernel_rfl
theorem ty_int100 : intT Try.prog 100 = none := by kernel_rfl
theorem ty_ifc100 : ifaceT Try.prog 100 = false := by kernel_rfl
theorem ty_bool100 : boolT Try.prog 100 = false := by kernel_rfl
theorem ty_z100 : zeroT Try.prog 100 = some [.nilFunc] := by kernel_rfl
theorem ty_ag101 : aggT Try.prog 101 = some true := by kernel_rfl
theorem ty_sz101 : szT Try.prog 101 = some 4 := by kernel_rfl
theorem ty_int101 : intT Try.prog 101 = none := by kernel_rfl
theorem ty_ifc101 : ifaceT Try.prog 101 = false := by kernel_rfl
theorem ty_bool101 : boolT Try.prog 101 = false := by kernel_rfl
theorem ty_f101_0 : fieldT Try.prog 101 0 = some (0, 1, false) := by kernel_rfl
theorem ty_f101_1 : fieldT Try.prog 101 1 = some (1, 1, false) := by kernel_rfl
theorem ty_f101_2 : fieldT Try.prog 101 2 = some (2, 1, false) := by kernel_rfl
theorem ty_f101_3 : fieldT Try.prog 101 3 = some (3, 1, false) := by kernel_rfl
theorem ty_pl101 : placeT Try.prog 101 = some (fun i => #[(0, 1), (1, 1), (2, 1), (3, 1)][i]?) := by kernel_rfl
theorem ty_z101 : zeroT Try.prog 101 = some [.int .i64 (0), .slice none 0 0, .bool false, .bool false] := by kernel_rfl
theorem ty_ag102 : aggT Try.prog 102 = some true := by kernel_rfl
theorem ty_sz102 : szT Try.prog 102 = some 4 := by kernel_rfl
theorem ty_int102 : intT Try.prog 102 = none := by kernel_rfl
theorem ty_ifc102 : ifaceT Try.prog 102 = false := by kernel_rfl
theorem ty_bool102 : boolT Try.prog 102 = false := by kernel_rfl
theorem ty_f102_0 : fieldT Try.prog 102 0 = some (0, 1, false) := by kernel_rfl
theorem ty_f102_1 : fieldT Try.prog 102 1 = some (1, 1, false) := by kernel_rfl
theorem ty_f102_2 : fieldT Try.prog 102 2 = some (2, 1, false) := by kernel_rfl
theorem ty_f102_3 : fieldT Try.prog 102 3 = some (3, 1, false) := by kernel_rfl
theorem ty_pl102 : placeT Try.prog 102 = some (fun i => #[(0, 1), (1, 1), (2, 1), (3, 1)][i]?) := by kernel_rfl
theorem ty_z102 : zeroT Try.prog 102 = some [.int .i64 (0), .slice none 0 0, .bool false, .bool false] := by kernel_rfl
theorem ty_ag103 : aggT Try.prog 103 = some false := by kernel_rfl
theorem ty_sz103 : szT Try.prog 103 = some 1 := by kernel_rfl
theorem ty_int103 : intT Try.prog 103 = none := by kernel_rfl
theorem ty_ifc103 : ifaceT Try.prog 103 = false := by kernel_rfl
theorem ty_bool103 : boolT Try.prog 103 = false := by kernel_rfl
theorem ty_z103 : zeroT Try.prog 103 = some [.nilFunc] := by kernel_rfl
theorem ty_ag104 : aggT Try.prog 104 = some false := by kernel_rfl
theorem ty_sz104 : szT Try.prog 104 = some 1 := by kernel_rfl
theorem ty_int104 : intT Try.prog 104 = none := by kernel_rfl
theorem ty_ifc104 : ifaceT Try.prog 104 = false := by kernel_rfl
theorem ty_bool104 : boolT Try.prog 104 = false := by kernel_rfl
theorem ty_z104 : zeroT Try.prog 104 = some [.nilFunc] := by kernel_rfl
theorem ty_ag105 : aggT Try.prog 105 = some false := by kernel_rfl
theorem ty_sz105 : szT Try.prog 105 = some 1 := by kernel_rfl
theorem ty_int105 : intT Try.prog 105 = none := by kernel_rfl
theorem ty_ifc105 : ifaceT Try.prog 105 = false := by kernel_rfl
theorem ty_bool105 : boolT Try.prog 105 = false := by kernel_rfl
theorem ty_z105 : zeroT Try.prog 105 = some [.nilFunc] := by kernel_rfl
theorem ty_ag107 : aggT Try.prog 107 = some false := by kernel_rfl
theorem ty_sz107 : szT Try.prog 107 = some 1 := by kernel_rfl
theorem ty_int107 : intT Try.prog 107 = none := by kernel_rfl
theorem ty_ifc107 : ifaceT Try.prog 107 = false := by kernel_rfl
theorem ty_bool107 : boolT Try.prog 107 = false := by kernel_rfl
theorem ty_z107 : zeroT Try.prog 107 = some [.nilFunc] := by kernel_rfl
theorem ty_ag108 : aggT Try.prog 108 = some false := by kernel_rfl
theorem ty_sz108 : szT Try.prog 108 = some 1 := by kernel_rfl
theorem ty_int108 : intT Try.prog 108 = none := by kernel_rfl
theorem ty_ifc108 : ifaceT Try.prog 108 = false := by kernel_rfl
theorem ty_bool108 : boolT Try.prog 108 = false := by kernel_rfl
theorem ty_elem108 : elemT Try.prog 108 = some (150, 2, true) := by kernel_rfl
theorem ty_app108 : appT Try.prog 108 = some (150, 2, 2) := by kernel_rfl
theorem ty_z108 : zeroT Try.prog 108 = some [.slice none 0 0] := by kernel_rfl
theorem ty_ag109 : aggT Try.prog 109 = some false := by kernel_rfl
theorem ty_sz109 : szT Try.prog 109 = some 1 := by kernel_rfl
theorem ty_int109 : intT Try.prog 109 = none := by kernel_rfl
theorem ty_ifc109 : ifaceT Try.prog 109 = false := by kernel_rfl
theorem ty_bool109 : boolT Try.prog 109 = false := by kernel_rfl
theorem ty_z109 : zeroT Try.prog 109 = some [.nilFunc] := by kernel_rfl
theorem ty_ag110 : aggT Try.prog 110 = some false := by kernel_rfl
theorem ty_sz110 : szT Try.prog 110 = some 1 := by kernel_rfl
theorem ty_int110 : intT Try.prog 110 = none := by kernel_rfl
theorem ty_ifc110 : ifaceT Try.prog 110 = false := by kernel_rfl
theorem ty_bool110 : boolT Try.prog 110 = false := by kernel_rfl
theorem ty_z110 : zeroT Try.prog 110 = some [.nilFunc] := by kernel_rfl
theorem ty_ag112 : aggT Try.prog 112 = some false := by kernel_rfl
theorem ty_sz112 : szT Try.prog 112 = some 1 := by kernel_rfl
theorem ty_int112 : intT Try.prog 112 = none := by kernel_rfl
theorem ty_ifc112 : ifaceT Try.prog 112 = false := by kernel_rfl
theorem ty_bool112 : boolT Try.prog 112 = false := by kernel_rfl
theorem ty_z112 : zeroT Try.prog 112 = some [.nilFunc] := by kernel_rfl
theorem ty_ag114 : aggT Try.prog 114 = some false := by kernel_rfl
theorem ty_sz114 : szT Try.prog 114 = some 1 := by kernel_rfl
theorem ty_int114 : intT Try.prog 114 = none := by kernel_rfl
theorem ty_ifc114 : ifaceT Try.prog 114 = false := by kernel_rfl
theorem ty_bool114 : boolT Try.prog 114 = false := by kernel_rfl
theorem ty_z114 : zeroT Try.prog 114 = some [.nilFunc] := by kernel_rfl
theorem ty_ag116 : aggT Try.prog 116 = some false := by kernel_rfl
theorem ty_sz116 : szT Try.prog 116 = some 1 := by kernel_rfl
theorem ty_int116 : intT Try.prog 116 = none := by kernel_rfl
theorem ty_ifc116 : ifaceT Try.prog 116 = false := by kernel_rfl
theorem ty_bool116 : boolT Try.prog 116 = false := by kernel_rfl
theorem ty_z116 : zeroT Try.prog 116 = some [.nilFunc] := by kernel_rfl
theorem ty_ag117 : aggT Try.prog 117 = some false := by kernel_rfl
theorem ty_sz117 : szT Try.prog 117 = some 1 := by kernel_rfl
theorem ty_int117 : intT Try.prog 117 = none := by kernel_rfl
theorem ty_ifc117 : ifaceT Try.prog 117 = false := by kernel_rfl
theorem ty_bool117 : boolT Try.prog 117 = false := by kernel_rfl
theorem ty_z117 : zeroT Try.prog 117 = some [.nilFunc] := by kernel_rfl
theorem ty_ag118 : aggT Try.prog 118 = some false := by kernel_rfl
theorem ty_sz118 : szT Try.prog 118 = some 1 := by kernel_rfl
theorem ty_int118 : intT Try.prog 118 = none := by kernel_rfl
theorem ty_ifc118 : ifaceT Try.prog 118 = false := by kernel_rfl
theorem ty_bool118 : boolT Try.prog 118 = false := by kernel_rfl
theorem ty_z118 : zeroT Try.prog 118 = some [.nilFunc] := by kernel_rfl
theorem ty_ag120 : aggT Try.prog 120 = some false := by kernel_rfl
theorem ty_sz120 : szT Try.prog 120 = some 1 := by kernel_rfl
theorem ty_int120 : intT Try.prog 120 = none := by kernel_rfl
theorem ty_ifc120 : ifaceT Try.prog 120 = false := by kernel_rfl
theorem ty_bool120 : boolT Try.prog 120 = false := by kernel_rfl
theorem ty_z120 : zeroT Try.prog 120 = some [.nilFunc] := by kernel_rfl
theorem ty_ag122 : aggT Try.prog 122 = some false := by kernel_rfl
theorem ty_sz122 : szT Try.prog 122 = some 1 := by kernel_rfl
theorem ty_int122 : intT Try.prog 122 = none := by kernel_rfl
theorem ty_ifc122 : ifaceT Try.prog 122 = false := by kernel_rfl
theorem ty_bool122 : boolT Try.prog 122 = false := by kernel_rfl
theorem ty_z122 : zeroT Try.prog 122 = some [.nilFunc] := by kernel_rfl
theorem ty_ag123 : aggT Try.prog 123 = some false := by kernel_rfl
theorem ty_sz123 : szT Try.prog 123 = some 1 := by kernel_rfl
theorem ty_int123 : intT Try.prog 123 = none := by kernel_rfl
theorem ty_ifc123 : ifaceT Try.prog 123 = false := by kernel_rfl
theorem ty_bool123 : boolT Try.prog 123 = false := by kernel_rfl
theorem ty_z123 : zeroT Try.prog 123 = some [.nilFunc] := by kernel_rfl
theorem ty_ag124 : aggT Try.prog 124 = some true := by kernel_rfl
theorem ty_sz124 : szT Try.prog 124 = some 2 := by kernel_rfl
theorem ty_int124 : intT Try.prog 124 = none := by kernel_rfl
theorem ty_eq124 : eqT Try.prog 124 = some [true, true] := by kernel_rfl
theorem ty_ifc124 : ifaceT Try.prog 124 = false := by kernel_rfl
theorem ty_bool124 : boolT Try.prog 124 = false := by kernel_rfl
theorem ty_f124_0 : fieldT Try.prog 124 0 = some (0, 1, false) := by kernel_rfl
theorem ty_f124_1 : fieldT Try.prog 124 1 = some (1, 1, false) := by kernel_rfl
theorem ty_pl124 : placeT Try.prog 124 = some (fun i => #[(0, 1), (1, 1)][i]?) := by kernel_rfl
theorem ty_z124 : zeroT Try.prog 124 = some [.int .i64 (0), .int .i64 (0)] := by kernel_rfl
theorem ty_ag125 : aggT Try.prog 125 = some true := by kernel_rfl
theorem ty_sz125 : szT Try.prog 125 = some 2 := by kernel_rfl
theorem ty_int125 : intT Try.prog 125 = none := by kernel_rfl
theorem ty_eq125 : eqT Try.prog 125 = some [true, true] := by kernel_rfl
theorem ty_ifc125 : ifaceT Try.prog 125 = false := by kernel_rfl
theorem ty_m125_0 : methA Try.prog 125 "plugboard/audios.right" = some 77 := by kernel_rfl
theorem ty_k125_0 : nilOk Try.prog 125 "plugboard/audios.right" = true := by kernel_rfl
theorem ty_bool125 : boolT Try.prog 125 = false := by kernel_rfl
theorem ty_f125_0 : fieldT Try.prog 125 0 = some (0, 1, false) := by kernel_rfl
theorem ty_f125_1 : fieldT Try.prog 125 1 = some (1, 1, false) := by kernel_rfl
theorem ty_pl125 : placeT Try.prog 125 = some (fun i => #[(0, 1), (1, 1)][i]?) := by kernel_rfl
theorem ty_z125 : zeroT Try.prog 125 = some [.int .i64 (0), .int .i64 (0)] := by kernel_rfl
theorem ty_ag126 : aggT Try.prog 126 = some false := by kernel_rfl
theorem ty_sz126 : szT Try.prog 126 = some 1 := by kernel_rfl
theorem ty_int126 : intT Try.prog 126 = none := by kernel_rfl
theorem ty_ifc126 : ifaceT Try.prog 126 = false := by kernel_rfl
theorem ty_bool126 : boolT Try.prog 126 = false := by kernel_rfl
theorem ty_z126 : zeroT Try.prog 126 = some [.nilFunc] := by kernel_rfl
theorem ty_ag128 : aggT Try.prog 128 = some false := by kernel_rfl
theorem ty_sz128 : szT Try.prog 128 = some 1 := by kernel_rfl
theorem ty_int128 : intT Try.prog 128 = none := by kernel_rfl
theorem ty_ifc128 : ifaceT Try.prog 128 = false := by kernel_rfl
theorem ty_bool128 : boolT Try.prog 128 = false := by kernel_rfl
theorem ty_z128 : zeroT Try.prog 128 = some [.nilFunc] := by kernel_rfl
theorem ty_ag129 : aggT Try.prog 129 = some false := by kernel_rfl
theorem ty_sz129 : szT Try.prog 129 = some 1 := by kernel_rfl
theorem ty_int129 : intT Try.prog 129 = none := by kernel_rfl
theorem ty_ifc129 : ifaceT Try.prog 129 = false := by kernel_rfl
theorem ty_bool129 : boolT Try.prog 129 = false := by kernel_rfl
theorem ty_z129 : zeroT Try.prog 129 = some [.nilFunc] := by kernel_rfl
theorem ty_ag130 : aggT Try.prog 130 = some false := by kernel_rfl
theorem ty_sz130 : szT Try.prog 130 = some 1 := by kernel_rfl
theorem ty_int130 : intT Try.prog 130 = none := by kernel_rfl
theorem ty_ifc130 : ifaceT Try.prog 130 = false := by kernel_rfl
theorem ty_bool130 : boolT Try.prog 130 = false := by kernel_rfl
theorem ty_z130 : zeroT Try.prog 130 = some [.nilFunc] := by kernel_rfl
theorem ty_ag131 : aggT Try.prog 131 = some false := by kernel_rfl
theorem ty_sz131 : szT Try.prog 131 = some 1 := by kernel_rfl
theorem ty_int131 : intT Try.prog 131 = none := by kernel_rfl
theorem ty_ifc131 : ifaceT Try.prog 131 = false := by kernel_rfl
theorem ty_bool131 : boolT Try.prog 131 = false := by kernel_rfl
theorem ty_z131 : zeroT Try.prog 131 = some [.nilFunc] := by kernel_rfl
theorem ty_ag132 : aggT Try.prog 132 = some true := by kernel_rfl
theorem ty_sz132 : szT Try.prog 132 = some 2 := by kernel_rfl
theorem ty_int132 : intT Try.prog 132 = none := by kernel_rfl
theorem ty_ifc132 : ifaceT Try.prog 132 = false := by kernel_rfl
theorem ty_bool132 : boolT Try.prog 132 = false := by kernel_rfl
theorem ty_arr132 : arrT Try.prog 132 = some (2, 3, 1, false) := by kernel_rfl
theorem ty_pl132 : placeT Try.prog 132 = some (fun i => some (i * 1, 1)) := by kernel_rfl
theorem ty_z132 : zeroT Try.prog 132 = some [.int .i64 (0), .int .i64 (0)] := by kernel_rfl
theorem ty_ag133 : aggT Try.prog 133 = some true := by kernel_rfl
theorem ty_sz133 : szT Try.prog 133 = some 2 := by kernel_rfl
theorem ty_int133 : intT Try.prog 133 = none := by kernel_rfl
theorem ty_ifc133 : ifaceT Try.prog 133 = false := by kernel_rfl
theorem ty_bool133 : boolT Try.prog 133 = false := by kernel_rfl
theorem ty_arr133 : arrT Try.prog 133 = some (2, 4, 1, false) := by kernel_rfl
theorem ty_pl133 : placeT Try.prog 133 = some (fun i => some (i * 1, 1)) := by kernel_rfl
theorem ty_z133 : zeroT Try.prog 133 = some [.bool false, .bool false] := by kernel_rfl
theorem ty_ag134 : aggT Try.prog 134 = some false := by kernel_rfl
theorem ty_sz134 : szT Try.prog 134 = some 1 := by kernel_rfl
theorem ty_int134 : intT Try.prog 134 = some .u64 := by kernel_rfl
theorem ty_ifc134 : ifaceT Try.prog 134 = false := by kernel_rfl
theorem ty_bool134 : boolT Try.prog 134 = false := by kernel_rfl
theorem ty_z134 : zeroT Try.prog 134 = some [.int .u64 (0)] := by kernel_rfl
theorem ty_ag135 : aggT Try.prog 135 = some false := by kernel_rfl
theorem ty_sz135 : szT Try.prog 135 = some 1 := by kernel_rfl
theorem ty_int135 : intT Try.prog 135 = none := by kernel_rfl
theorem ty_ifc135 : ifaceT Try.prog 135 = false := by kernel_rfl
theorem ty_bool135 : boolT Try.prog 135 = false := by kernel_rfl
theorem ty_z135 : zeroT Try.prog 135 = some [.nilFunc] := by kernel_rfl
theorem ty_ag136 : aggT Try.prog 136 = some false := by kernel_rfl
theorem ty_sz136 : szT Try.prog 136 = some 1 := by kernel_rfl
theorem ty_int136 : intT Try.prog 136 = none := by kernel_rfl
theorem ty_ifc136 : ifaceT Try.prog 136 = false := by kernel_rfl
theorem ty_bool136 : boolT Try.prog 136 = false := by kernel_rfl
theorem ty_z136 : zeroT Try.prog 136 = some [.nilFunc] := by kernel_rfl
theorem ty_ag137 : aggT Try.prog 137 = some false := by kernel_rfl
theorem ty_sz137 : szT Try.prog 137 = some 1 := by kernel_rfl
theorem ty_int137 : intT Try.prog 137 = none := by kernel_rfl
theorem ty_ifc137 : ifaceT Try.prog 137 = false := by kernel_rfl
theorem ty_bool137 : boolT Try.prog 137 = false := by kernel_rfl
theorem ty_z137 : zeroT Try.prog 137 = some [.nilFunc] := by kernel_rfl
theorem ty_ag138 : aggT Try.prog 138 = some false := by kernel_rfl
theorem ty_sz138 : szT Try.prog 138 = some 1 := by kernel_rfl
theorem ty_int138 : intT Try.prog 138 = none := by kernel_rfl
theorem ty_ifc138 : ifaceT Try.prog 138 = false := by kernel_rfl
theorem ty_bool138 : boolT Try.prog 138 = false := by kernel_rfl
theorem ty_z138 : zeroT Try.prog 138 = some [.nilFunc] := by kernel_rfl
theorem ty_ag139 : aggT Try.prog 139 = some false := by kernel_rfl
theorem ty_sz139 : szT Try.prog 139 = some 1 := by kernel_rfl
theorem ty_int139 : intT Try.prog 139 = none := by kernel_rfl
theorem ty_ifc139 : ifaceT Try.prog 139 = false := by kernel_rfl
theorem ty_bool139 : boolT Try.prog 139 = false := by kernel_rfl
theorem ty_z139 : zeroT Try.prog 139 = some [.nilFunc] := by kernel_rfl
theorem ty_ag140 : aggT Try.prog 140 = some false := by kernel_rfl
theorem ty_sz140 : szT Try.prog 140 = some 1 := by kernel_rfl
theorem ty_int140 : intT Try.prog 140 = none := by kernel_rfl
theorem ty_ifc140 : ifaceT Try.prog 140 = false := by kernel_rfl
theorem ty_bool140 : boolT Try.prog 140 = false := by kernel_rfl
theorem ty_elem140 : elemT Try.prog 140 = some (82, 2, true) := by kernel_rfl
theorem ty_app140 : appT Try.prog 140 = some (82, 2, 32) := by kernel_rfl
theorem ty_z140 : zeroT Try.prog 140 = some [.slice none 0 0] := by kernel_rfl
theorem ty_ag141 : aggT Try.prog 141 = some false := by kernel_rfl
theorem ty_sz141 : szT Try.prog 141 = some 1 := by kernel_rfl
theorem ty_int141 : intT Try.prog 141 = none := by kernel_rfl
theorem ty_ifc141 : ifaceT Try.prog 141 = false := by kernel_rfl
theorem ty_bool141 : boolT Try.prog 141 = false := by kernel_rfl
theorem ty_z141 : zeroT Try.prog 141 = some [.nilFunc] := by kernel_rfl
theorem ty_ag142 : aggT Try.prog 142 = some false := by kernel_rfl
theorem ty_sz142 : szT Try.prog 142 = some 1 := by kernel_rfl
theorem ty_int142 : intT Try.prog 142 = none := by kernel_rfl
theorem ty_ifc142 : ifaceT Try.prog 142 = false := by kernel_rfl
theorem ty_bool142 : boolT Try.prog 142 = false := by kernel_rfl
theorem ty_z142 : zeroT Try.prog 142 = some [.nilFunc] := by kernel_rfl
theorem ty_ag143 : aggT Try.prog 143 = some true := by kernel_rfl
theorem ty_sz143 : szT Try.prog 143 = some 1 := by kernel_rfl
theorem ty_int143 : intT Try.prog 143 = none := by kernel_rfl
theorem ty_ifc143 : ifaceT Try.prog 143 = false := by kernel_rfl
theorem ty_bool143 : boolT Try.prog 143 = false := by kernel_rfl
theorem ty_f143_0 : fieldT Try.prog 143 0 = some (0, 1, false) := by kernel_rfl
theorem ty_pl143 : placeT Try.prog 143 = some (fun i => #[(0, 1)][i]?) := by kernel_rfl
theorem ty_z143 : zeroT Try.prog 143 = some [.nilFunc] := by kernel_rfl
theorem ty_ag144 : aggT Try.prog 144 = some true := by kernel_rfl
theorem ty_sz144 : szT Try.prog 144 = some 1 := by kernel_rfl
theorem ty_int144 : intT Try.prog 144 = none := by kernel_rfl
theorem ty_ifc144 : ifaceT Try.prog 144 = false := by kernel_rfl
theorem ty_bool144 : boolT Try.prog 144 = false := by kernel_rfl
theorem ty_f144_0 : fieldT Try.prog 144 0 = some (0, 1, false) := by kernel_rfl
theorem ty_pl144 : placeT Try.prog 144 = some (fun i => #[(0, 1)][i]?) := by kernel_rfl
theorem ty_z144 : zeroT Try.prog 144 = some [.nilFunc] := by kernel_rfl
theorem ty_ag145 : aggT Try.prog 145 = some false := by kernel_rfl
theorem ty_sz145 : szT Try.prog 145 = some 1 := by kernel_rfl
theorem ty_int145 : intT Try.prog 145 = none := by kernel_rfl
theorem ty_ifc145 : ifaceT Try.prog 145 = false := by kernel_rfl
theorem ty_m145_0 : methA Try.prog 145 "plugboard/bulks.end" = some 65 := by kernel_rfl
theorem ty_k145_0 : nilOk Try.prog 145 "plugboard/bulks.end" = true := by kernel_rfl
theorem ty_m145_1 : methA Try.prog 145 "plugboard/bulks.idle" = some 64 := by kernel_rfl
theorem ty_k145_1 : nilOk Try.prog 145 "plugboard/bulks.idle" = true := by kernel_rfl
theorem ty_bool145 : boolT Try.prog 145 = false := by kernel_rfl
theorem ty_z145 : zeroT Try.prog 145 = some [.pointer none] := by kernel_rfl
theorem ty_ag146 : aggT Try.prog 146 = some false := by kernel_rfl
theorem ty_sz146 : szT Try.prog 146 = some 1 := by kernel_rfl
theorem ty_int146 : intT Try.prog 146 = none := by kernel_rfl
theorem ty_ifc146 : ifaceT Try.prog 146 = false := by kernel_rfl
theorem ty_m146_0 : methA Try.prog 146 "plugboard/toggles.acknowledged" = some 70 := by kernel_rfl
theorem ty_k146_0 : nilOk Try.prog 146 "plugboard/toggles.acknowledged" = true := by kernel_rfl
theorem ty_m146_1 : methA Try.prog 146 "plugboard/toggles.copied" = some 71 := by kernel_rfl
theorem ty_k146_1 : nilOk Try.prog 146 "plugboard/toggles.copied" = true := by kernel_rfl
theorem ty_m146_2 : methA Try.prog 146 "plugboard/toggles.hear" = some 69 := by kernel_rfl
theorem ty_k146_2 : nilOk Try.prog 146 "plugboard/toggles.hear" = true := by kernel_rfl
theorem ty_bool146 : boolT Try.prog 146 = false := by kernel_rfl
theorem ty_z146 : zeroT Try.prog 146 = some [.pointer none] := by kernel_rfl
theorem ty_ag147 : aggT Try.prog 147 = some false := by kernel_rfl
theorem ty_sz147 : szT Try.prog 147 = some 1 := by kernel_rfl
theorem ty_int147 : intT Try.prog 147 = none := by kernel_rfl
theorem ty_ifc147 : ifaceT Try.prog 147 = false := by kernel_rfl
theorem ty_bool147 : boolT Try.prog 147 = false := by kernel_rfl
theorem ty_z147 : zeroT Try.prog 147 = some [.nilFunc] := by kernel_rfl
theorem ty_ag148 : aggT Try.prog 148 = some false := by kernel_rfl
theorem ty_sz148 : szT Try.prog 148 = some 1 := by kernel_rfl
theorem ty_int148 : intT Try.prog 148 = none := by kernel_rfl
theorem ty_ifc148 : ifaceT Try.prog 148 = false := by kernel_rfl
theorem ty_bool148 : boolT Try.prog 148 = false := by kernel_rfl
theorem ty_z148 : zeroT Try.prog 148 = some [.nilFunc] := by kernel_rfl
theorem ty_ag149 : aggT Try.prog 149 = some true := by kernel_rfl
theorem ty_sz149 : szT Try.prog 149 = some 2 := by kernel_rfl
theorem ty_int149 : intT Try.prog 149 = none := by kernel_rfl
theorem ty_eq149 : eqT Try.prog 149 = some [false, false] := by kernel_rfl
theorem ty_ifc149 : ifaceT Try.prog 149 = false := by kernel_rfl
theorem ty_bool149 : boolT Try.prog 149 = false := by kernel_rfl
theorem ty_f149_0 : fieldT Try.prog 149 0 = some (0, 1, false) := by kernel_rfl
theorem ty_f149_1 : fieldT Try.prog 149 1 = some (1, 1, false) := by kernel_rfl
theorem ty_pl149 : placeT Try.prog 149 = some (fun i => #[(0, 1), (1, 1)][i]?) := by kernel_rfl
theorem ty_z149 : zeroT Try.prog 149 = some [.bool false, .bool false] := by kernel_rfl
theorem ty_ag150 : aggT Try.prog 150 = some true := by kernel_rfl
theorem ty_sz150 : szT Try.prog 150 = some 2 := by kernel_rfl
theorem ty_int150 : intT Try.prog 150 = none := by kernel_rfl
theorem ty_eq150 : eqT Try.prog 150 = some [false, false] := by kernel_rfl
theorem ty_ifc150 : ifaceT Try.prog 150 = false := by kernel_rfl
theorem ty_bool150 : boolT Try.prog 150 = false := by kernel_rfl
theorem ty_f150_0 : fieldT Try.prog 150 0 = some (0, 1, false) := by kernel_rfl
theorem ty_f150_1 : fieldT Try.prog 150 1 = some (1, 1, false) := by kernel_rfl
theorem ty_pl150 : placeT Try.prog 150 = some (fun i => #[(0, 1), (1, 1)][i]?) := by kernel_rfl
theorem ty_z150 : zeroT Try.prog 150 = some [.bool false, .bool false] := by kernel_rfl
theorem ty_ag151 : aggT Try.prog 151 = some true := by kernel_rfl
theorem ty_sz151 : szT Try.prog 151 = some 4 := by kernel_rfl
theorem ty_int151 : intT Try.prog 151 = none := by kernel_rfl
theorem ty_ifc151 : ifaceT Try.prog 151 = false := by kernel_rfl
theorem ty_bool151 : boolT Try.prog 151 = false := by kernel_rfl
theorem ty_f151_0 : fieldT Try.prog 151 0 = some (0, 2, true) := by kernel_rfl
theorem ty_f151_1 : fieldT Try.prog 151 1 = some (2, 2, true) := by kernel_rfl
theorem ty_pl151 : placeT Try.prog 151 = some (fun i => #[(0, 2), (2, 2)][i]?) := by kernel_rfl
theorem ty_z151 : zeroT Try.prog 151 = some [.bool false, .slice none 0 0, .bool false, .slice none 0 0] := by kernel_rfl
theorem ty_ag152 : aggT Try.prog 152 = some true := by kernel_rfl
theorem ty_sz152 : szT Try.prog 152 = some 4 := by kernel_rfl
theorem ty_int152 : intT Try.prog 152 = none := by kernel_rfl
theorem ty_ifc152 : ifaceT Try.prog 152 = false := by kernel_rfl
theorem ty_bool152 : boolT Try.prog 152 = false := by kernel_rfl
theorem ty_f152_0 : fieldT Try.prog 152 0 = some (0, 2, true) := by kernel_rfl
theorem ty_f152_1 : fieldT Try.prog 152 1 = some (2, 2, true) := by kernel_rfl
theorem ty_pl152 : placeT Try.prog 152 = some (fun i => #[(0, 2), (2, 2)][i]?) := by kernel_rfl
theorem ty_z152 : zeroT Try.prog 152 = some [.bool false, .slice none 0 0, .bool false, .slice none 0 0] := by kernel_rfl
theorem ty_ag153 : aggT Try.prog 153 = some false := by kernel_rfl
theorem ty_sz153 : szT Try.prog 153 = some 1 := by kernel_rfl
theorem ty_int153 : intT Try.prog 153 = none := by kernel_rfl
theorem ty_ifc153 : ifaceT Try.prog 153 = false := by kernel_rfl
theorem ty_bool153 : boolT Try.prog 153 = false := by kernel_rfl
theorem ty_z153 : zeroT Try.prog 153 = some [.nilFunc] := by kernel_rfl
theorem ty_ag154 : aggT Try.prog 154 = some false := by kernel_rfl
theorem ty_sz154 : szT Try.prog 154 = some 1 := by kernel_rfl
theorem ty_int154 : intT Try.prog 154 = none := by kernel_rfl
theorem ty_ifc154 : ifaceT Try.prog 154 = false := by kernel_rfl
theorem ty_bool154 : boolT Try.prog 154 = false := by kernel_rfl
theorem ty_z154 : zeroT Try.prog 154 = some [.nilFunc] := by kernel_rfl
theorem ty_ag155 : aggT Try.prog 155 = some true := by kernel_rfl
theorem ty_sz155 : szT Try.prog 155 = some 16 := by kernel_rfl
theorem ty_int155 : intT Try.prog 155 = none := by kernel_rfl
theorem ty_ifc155 : ifaceT Try.prog 155 = false := by kernel_rfl
theorem ty_bool155 : boolT Try.prog 155 = false := by kernel_rfl
theorem ty_arr155 : arrT Try.prog 155 = some (16, 24, 1, false) := by kernel_rfl
theorem ty_pl155 : placeT Try.prog 155 = some (fun i => some (i * 1, 1)) := by kernel_rfl
theorem ty_z155 : zeroT Try.prog 155 = some [.int .u16 (0), .int .u16 (0), .int .u16 (0), .int .u16 (0), .int .u16 (0), .int .u16 (0), .int .u16 (0), .int .u16 (0), .int .u16 (0), .int .u16 (0), .int .u16 (0), .int .u16 (0), .int .u16 (0), .int .u16 (0), .int .u16 (0), .int .u16 (0)] := by kernel_rfl
theorem ty_ag156 : aggT Try.prog 156 = some false := by kernel_rfl
theorem ty_sz156 : szT Try.prog 156 = some 1 := by kernel_rfl
theorem ty_int156 : intT Try.prog 156 = none := by kernel_rfl
theorem ty_ifc156 : ifaceT Try.prog 156 = false := by kernel_rfl
theorem ty_bool156 : boolT Try.prog 156 = false := by kernel_rfl
theorem ty_z156 : zeroT Try.prog 156 = some [.nilFunc] := by kernel_rfl
theorem ty_ag157 : aggT Try.prog 157 = some false := by kernel_rfl
theorem ty_sz157 : szT Try.prog 157 = some 1 := by kernel_rfl
theorem ty_int157 : intT Try.prog 157 = none := by kernel_rfl
theorem ty_ifc157 : ifaceT Try.prog 157 = false := by kernel_rfl
theorem ty_bool157 : boolT Try.prog 157 = false := by kernel_rfl
theorem ty_z157 : zeroT Try.prog 157 = some [.nilFunc] := by kernel_rfl
theorem ty_ag158 : aggT Try.prog 158 = some false := by kernel_rfl
theorem ty_sz158 : szT Try.prog 158 = some 1 := by kernel_rfl
theorem ty_int158 : intT Try.prog 158 = none := by kernel_rfl
theorem ty_ifc158 : ifaceT Try.prog 158 = false := by kernel_rfl
theorem ty_bool158 : boolT Try.prog 158 = false := by kernel_rfl
theorem ty_z158 : zeroT Try.prog 158 = some [.nilFunc] := by kernel_rfl
theorem ty_ag159 : aggT Try.prog 159 = some false := by kernel_rfl
theorem ty_sz159 : szT Try.prog 159 = some 1 := by kernel_rfl
theorem ty_int159 : intT Try.prog 159 = none := by kernel_rfl
theorem ty_ifc159 : ifaceT Try.prog 159 = false := by kernel_rfl
theorem ty_bool159 : boolT Try.prog 159 = false := by kernel_rfl
theorem ty_z159 : zeroT Try.prog 159 = some [.nilFunc] := by kernel_rfl
theorem ty_ag160 : aggT Try.prog 160 = some true := by kernel_rfl
theorem ty_sz160 : szT Try.prog 160 = some 2 := by kernel_rfl
theorem ty_int160 : intT Try.prog 160 = none := by kernel_rfl
theorem ty_ifc160 : ifaceT Try.prog 160 = false := by kernel_rfl
theorem ty_bool160 : boolT Try.prog 160 = false := by kernel_rfl
theorem ty_arr160 : arrT Try.prog 160 = some (2, 34, 1, false) := by kernel_rfl
theorem ty_pl160 : placeT Try.prog 160 = some (fun i => some (i * 1, 1)) := by kernel_rfl
theorem ty_z160 : zeroT Try.prog 160 = some [.int .u32 (0), .int .u32 (0)] := by kernel_rfl
theorem ty_ag162 : aggT Try.prog 162 = some false := by kernel_rfl
theorem ty_sz162 : szT Try.prog 162 = some 1 := by kernel_rfl
theorem ty_int162 : intT Try.prog 162 = none := by kernel_rfl
theorem ty_ifc162 : ifaceT Try.prog 162 = false := by kernel_rfl
theorem ty_bool162 : boolT Try.prog 162 = false := by kernel_rfl
theorem ty_z162 : zeroT Try.prog 162 = some [.nilFunc] := by kernel_rfl
theorem ty_ag163 : aggT Try.prog 163 = some false := by kernel_rfl
theorem ty_sz163 : szT Try.prog 163 = some 1 := by kernel_rfl
theorem ty_int163 : intT Try.prog 163 = none := by kernel_rfl
theorem ty_ifc163 : ifaceT Try.prog 163 = false := by kernel_rfl
theorem ty_bool163 : boolT Try.prog 163 = false := by kernel_rfl
theorem ty_z163 : zeroT Try.prog 163 = some [.nilFunc] := by kernel_rfl
theorem ty_ag164 : aggT Try.prog 164 = some false := by kernel_rfl
theorem ty_sz164 : szT Try.prog 164 = some 1 := by kernel_rfl
theorem ty_int164 : intT Try.prog 164 = none := by kernel_rfl
theorem ty_ifc164 : ifaceT Try.prog 164 = false := by kernel_rfl
theorem ty_bool164 : boolT Try.prog 164 = false := by kernel_rfl
theorem ty_z164 : zeroT Try.prog 164 = some [.nilFunc] := by kernel_rfl
theorem ty_ag165 : aggT Try.prog 165 = some false := by kernel_rfl
theorem ty_sz165 : szT Try.prog 165 = some 1 := by kernel_rfl
theorem ty_int165 : intT Try.prog 165 = none := by kernel_rfl
theorem ty_ifc165 : ifaceT Try.prog 165 = false := by kernel_rfl
theorem ty_bool165 : boolT Try.prog 165 = false := by kernel_rfl
theorem ty_z165 : zeroT Try.prog 165 = some [.nilFunc] := by kernel_rfl
theorem ty_ag166 : aggT Try.prog 166 = some false := by kernel_rfl
theorem ty_sz166 : szT Try.prog 166 = some 1 := by kernel_rfl
theorem ty_int166 : intT Try.prog 166 = none := by kernel_rfl
theorem ty_ifc166 : ifaceT Try.prog 166 = false := by kernel_rfl
theorem ty_bool166 : boolT Try.prog 166 = false := by kernel_rfl
theorem ty_z166 : zeroT Try.prog 166 = some [.nilFunc] := by kernel_rfl
theorem ty_ag167 : aggT Try.prog 167 = some false := by kernel_rfl
theorem ty_sz167 : szT Try.prog 167 = some 1 := by kernel_rfl
theorem ty_int167 : intT Try.prog 167 = none := by kernel_rfl
theorem ty_ifc167 : ifaceT Try.prog 167 = false := by kernel_rfl
theorem ty_bool167 : boolT Try.prog 167 = false := by kernel_rfl
theorem ty_z167 : zeroT Try.prog 167 = some [.nilFunc] := by kernel_rfl
theorem ty_ag168 : aggT Try.prog 168 = some true := by kernel_rfl
theorem ty_sz168 : szT Try.prog 168 = some 4 := by kernel_rfl
theorem ty_int168 : intT Try.prog 168 = none := by kernel_rfl
theorem ty_ifc168 : ifaceT Try.prog 168 = false := by kernel_rfl
theorem ty_bool168 : boolT Try.prog 168 = false := by kernel_rfl
theorem ty_f168_0 : fieldT Try.prog 168 0 = some (0, 1, false) := by kernel_rfl
theorem ty_f168_1 : fieldT Try.prog 168 1 = some (1, 1, false) := by kernel_rfl
theorem ty_f168_2 : fieldT Try.prog 168 2 = some (2, 1, false) := by kernel_rfl
theorem ty_f168_3 : fieldT Try.prog 168 3 = some (3, 1, false) := by kernel_rfl
theorem ty_pl168 : placeT Try.prog 168 = some (fun i => #[(0, 1), (1, 1), (2, 1), (3, 1)][i]?) := by kernel_rfl
theorem ty_z168 : zeroT Try.prog 168 = some [.pointer none, .pointer none, .pointer none, .string ⟨#[]⟩] := by kernel_rfl
theorem ty_ag169 : aggT Try.prog 169 = some true := by kernel_rfl
theorem ty_sz169 : szT Try.prog 169 = some 4 := by kernel_rfl
theorem ty_int169 : intT Try.prog 169 = none := by kernel_rfl
theorem ty_ifc169 : ifaceT Try.prog 169 = false := by kernel_rfl
theorem ty_bool169 : boolT Try.prog 169 = false := by kernel_rfl
theorem ty_f169_0 : fieldT Try.prog 169 0 = some (0, 1, false) := by kernel_rfl
theorem ty_f169_1 : fieldT Try.prog 169 1 = some (1, 1, false) := by kernel_rfl
theorem ty_f169_2 : fieldT Try.prog 169 2 = some (2, 1, false) := by kernel_rfl
theorem ty_f169_3 : fieldT Try.prog 169 3 = some (3, 1, false) := by kernel_rfl
theorem ty_pl169 : placeT Try.prog 169 = some (fun i => #[(0, 1), (1, 1), (2, 1), (3, 1)][i]?) := by kernel_rfl
theorem ty_z169 : zeroT Try.prog 169 = some [.pointer none, .pointer none, .pointer none, .string ⟨#[]⟩] := by kernel_rfl
theorem ty_ag170 : aggT Try.prog 170 = some true := by kernel_rfl
theorem ty_sz170 : szT Try.prog 170 = some 0 := by kernel_rfl
theorem ty_int170 : intT Try.prog 170 = none := by kernel_rfl
theorem ty_ifc170 : ifaceT Try.prog 170 = false := by kernel_rfl
theorem ty_bool170 : boolT Try.prog 170 = false := by kernel_rfl
theorem ty_arr170 : arrT Try.prog 170 = some (0, 16, 1, false) := by kernel_rfl
theorem ty_pl170 : placeT Try.prog 170 = some (fun i => some (i * 1, 1)) := by kernel_rfl
theorem ty_z170 : zeroT Try.prog 170 = some [] := by kernel_rfl
theorem ty_ag171 : aggT Try.prog 171 = some true := by kernel_rfl
theorem ty_sz171 : szT Try.prog 171 = some 0 := by kernel_rfl
theorem ty_int171 : intT Try.prog 171 = none := by kernel_rfl
theorem ty_ifc171 : ifaceT Try.prog 171 = false := by kernel_rfl
theorem ty_bool171 : boolT Try.prog 171 = false := by kernel_rfl
theorem ty_pl171 : placeT Try.prog 171 = some (fun i => #[(0, 0)][i]?) := by kernel_rfl
theorem ty_z171 : zeroT Try.prog 171 = some [] := by kernel_rfl
theorem ty_ag172 : aggT Try.prog 172 = some true := by kernel_rfl
theorem ty_sz172 : szT Try.prog 172 = some 0 := by kernel_rfl
theorem ty_int172 : intT Try.prog 172 = none := by kernel_rfl
theorem ty_ifc172 : ifaceT Try.prog 172 = false := by kernel_rfl
theorem ty_bool172 : boolT Try.prog 172 = false := by kernel_rfl
theorem ty_pl172 : placeT Try.prog 172 = some (fun i => #[(0, 0)][i]?) := by kernel_rfl
theorem ty_z172 : zeroT Try.prog 172 = some [] := by kernel_rfl
theorem ty_ag173 : aggT Try.prog 173 = some false := by kernel_rfl
theorem ty_sz173 : szT Try.prog 173 = some 1 := by kernel_rfl
theorem ty_int173 : intT Try.prog 173 = none := by kernel_rfl
theorem ty_ifc173 : ifaceT Try.prog 173 = false := by kernel_rfl
theorem ty_bool173 : boolT Try.prog 173 = false := by kernel_rfl
theorem ty_z173 : zeroT Try.prog 173 = some [.nilFunc] := by kernel_rfl
theorem ty_ag174 : aggT Try.prog 174 = some false := by kernel_rfl
theorem ty_sz174 : szT Try.prog 174 = some 1 := by kernel_rfl
theorem ty_int174 : intT Try.prog 174 = some .u8 := by kernel_rfl
theorem ty_ifc174 : ifaceT Try.prog 174 = false := by kernel_rfl
theorem ty_bool174 : boolT Try.prog 174 = false := by kernel_rfl
theorem ty_z174 : zeroT Try.prog 174 = some [.int .u8 (0)] := by kernel_rfl
theorem ty_ag175 : aggT Try.prog 175 = some false := by kernel_rfl
theorem ty_sz175 : szT Try.prog 175 = some 1 := by kernel_rfl
theorem ty_int175 : intT Try.prog 175 = some .u8 := by kernel_rfl
theorem ty_ifc175 : ifaceT Try.prog 175 = false := by kernel_rfl
theorem ty_m175_0 : methA Try.prog 175 "String" = some 100 := by kernel_rfl
theorem ty_k175_0 : nilOk Try.prog 175 "String" = true := by kernel_rfl
theorem ty_bool175 : boolT Try.prog 175 = false := by kernel_rfl
theorem ty_z175 : zeroT Try.prog 175 = some [.int .u8 (0)] := by kernel_rfl
theorem ty_ag176 : aggT Try.prog 176 = some false := by kernel_rfl
theorem ty_sz176 : szT Try.prog 176 = some 1 := by kernel_rfl
theorem ty_int176 : intT Try.prog 176 = none := by kernel_rfl
theorem ty_ifc176 : ifaceT Try.prog 176 = false := by kernel_rfl
theorem ty_bool176 : boolT Try.prog 176 = false := by kernel_rfl
theorem ty_z176 : zeroT Try.prog 176 = some [.nilFunc] := by kernel_rfl
theorem ty_ag177 : aggT Try.prog 177 = some false := by kernel_rfl
theorem ty_sz177 : szT Try.prog 177 = some 1 := by kernel_rfl
theorem ty_int177 : intT Try.prog 177 = none := by kernel_rfl
theorem ty_ifc177 : ifaceT Try.prog 177 = false := by kernel_rfl
theorem ty_bool177 : boolT Try.prog 177 = false := by kernel_rfl
theorem ty_z177 : zeroT Try.prog 177 = some [.pointer none] := by kernel_rfl
theorem ty_ag178 : aggT Try.prog 178 = some false := by kernel_rfl
theorem ty_sz178 : szT Try.prog 178 = some 1 := by kernel_rfl
theorem ty_int178 : intT Try.prog 178 = some .i32 := by kernel_rfl
theorem ty_ifc178 : ifaceT Try.prog 178 = false := by kernel_rfl
theorem ty_bool178 : boolT Try.prog 178 = false := by kernel_rfl
theorem ty_z178 : zeroT Try.prog 178 = some [.int .i32 (0)] := by kernel_rfl
theorem ty_ag179 : aggT Try.prog 179 = some false := by kernel_rfl
theorem ty_sz179 : szT Try.prog 179 = some 1 := by kernel_rfl
theorem ty_int179 : intT Try.prog 179 = some .i32 := by kernel_rfl
theorem ty_ifc179 : ifaceT Try.prog 179 = false := by kernel_rfl
theorem ty_bool179 : boolT Try.prog 179 = false := by kernel_rfl
theorem ty_z179 : zeroT Try.prog 179 = some [.int .i32 (0)] := by kernel_rfl
theorem ty_ag180 : aggT Try.prog 180 = some true := by kernel_rfl
theorem ty_sz180 : szT Try.prog 180 = some 11 := by kernel_rfl
theorem ty_int180 : intT Try.prog 180 = none := by kernel_rfl
theorem ty_ifc180 : ifaceT Try.prog 180 = false := by kernel_rfl
theorem ty_bool180 : boolT Try.prog 180 = false := by kernel_rfl
theorem ty_f180_0 : fieldT Try.prog 180 0 = some (0, 1, false) := by kernel_rfl
theorem ty_f180_1 : fieldT Try.prog 180 1 = some (1, 1, false) := by kernel_rfl
theorem ty_f180_2 : fieldT Try.prog 180 2 = some (2, 1, false) := by kernel_rfl
theorem ty_f180_3 : fieldT Try.prog 180 3 = some (3, 1, false) := by kernel_rfl
theorem ty_f180_4 : fieldT Try.prog 180 4 = some (4, 1, false) := by kernel_rfl
theorem ty_f180_5 : fieldT Try.prog 180 5 = some (5, 1, false) := by kernel_rfl
theorem ty_f180_6 : fieldT Try.prog 180 6 = some (6, 1, false) := by kernel_rfl
theorem ty_f180_7 : fieldT Try.prog 180 7 = some (7, 1, false) := by kernel_rfl
theorem ty_f180_8 : fieldT Try.prog 180 8 = some (8, 1, false) := by kernel_rfl
theorem ty_f180_9 : fieldT Try.prog 180 9 = some (9, 1, false) := by kernel_rfl
theorem ty_f180_10 : fieldT Try.prog 180 10 = some (10, 1, false) := by kernel_rfl
theorem ty_pl180 : placeT Try.prog 180 = some (fun i => #[(0, 1), (1, 1), (2, 1), (3, 1), (4, 1), (5, 1), (6, 1), (7, 1), (8, 1), (9, 1), (10, 1)][i]?) := by kernel_rfl
theorem ty_z180 : zeroT Try.prog 180 = some [.int .u64 (0), .int .u64 (0), .int .u32 (0), .int .u8 (0), .int .u8 (0), .int .u8 (0), .int .u8 (0), .nilFunc, .pointer none, .int .i32 (0), .int .i32 (0)] := by kernel_rfl
theorem ty_ag181 : aggT Try.prog 181 = some true := by kernel_rfl
theorem ty_sz181 : szT Try.prog 181 = some 11 := by kernel_rfl
theorem ty_int181 : intT Try.prog 181 = none := by kernel_rfl
theorem ty_ifc181 : ifaceT Try.prog 181 = false := by kernel_rfl
theorem ty_bool181 : boolT Try.prog 181 = false := by kernel_rfl
theorem ty_f181_0 : fieldT Try.prog 181 0 = some (0, 1, false) := by kernel_rfl
theorem ty_f181_1 : fieldT Try.prog 181 1 = some (1, 1, false) := by kernel_rfl
theorem ty_f181_2 : fieldT Try.prog 181 2 = some (2, 1, false) := by kernel_rfl
theorem ty_f181_3 : fieldT Try.prog 181 3 = some (3, 1, false) := by kernel_rfl
theorem ty_f181_4 : fieldT Try.prog 181 4 = some (4, 1, false) := by kernel_rfl
theorem ty_f181_5 : fieldT Try.prog 181 5 = some (5, 1, false) := by kernel_rfl
theorem ty_f181_6 : fieldT Try.prog 181 6 = some (6, 1, false) := by kernel_rfl
theorem ty_f181_7 : fieldT Try.prog 181 7 = some (7, 1, false) := by kernel_rfl
theorem ty_f181_8 : fieldT Try.prog 181 8 = some (8, 1, false) := by kernel_rfl
theorem ty_f181_9 : fieldT Try.prog 181 9 = some (9, 1, false) := by kernel_rfl
theorem ty_f181_10 : fieldT Try.prog 181 10 = some (10, 1, false) := by kernel_rfl
theorem ty_pl181 : placeT Try.prog 181 = some (fun i => #[(0, 1), (1, 1), (2, 1), (3, 1), (4, 1), (5, 1), (6, 1), (7, 1), (8, 1), (9, 1), (10, 1)][i]?) := by kernel_rfl
theorem ty_z181 : zeroT Try.prog 181 = some [.int .u64 (0), .int .u64 (0), .int .u32 (0), .int .u8 (0), .int .u8 (0), .int .u8 (0), .int .u8 (0), .nilFunc, .pointer none, .int .i32 (0), .int .i32 (0)] := by kernel_rfl
theorem ty_mixed : Try.prog.follows .mixedOrders = true := by kernel_rfl
theorem fok2 : fnOk Try.f2 = true := by kernel_rfl
theorem fok3 : fnOk Try.f3 = true := by kernel_rfl
theorem fok4 : fnOk Try.f4 = true := by kernel_rfl
theorem fok5 : fnOk Try.f5 = true := by kernel_rfl
theorem fok6 : fnOk Try.f6 = true := by kernel_rfl
theorem fok7 : fnOk Try.f7 = true := by kernel_rfl
theorem fok8 : fnOk Try.f8 = true := by kernel_rfl
theorem fok9 : fnOk Try.f9 = true := by kernel_rfl
theorem fok10 : fnOk Try.f10 = true := by kernel_rfl
theorem fok11 : fnOk Try.f11 = true := by kernel_rfl
theorem fok12 : fnOk Try.f12 = true := by kernel_rfl
theorem fok13 : fnOk Try.f13 = true := by kernel_rfl
theorem fok14 : fnOk Try.f14 = true := by kernel_rfl
theorem fok15 : fnOk Try.f15 = true := by kernel_rfl
theorem fok16 : fnOk Try.f16 = true := by kernel_rfl
theorem fok17 : fnOk Try.f17 = true := by kernel_rfl
theorem fok18 : fnOk Try.f18 = true := by kernel_rfl
theorem fok19 : fnOk Try.f19 = true := by kernel_rfl
theorem fok20 : fnOk Try.f20 = true := by kernel_rfl
theorem fok21 : fnOk Try.f21 = true := by kernel_rfl
theorem fok22 : fnOk Try.f22 = true := by kernel_rfl
theorem fok23 : fnOk Try.f23 = true := by kernel_rfl
theorem fok24 : fnOk Try.f24 = true := by kernel_rfl
theorem fok25 : fnOk Try.f25 = true := by kernel_rfl
theorem fok26 : fnOk Try.f26 = true := by kernel_rfl
theorem fok27 : fnOk Try.f27 = true := by kernel_rfl
theorem fok28 : fnOk Try.f28 = true := by kernel_rfl
theorem fok29 : fnOk Try.f29 = true := by kernel_rfl
theorem fok30 : fnOk Try.f30 = true := by kernel_rfl
theorem fok31 : fnOk Try.f31 = true := by kernel_rfl
theorem fok32 : fnOk Try.f32 = true := by kernel_rfl
theorem fok33 : fnOk Try.f33 = true := by kernel_rfl
theorem fok34 : fnOk Try.f34 = true := by kernel_rfl
theorem fok35 : fnOk Try.f35 = true := by kernel_rfl
theorem fok36 : fnOk Try.f36 = true := by kernel_rfl
theorem fok37 : fnOk Try.f37 = true := by kernel_rfl
theorem fok38 : fnOk Try.f38 = true := by kernel_rfl
theorem fok39 : fnOk Try.f39 = true := by kernel_rfl
theorem fok40 : fnOk Try.f40 = true := by kernel_rfl
theorem fok41 : fnOk Try.f41 = true := by kernel_rfl
theorem fok42 : fnOk Try.f42 = true := by kernel_rfl
theorem fok43 : fnOk Try.f43 = true := by kernel_rfl
theorem fok44 : fnOk Try.f44 = true := by kernel_rfl
theorem fok45 : fnOk Try.f45 = true := by kernel_rfl
theorem fok46 : fnOk Try.f46 = true := by kernel_rfl
theorem fok47 : fnOk Try.f47 = true := by kernel_rfl
theorem fok48 : fnOk Try.f48 = true := by kernel_rfl
theorem fok49 : fnOk Try.f49 = true := by kernel_rfl
theorem fok50 : fnOk Try.f50 = true := by kernel_rfl
theorem fok51 : fnOk Try.f51 = true := by kernel_rfl
theorem fok52 : fnOk Try.f52 = true := by kernel_rfl
theorem fok53 : fnOk Try.f53 = true := by kernel_rfl
theorem fok54 : fnOk Try.f54 = true := by kernel_rfl
theorem fok55 : fnOk Try.f55 = true := by kernel_rfl
theorem fok56 : fnOk Try.f56 = true := by kernel_rfl
theorem fok57 : fnOk Try.f57 = true := by kernel_rfl
theorem fok58 : fnOk Try.f58 = true := by kernel_rfl
theorem fok59 : fnOk Try.f59 = true := by kernel_rfl
theorem fok60 : fnOk Try.f60 = true := by kernel_rfl
theorem fok61 : fnOk Try.f61 = true := by kernel_rfl
theorem fok62 : fnOk Try.f62 = true := by kernel_rfl
theorem fok63 : fnOk Try.f63 = true := by kernel_rfl
theorem fok64 : fnOk Try.f64 = true := by kernel_rfl
theorem fok65 : fnOk Try.f65 = true := by kernel_rfl
theorem fok66 : fnOk Try.f66 = true := by kernel_rfl
theorem fok67 : fnOk Try.f67 = true := by kernel_rfl
theorem fok68 : fnOk Try.f68 = true := by kernel_rfl
theorem fok69 : fnOk Try.f69 = true := by kernel_rfl
theorem fok70 : fnOk Try.f70 = true := by kernel_rfl
theorem fok71 : fnOk Try.f71 = true := by kernel_rfl
theorem fok72 : fnOk Try.f72 = true := by kernel_rfl
theorem fok73 : fnOk Try.f73 = true := by kernel_rfl
theorem fok74 : fnOk Try.f74 = true := by kernel_rfl
theorem fok75 : fnOk Try.f75 = true := by kernel_rfl
theorem fok76 : fnOk Try.f76 = true := by kernel_rfl
theorem fok77 : fnOk Try.f77 = true := by kernel_rfl
theorem fok78 : fnOk Try.f78 = true := by kernel_rfl
theorem fok79 : fnOk Try.f79 = true := by kernel_rfl
theorem fok80 : fnOk Try.f80 = true := by kernel_rfl
theorem fok81 : fnOk Try.f81 = true := by kernel_rfl
theorem fok82 : fnOk Try.f82 = true := by kernel_rfl
theorem fok83 : fnOk Try.f83 = true := by kernel_rfl
theorem fok84 : fnOk Try.f84 = true := by kernel_rfl

attribute [push_cast] ty_ag1 ty_sz1 ty_int1 ty_ifc1 ty_bool1 ty_z1 Try.underlying1 ty_ag2 ty_sz2 ty_int2 ty_ifc2 ty_bool2 ty_z2 Try.underlying2 ty_ag3 ty_sz3 ty_int3 ty_ifc3 ty_bool3 ty_z3 Try.underlying3 ty_ag4 ty_sz4 ty_int4 ty_ifc4 ty_bool4 ty_z4 Try.underlying4 ty_ag5 ty_sz5 ty_int5 ty_ifc5 ty_bool5 ty_z5 Try.underlying5 ty_ag6 ty_sz6 ty_int6 ty_ifc6 ty_bool6 ty_z6 Try.underlying6 ty_ag7 ty_sz7 ty_int7 ty_eq7 ty_ifc7 ty_bool7 ty_f7_0 ty_f7_1 ty_f7_2 ty_f7_3 ty_pl7 ty_z7 Try.underlying7 ty_ag8 ty_sz8 ty_int8 ty_eq8 ty_ifc8 ty_m8_0 ty_k8_0 ty_m8_1 ty_k8_1 ty_bool8 ty_f8_0 ty_f8_1 ty_f8_2 ty_f8_3 ty_pl8 ty_z8 Try.underlying8 ty_ag9 ty_sz9 ty_int9 ty_ifc9 ty_bool9 ty_z9 Try.underlying9 ty_ag10 ty_sz10 ty_int10 ty_ifc10 ty_m10_0 ty_k10_0 ty_m10_1 ty_k10_1 ty_bool10 ty_z10 Try.underlying10 ty_ag11 ty_sz11 ty_int11 ty_ifc11 ty_m11_0 ty_k11_0 ty_m11_1 ty_k11_1 ty_bool11 ty_z11 Try.underlying11 ty_ag12 ty_sz12 ty_int12 ty_ifc12 ty_bool12 ty_z12 Try.underlying12 ty_ag13 ty_sz13 ty_int13 ty_ifc13 ty_bool13 ty_f13_0 ty_f13_1 ty_pl13 ty_z13 Try.underlying13 ty_ag14 ty_sz14 ty_int14 ty_ifc14 ty_m14_0 ty_k14_0 ty_m14_1 ty_k14_1 ty_bool14 ty_f14_0 ty_f14_1 ty_pl14 ty_z14 Try.underlying14 ty_ag15 ty_sz15 ty_int15 ty_ifc15 ty_m15_0 ty_k15_0 ty_m15_1 ty_k15_1 ty_bool15 ty_z15 Try.underlying15 ty_ag16 ty_sz16 ty_int16 ty_ifc16 ty_m16_0 ty_k16_0 ty_m16_1 ty_k16_1 ty_bool16 ty_z16 Try.underlying16 ty_ag17 ty_sz17 ty_int17 ty_ifc17 ty_m17_0 ty_k17_0 ty_bool17 ty_z17 Try.underlying17 ty_ag18 ty_sz18 ty_int18 ty_ifc18 ty_bool18 ty_f18_0 ty_pl18 ty_z18 Try.underlying18 ty_ag19 ty_sz19 ty_int19 ty_ifc19 ty_m19_0 ty_k19_0 ty_m19_1 ty_k19_1 ty_bool19 ty_f19_0 ty_pl19 ty_z19 Try.underlying19 ty_ag20 ty_sz20 ty_int20 ty_ifc20 ty_bool20 ty_z20 ty_ag21 ty_sz21 ty_int21 ty_ifc21 ty_bool21 ty_z21 Try.underlying21 ty_ag22 ty_sz22 ty_int22 ty_ifc22 ty_bool22 ty_elem22 ty_app22 ty_z22 Try.underlying22 ty_ag23 ty_sz23 ty_int23 ty_ifc23 ty_bool23 ty_elem23 ty_app23 ty_z23 Try.underlying23 ty_ag24 ty_sz24 ty_int24 ty_ifc24 ty_bool24 ty_z24 Try.underlying24 ty_ag25 ty_sz25 ty_int25 ty_ifc25 ty_bool25 ty_f25_0 ty_f25_1 ty_pl25 ty_z25 Try.underlying25 ty_ag26 ty_sz26 ty_int26 ty_ifc26 ty_bool26 ty_f26_0 ty_f26_1 ty_pl26 ty_z26 Try.underlying26 ty_ag27 ty_sz27 ty_int27 ty_ifc27 ty_bool27 ty_z27 Try.underlying27 ty_ag28 ty_sz28 ty_int28 ty_ifc28 ty_bool28 ty_z28 Try.underlying28 ty_ag29 ty_sz29 ty_int29 ty_ifc29 ty_bool29 ty_z29 Try.underlying29 ty_ag31 ty_sz31 ty_int31 ty_ifc31 ty_bool31 ty_z31 Try.underlying31 ty_ag32 ty_sz32 ty_int32 ty_ifc32 ty_bool32 ty_z32 Try.underlying32 ty_ag33 ty_sz33 ty_int33 ty_ifc33 ty_bool33 ty_z33 Try.underlying33 ty_ag34 ty_sz34 ty_int34 ty_ifc34 ty_bool34 ty_z34 Try.underlying34 ty_ag35 ty_sz35 ty_int35 ty_eq35 ty_ifc35 ty_bool35 ty_f35_0 ty_f35_1 ty_f35_2 ty_f35_3 ty_pl35 ty_z35 Try.underlying35 ty_ag36 ty_sz36 ty_int36 ty_eq36 ty_ifc36 ty_m36_0 ty_k36_0 ty_bool36 ty_f36_0 ty_f36_1 ty_f36_2 ty_f36_3 ty_pl36 ty_z36 Try.underlying36 ty_ag37 ty_sz37 ty_int37 ty_ifc37 ty_bool37 ty_elem37 ty_app37 ty_z37 Try.underlying37 ty_ag38 ty_sz38 ty_int38 ty_ifc38 ty_bool38 ty_elem38 ty_app38 ty_z38 Try.underlying38 ty_ag39 ty_sz39 ty_int39 ty_ifc39 ty_bool39 ty_f39_0 ty_f39_1 ty_f39_2 ty_f39_3 ty_pl39 ty_z39 Try.underlying39 ty_ag40 ty_sz40 ty_int40 ty_ifc40 ty_bool40 ty_f40_0 ty_f40_1 ty_f40_2 ty_f40_3 ty_pl40 ty_z40 Try.underlying40 ty_ag42 ty_sz42 ty_int42 ty_ifc42 ty_bool42 ty_z42 Try.underlying42 ty_ag43 ty_sz43 ty_int43 ty_ifc43 ty_bool43 ty_z43 Try.underlying43 ty_ag44 ty_sz44 ty_int44 ty_eq44 ty_ifc44 ty_bool44 ty_f44_0 ty_f44_1 ty_f44_2 ty_pl44 ty_z44 Try.underlying44 ty_ag45 ty_sz45 ty_int45 ty_eq45 ty_ifc45 ty_bool45 ty_f45_0 ty_f45_1 ty_f45_2 ty_pl45 ty_z45 Try.underlying45 ty_ag46 ty_sz46 ty_int46 ty_ifc46 ty_bool46 ty_elem46 ty_app46 ty_z46 Try.underlying46 ty_ag48 ty_sz48 ty_int48 ty_ifc48 ty_bool48 ty_z48 Try.underlying48 ty_ag49 ty_sz49 ty_int49 ty_ifc49 ty_bool49 ty_z49 Try.underlying49 ty_ag50 ty_sz50 ty_int50 ty_ifc50 ty_bool50 ty_elem50 ty_app50 ty_z50 Try.underlying50 ty_ag51 ty_sz51 ty_int51 ty_ifc51 ty_bool51 ty_f51_0 ty_f51_1 ty_f51_2 ty_f51_3 ty_f51_4 ty_pl51 ty_z51 Try.underlying51 ty_ag52 ty_sz52 ty_int52 ty_ifc52 ty_m52_0 ty_k52_0 ty_m52_1 ty_k52_1 ty_bool52 ty_f52_0 ty_f52_1 ty_f52_2 ty_f52_3 ty_f52_4 ty_pl52 ty_z52 Try.underlying52 ty_ag54 ty_sz54 ty_int54 ty_ifc54 ty_bool54 ty_z54 Try.underlying54 ty_ag55 ty_sz55 ty_int55 ty_ifc55 ty_bool55 ty_z55 Try.underlying55 ty_ag56 ty_sz56 ty_int56 ty_ifc56 ty_bool56 ty_z56 Try.underlying56 ty_ag57 ty_sz57 ty_int57 ty_ifc57 ty_bool57 ty_z57 Try.underlying57 ty_ag58 ty_sz58 ty_int58 ty_ifc58 ty_bool58 ty_z58 Try.underlying58 ty_ag59 ty_sz59 ty_int59 ty_eq59 ty_ifc59 ty_bool59 ty_f59_0 ty_f59_1 ty_pl59 ty_z59 Try.underlying59 ty_ag60 ty_sz60 ty_int60 ty_eq60 ty_ifc60 ty_bool60 ty_f60_0 ty_f60_1 ty_pl60 ty_z60 Try.underlying60 ty_ag61 ty_sz61 ty_int61 ty_ifc61 ty_bool61 ty_elem61 ty_app61 ty_z61 Try.underlying61 ty_ag63 ty_sz63 ty_int63 ty_ifc63 ty_bool63 ty_z63 Try.underlying63 ty_ag65 ty_sz65 ty_int65 ty_ifc65 ty_bool65 ty_z65 Try.underlying65 ty_ag66 ty_sz66 ty_int66 ty_ifc66 ty_bool66 ty_z66 Try.underlying66 ty_ag67 ty_sz67 ty_int67 ty_ifc67 ty_bool67 ty_z67 Try.underlying67 ty_ag68 ty_sz68 ty_int68 ty_ifc68 ty_bool68 ty_z68 Try.underlying68 ty_ag70 ty_sz70 ty_int70 ty_ifc70 ty_bool70 ty_z70 Try.underlying70 ty_ag71 ty_sz71 ty_int71 ty_ifc71 ty_bool71 ty_z71 Try.underlying71 ty_ag72 ty_sz72 ty_int72 ty_ifc72 ty_bool72 ty_f72_0 ty_f72_1 ty_f72_2 ty_f72_3 ty_f72_4 ty_f72_5 ty_f72_6 ty_pl72 ty_z72 Try.underlying72 ty_ag73 ty_sz73 ty_int73 ty_ifc73 ty_bool73 ty_f73_0 ty_f73_1 ty_f73_2 ty_f73_3 ty_f73_4 ty_f73_5 ty_f73_6 ty_pl73 ty_z73 Try.underlying73 ty_ag74 ty_sz74 ty_int74 ty_ifc74 ty_bool74 ty_z74 Try.underlying74 ty_ag75 ty_sz75 ty_int75 ty_ifc75 ty_bool75 ty_f75_0 ty_f75_1 ty_f75_2 ty_f75_3 ty_f75_4 ty_f75_5 ty_f75_6 ty_pl75 ty_z75 Try.underlying75 ty_ag76 ty_sz76 ty_int76 ty_ifc76 ty_bool76 ty_f76_0 ty_f76_1 ty_f76_2 ty_f76_3 ty_f76_4 ty_f76_5 ty_f76_6 ty_pl76 ty_z76 Try.underlying76 ty_ag78 ty_sz78 ty_int78 ty_ifc78 ty_bool78 ty_z78 Try.underlying78 ty_ag79 ty_sz79 ty_int79 ty_ifc79 ty_bool79 ty_z79 Try.underlying79 ty_ag80 ty_sz80 ty_int80 ty_ifc80 ty_bool80 ty_z80 Try.underlying80 ty_ag81 ty_sz81 ty_int81 ty_ifc81 ty_bool81 ty_f81_0 ty_f81_1 ty_pl81 ty_z81 Try.underlying81 ty_ag82 ty_sz82 ty_int82 ty_ifc82 ty_bool82 ty_f82_0 ty_f82_1 ty_pl82 ty_z82 Try.underlying82 ty_ag83 ty_sz83 ty_int83 ty_ifc83 ty_bool83 ty_z83 Try.underlying83 ty_ag84 ty_sz84 ty_int84 ty_ifc84 ty_bool84 ty_z84 Try.underlying84 ty_ag85 ty_sz85 ty_int85 ty_ifc85 ty_bool85 ty_f85_0 ty_f85_1 ty_f85_2 ty_f85_3 ty_f85_4 ty_f85_5 ty_f85_6 ty_pl85 ty_z85 Try.underlying85 ty_ag86 ty_sz86 ty_int86 ty_ifc86 ty_bool86 ty_f86_0 ty_f86_1 ty_f86_2 ty_f86_3 ty_f86_4 ty_f86_5 ty_f86_6 ty_pl86 ty_z86 Try.underlying86 ty_ag88 ty_sz88 ty_int88 ty_ifc88 ty_bool88 ty_z88 Try.underlying88 ty_ag89 ty_sz89 ty_int89 ty_ifc89 ty_bool89 ty_f89_0 ty_f89_1 ty_f89_2 ty_pl89 ty_z89 Try.underlying89 ty_ag90 ty_sz90 ty_int90 ty_ifc90 ty_bool90 ty_f90_0 ty_f90_1 ty_f90_2 ty_pl90 ty_z90 Try.underlying90 ty_ag92 ty_sz92 ty_int92 ty_ifc92 ty_bool92 ty_z92 Try.underlying92 ty_ag93 ty_sz93 ty_int93 ty_ifc93 ty_bool93 ty_z93 Try.underlying93 ty_ag94 ty_sz94 ty_int94 ty_ifc94 ty_bool94 ty_z94 Try.underlying94 ty_ag95 ty_sz95 ty_int95 ty_ifc95 ty_bool95 ty_z95 Try.underlying95 ty_ag96 ty_sz96 ty_int96 ty_ifc96 ty_bool96 ty_f96_0 ty_f96_1 ty_pl96 ty_z96 Try.underlying96 ty_ag97 ty_sz97 ty_int97 ty_ifc97 ty_bool97 ty_f97_0 ty_f97_1 ty_pl97 ty_z97 Try.underlying97 ty_ag98 ty_sz98 ty_int98 ty_ifc98 ty_bool98 ty_f98_0 ty_f98_1 ty_pl98 ty_z98 Try.underlying98 ty_ag99 ty_sz99 ty_int99 ty_ifc99 ty_bool99 ty_f99_0 ty_f99_1 ty_pl99 ty_z99 Try.underlying99 ty_ag100 ty_sz100 ty_int100 ty_ifc100 ty_bool100 ty_z100 Try.underlying100 ty_ag101 ty_sz101 ty_int101 ty_ifc101 ty_bool101 ty_f101_0 ty_f101_1 ty_f101_2 ty_f101_3 ty_pl101 ty_z101 Try.underlying101 ty_ag102 ty_sz102 ty_int102 ty_ifc102 ty_bool102 ty_f102_0 ty_f102_1 ty_f102_2 ty_f102_3 ty_pl102 ty_z102 Try.underlying102 ty_ag103 ty_sz103 ty_int103 ty_ifc103 ty_bool103 ty_z103 Try.underlying103 ty_ag104 ty_sz104 ty_int104 ty_ifc104 ty_bool104 ty_z104 Try.underlying104 ty_ag105 ty_sz105 ty_int105 ty_ifc105 ty_bool105 ty_z105 Try.underlying105 ty_ag107 ty_sz107 ty_int107 ty_ifc107 ty_bool107 ty_z107 Try.underlying107 ty_ag108 ty_sz108 ty_int108 ty_ifc108 ty_bool108 ty_elem108 ty_app108 ty_z108 Try.underlying108 ty_ag109 ty_sz109 ty_int109 ty_ifc109 ty_bool109 ty_z109 Try.underlying109 ty_ag110 ty_sz110 ty_int110 ty_ifc110 ty_bool110 ty_z110 Try.underlying110 ty_ag112 ty_sz112 ty_int112 ty_ifc112 ty_bool112 ty_z112 Try.underlying112 ty_ag114 ty_sz114 ty_int114 ty_ifc114 ty_bool114 ty_z114 Try.underlying114 ty_ag116 ty_sz116 ty_int116 ty_ifc116 ty_bool116 ty_z116 Try.underlying116 ty_ag117 ty_sz117 ty_int117 ty_ifc117 ty_bool117 ty_z117 Try.underlying117 ty_ag118 ty_sz118 ty_int118 ty_ifc118 ty_bool118 ty_z118 Try.underlying118 ty_ag120 ty_sz120 ty_int120 ty_ifc120 ty_bool120 ty_z120 Try.underlying120 ty_ag122 ty_sz122 ty_int122 ty_ifc122 ty_bool122 ty_z122 Try.underlying122 ty_ag123 ty_sz123 ty_int123 ty_ifc123 ty_bool123 ty_z123 Try.underlying123 ty_ag124 ty_sz124 ty_int124 ty_eq124 ty_ifc124 ty_bool124 ty_f124_0 ty_f124_1 ty_pl124 ty_z124 Try.underlying124 ty_ag125 ty_sz125 ty_int125 ty_eq125 ty_ifc125 ty_m125_0 ty_k125_0 ty_bool125 ty_f125_0 ty_f125_1 ty_pl125 ty_z125 Try.underlying125 ty_ag126 ty_sz126 ty_int126 ty_ifc126 ty_bool126 ty_z126 Try.underlying126 ty_ag128 ty_sz128 ty_int128 ty_ifc128 ty_bool128 ty_z128 Try.underlying128 ty_ag129 ty_sz129 ty_int129 ty_ifc129 ty_bool129 ty_z129 Try.underlying129 ty_ag130 ty_sz130 ty_int130 ty_ifc130 ty_bool130 ty_z130 Try.underlying130 ty_ag131 ty_sz131 ty_int131 ty_ifc131 ty_bool131 ty_z131 Try.underlying131 ty_ag132 ty_sz132 ty_int132 ty_ifc132 ty_bool132 ty_arr132 ty_pl132 ty_z132 ty_ag133 ty_sz133 ty_int133 ty_ifc133 ty_bool133 ty_arr133 ty_pl133 ty_z133 ty_ag134 ty_sz134 ty_int134 ty_ifc134 ty_bool134 ty_z134 Try.underlying134 ty_ag135 ty_sz135 ty_int135 ty_ifc135 ty_bool135 ty_z135 Try.underlying135 ty_ag136 ty_sz136 ty_int136 ty_ifc136 ty_bool136 ty_z136 Try.underlying136 ty_ag137 ty_sz137 ty_int137 ty_ifc137 ty_bool137 ty_z137 Try.underlying137 ty_ag138 ty_sz138 ty_int138 ty_ifc138 ty_bool138 ty_z138 Try.underlying138 ty_ag139 ty_sz139 ty_int139 ty_ifc139 ty_bool139 ty_z139 Try.underlying139 ty_ag140 ty_sz140 ty_int140 ty_ifc140 ty_bool140 ty_elem140 ty_app140 ty_z140 Try.underlying140 ty_ag141 ty_sz141 ty_int141 ty_ifc141 ty_bool141 ty_z141 Try.underlying141 ty_ag142 ty_sz142 ty_int142 ty_ifc142 ty_bool142 ty_z142 Try.underlying142 ty_ag143 ty_sz143 ty_int143 ty_ifc143 ty_bool143 ty_f143_0 ty_pl143 ty_z143 Try.underlying143 ty_ag144 ty_sz144 ty_int144 ty_ifc144 ty_bool144 ty_f144_0 ty_pl144 ty_z144 Try.underlying144 ty_ag145 ty_sz145 ty_int145 ty_ifc145 ty_m145_0 ty_k145_0 ty_m145_1 ty_k145_1 ty_bool145 ty_z145 Try.underlying145 ty_ag146 ty_sz146 ty_int146 ty_ifc146 ty_m146_0 ty_k146_0 ty_m146_1 ty_k146_1 ty_m146_2 ty_k146_2 ty_bool146 ty_z146 Try.underlying146 ty_ag147 ty_sz147 ty_int147 ty_ifc147 ty_bool147 ty_z147 Try.underlying147 ty_ag148 ty_sz148 ty_int148 ty_ifc148 ty_bool148 ty_z148 Try.underlying148 ty_ag149 ty_sz149 ty_int149 ty_eq149 ty_ifc149 ty_bool149 ty_f149_0 ty_f149_1 ty_pl149 ty_z149 Try.underlying149 ty_ag150 ty_sz150 ty_int150 ty_eq150 ty_ifc150 ty_bool150 ty_f150_0 ty_f150_1 ty_pl150 ty_z150 Try.underlying150 ty_ag151 ty_sz151 ty_int151 ty_ifc151 ty_bool151 ty_f151_0 ty_f151_1 ty_pl151 ty_z151 Try.underlying151 ty_ag152 ty_sz152 ty_int152 ty_ifc152 ty_bool152 ty_f152_0 ty_f152_1 ty_pl152 ty_z152 Try.underlying152 ty_ag153 ty_sz153 ty_int153 ty_ifc153 ty_bool153 ty_z153 Try.underlying153 ty_ag154 ty_sz154 ty_int154 ty_ifc154 ty_bool154 ty_z154 Try.underlying154 ty_ag155 ty_sz155 ty_int155 ty_ifc155 ty_bool155 ty_arr155 ty_pl155 ty_z155 ty_ag156 ty_sz156 ty_int156 ty_ifc156 ty_bool156 ty_z156 Try.underlying156 ty_ag157 ty_sz157 ty_int157 ty_ifc157 ty_bool157 ty_z157 Try.underlying157 ty_ag158 ty_sz158 ty_int158 ty_ifc158 ty_bool158 ty_z158 Try.underlying158 ty_ag159 ty_sz159 ty_int159 ty_ifc159 ty_bool159 ty_z159 Try.underlying159 ty_ag160 ty_sz160 ty_int160 ty_ifc160 ty_bool160 ty_arr160 ty_pl160 ty_z160 ty_ag162 ty_sz162 ty_int162 ty_ifc162 ty_bool162 ty_z162 Try.underlying162 ty_ag163 ty_sz163 ty_int163 ty_ifc163 ty_bool163 ty_z163 Try.underlying163 ty_ag164 ty_sz164 ty_int164 ty_ifc164 ty_bool164 ty_z164 Try.underlying164 ty_ag165 ty_sz165 ty_int165 ty_ifc165 ty_bool165 ty_z165 Try.underlying165 ty_ag166 ty_sz166 ty_int166 ty_ifc166 ty_bool166 ty_z166 Try.underlying166 ty_ag167 ty_sz167 ty_int167 ty_ifc167 ty_bool167 ty_z167 Try.underlying167 ty_ag168 ty_sz168 ty_int168 ty_ifc168 ty_bool168 ty_f168_0 ty_f168_1 ty_f168_2 ty_f168_3 ty_pl168 ty_z168 Try.underlying168 ty_ag169 ty_sz169 ty_int169 ty_ifc169 ty_bool169 ty_f169_0 ty_f169_1 ty_f169_2 ty_f169_3 ty_pl169 ty_z169 Try.underlying169 ty_ag170 ty_sz170 ty_int170 ty_ifc170 ty_bool170 ty_arr170 ty_pl170 ty_z170 ty_ag171 ty_sz171 ty_int171 ty_ifc171 ty_bool171 ty_pl171 ty_z171 Try.underlying171 ty_ag172 ty_sz172 ty_int172 ty_ifc172 ty_bool172 ty_pl172 ty_z172 Try.underlying172 ty_ag173 ty_sz173 ty_int173 ty_ifc173 ty_bool173 ty_z173 Try.underlying173 ty_ag174 ty_sz174 ty_int174 ty_ifc174 ty_bool174 ty_z174 Try.underlying174 ty_ag175 ty_sz175 ty_int175 ty_ifc175 ty_m175_0 ty_k175_0 ty_bool175 ty_z175 Try.underlying175 ty_ag176 ty_sz176 ty_int176 ty_ifc176 ty_bool176 ty_z176 Try.underlying176 ty_ag177 ty_sz177 ty_int177 ty_ifc177 ty_bool177 ty_z177 Try.underlying177 ty_ag178 ty_sz178 ty_int178 ty_ifc178 ty_bool178 ty_z178 Try.underlying178 ty_ag179 ty_sz179 ty_int179 ty_ifc179 ty_bool179 ty_z179 Try.underlying179 ty_ag180 ty_sz180 ty_int180 ty_ifc180 ty_bool180 ty_f180_0 ty_f180_1 ty_f180_2 ty_f180_3 ty_f180_4 ty_f180_5 ty_f180_6 ty_f180_7 ty_f180_8 ty_f180_9 ty_f180_10 ty_pl180 ty_z180 Try.underlying180 ty_ag181 ty_sz181 ty_int181 ty_ifc181 ty_bool181 ty_f181_0 ty_f181_1 ty_f181_2 ty_f181_3 ty_f181_4 ty_f181_5 ty_f181_6 ty_f181_7 ty_f181_8 ty_f181_9 ty_f181_10 ty_pl181 ty_z181 Try.underlying181 Try.params2 fok2 Try.func2 Try.params3 fok3 Try.func3 Try.params4 fok4 Try.func4 Try.params5 fok5 Try.func5 Try.params6 fok6 Try.func6 Try.params7 fok7 Try.func7 Try.params8 fok8 Try.func8 Try.params9 fok9 Try.func9 Try.params10 fok10 Try.func10 Try.params11 fok11 Try.func11 Try.params12 fok12 Try.func12 Try.params13 fok13 Try.func13 Try.params14 fok14 Try.func14 Try.params15 fok15 Try.func15 Try.params16 fok16 Try.func16 Try.params17 fok17 Try.func17 Try.params18 fok18 Try.func18 Try.params19 fok19 Try.func19 Try.params20 fok20 Try.func20 Try.params21 fok21 Try.func21 Try.params22 fok22 Try.func22 Try.params23 fok23 Try.func23 Try.params24 fok24 Try.func24 Try.params25 fok25 Try.func25 Try.params26 fok26 Try.func26 Try.params27 fok27 Try.func27 Try.params28 fok28 Try.func28 Try.params29 fok29 Try.func29 Try.params30 fok30 Try.func30 Try.params31 fok31 Try.func31 Try.params32 fok32 Try.func32 Try.params33 fok33 Try.func33 Try.params34 fok34 Try.func34 Try.params35 fok35 Try.func35 Try.params36 fok36 Try.func36 Try.params37 fok37 Try.func37 Try.params38 fok38 Try.func38 Try.params39 fok39 Try.func39 Try.params40 fok40 Try.func40 Try.params41 fok41 Try.func41 Try.params42 fok42 Try.func42 Try.params43 fok43 Try.func43 Try.params44 fok44 Try.func44 Try.params45 fok45 Try.func45 Try.params46 fok46 Try.func46 Try.params47 fok47 Try.func47 Try.params48 fok48 Try.func48 Try.params49 fok49 Try.func49 Try.params50 fok50 Try.func50 Try.params51 fok51 Try.func51 Try.params52 fok52 Try.func52 Try.params53 fok53 Try.func53 Try.params54 fok54 Try.func54 Try.params55 fok55 Try.func55 Try.params56 fok56 Try.func56 Try.params57 fok57 Try.func57 Try.params58 fok58 Try.func58 Try.params59 fok59 Try.func59 Try.params60 fok60 Try.func60 Try.params61 fok61 Try.func61 Try.params62 fok62 Try.func62 Try.params63 fok63 Try.func63 Try.params64 fok64 Try.func64 Try.params65 fok65 Try.func65 Try.params66 fok66 Try.func66 Try.params67 fok67 Try.func67 Try.params68 fok68 Try.func68 Try.params69 fok69 Try.func69 Try.params70 fok70 Try.func70 Try.params71 fok71 Try.func71 Try.params72 fok72 Try.func72 Try.params73 fok73 Try.func73 Try.params74 fok74 Try.func74 Try.params75 fok75 Try.func75 Try.params76 fok76 Try.func76 Try.params77 fok77 Try.func77 Try.params78 fok78 Try.func78 Try.params79 fok79 Try.func79 Try.params80 fok80 Try.func80 Try.params81 fok81 Try.func81 Try.params82 fok82 Try.func82 Try.params83 fok83 Try.func83 Try.params84 fok84 Try.func84

end Go.Proofs.Ytmjocalgekfodaa

