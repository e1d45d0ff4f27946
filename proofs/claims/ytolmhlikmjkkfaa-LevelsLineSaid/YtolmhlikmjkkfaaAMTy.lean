/-
  The types of this seat, as the abstract view asks for them.
  Conditions: none.
-/
import Derived.Test.YtolmhlikmjkkfaaProg
import Derived.Test.YtolmhlikmjkkfaaAM22
import Derived.KernelRfl
namespace Go.Proofs.Ytolmhlikmjkkfaa
set_option linter.unusedVariables false

theorem ty_ag1 : aggT Try.prog 1 = some false := by kernel_rfl
theorem ty_sz1 : szT Try.prog 1 = some 1 := by kernel_rfl
theorem ty_int1 : intT Try.prog 1 = none := by kernel_rfl
theorem ty_ifc1 : ifaceT Try.prog 1 = false := by kernel_rfl
theorem ty_bool1 : boolT Try.prog 1 = false := by kernel_rfl
theorem ty_z1 : zeroT Try.prog 1 = some [.nilFunc] := by kernel_rfl
theorem ty_ag2 : aggT Try.prog 2 = some false := by kernel_rfl
theorem ty_sz2 : szT Try.prog 2 = some 1 := by kernel_rfl
theorem ty_int2 : intT Try.prog 2 = some .i64 := by kernel_rfl
theorem ty_ifc2 : ifaceT Try.prog 2 = false := by kernel_rfl
theorem ty_bool2 : boolT Try.prog 2 = false := by kernel_rfl
theorem ty_z2 : zeroT Try.prog 2 = some [.int .i64 (0)] := by kernel_rfl
theorem ty_ag3 : aggT Try.prog 3 = some false := by kernel_rfl
theorem ty_sz3 : szT Try.prog 3 = some 1 := by kernel_rfl
theorem ty_int3 : intT Try.prog 3 = some .i64 := by kernel_rfl
theorem ty_ifc3 : ifaceT Try.prog 3 = false := by kernel_rfl
theorem ty_bool3 : boolT Try.prog 3 = false := by kernel_rfl
theorem ty_z3 : zeroT Try.prog 3 = some [.int .i64 (0)] := by kernel_rfl
theorem ty_ag4 : aggT Try.prog 4 = some false := by kernel_rfl
theorem ty_sz4 : szT Try.prog 4 = some 1 := by kernel_rfl
theorem ty_int4 : intT Try.prog 4 = none := by kernel_rfl
theorem ty_ifc4 : ifaceT Try.prog 4 = false := by kernel_rfl
theorem ty_bool4 : boolT Try.prog 4 = true := by kernel_rfl
theorem ty_z4 : zeroT Try.prog 4 = some [.bool false] := by kernel_rfl
theorem ty_ag5 : aggT Try.prog 5 = some false := by kernel_rfl
theorem ty_sz5 : szT Try.prog 5 = some 1 := by kernel_rfl
theorem ty_int5 : intT Try.prog 5 = some .u8 := by kernel_rfl
theorem ty_ifc5 : ifaceT Try.prog 5 = false := by kernel_rfl
theorem ty_bool5 : boolT Try.prog 5 = false := by kernel_rfl
theorem ty_z5 : zeroT Try.prog 5 = some [.int .u8 (0)] := by kernel_rfl
theorem ty_ag6 : aggT Try.prog 6 = some false := by kernel_rfl
theorem ty_sz6 : szT Try.prog 6 = some 1 := by kernel_rfl
theorem ty_int6 : intT Try.prog 6 = some .u8 := by kernel_rfl
theorem ty_ifc6 : ifaceT Try.prog 6 = false := by kernel_rfl
theorem ty_bool6 : boolT Try.prog 6 = false := by kernel_rfl
theorem ty_z6 : zeroT Try.prog 6 = some [.int .u8 (0)] := by kernel_rfl
theorem ty_ag7 : aggT Try.prog 7 = some true := by kernel_rfl
theorem ty_sz7 : szT Try.prog 7 = some 4 := by kernel_rfl
theorem ty_int7 : intT Try.prog 7 = none := by kernel_rfl
theorem ty_eq7 : eqT Try.prog 7 = some [true, true, false, true] := by kernel_rfl
theorem ty_ifc7 : ifaceT Try.prog 7 = false := by kernel_rfl
theorem ty_bool7 : boolT Try.prog 7 = false := by kernel_rfl
theorem ty_f7_0 : fieldT Try.prog 7 0 = some (0, 1, false) := by kernel_rfl
theorem ty_f7_1 : fieldT Try.prog 7 1 = some (1, 1, false) := by kernel_rfl
theorem ty_f7_2 : fieldT Try.prog 7 2 = some (2, 1, false) := by kernel_rfl
theorem ty_f7_3 : fieldT Try.prog 7 3 = some (3, 1, false) := by kernel_rfl
theorem ty_pl7 : placeT Try.prog 7 = some (fun i => #[(0, 1), (1, 1), (2, 1), (3, 1)][i]?) := by kernel_rfl
theorem ty_z7 : zeroT Try.prog 7 = some [.int .i64 (0), .int .i64 (0), .bool false, .int .u8 (0)] := by kernel_rfl
theorem ty_ag8 : aggT Try.prog 8 = some true := by kernel_rfl
theorem ty_sz8 : szT Try.prog 8 = some 4 := by kernel_rfl
theorem ty_int8 : intT Try.prog 8 = none := by kernel_rfl
theorem ty_eq8 : eqT Try.prog 8 = some [true, true, false, true] := by kernel_rfl
theorem ty_ifc8 : ifaceT Try.prog 8 = false := by kernel_rfl
theorem ty_m8_0 : methA Try.prog 8 "Error" = some 70 := by kernel_rfl
theorem ty_k8_0 : nilOk Try.prog 8 "Error" = true := by kernel_rfl
theorem ty_m8_1 : methA Try.prog 8 "RuntimeError" = some 71 := by kernel_rfl
theorem ty_k8_1 : nilOk Try.prog 8 "RuntimeError" = true := by kernel_rfl
theorem ty_bool8 : boolT Try.prog 8 = false := by kernel_rfl
theorem ty_f8_0 : fieldT Try.prog 8 0 = some (0, 1, false) := by kernel_rfl
theorem ty_f8_1 : fieldT Try.prog 8 1 = some (1, 1, false) := by kernel_rfl
theorem ty_f8_2 : fieldT Try.prog 8 2 = some (2, 1, false) := by kernel_rfl
theorem ty_f8_3 : fieldT Try.prog 8 3 = some (3, 1, false) := by kernel_rfl
theorem ty_pl8 : placeT Try.prog 8 = some (fun i => #[(0, 1), (1, 1), (2, 1), (3, 1)][i]?) := by kernel_rfl
theorem ty_z8 : zeroT Try.prog 8 = some [.int .i64 (0), .int .i64 (0), .bool false, .int .u8 (0)] := by kernel_rfl
theorem ty_ag9 : aggT Try.prog 9 = some false := by kernel_rfl
theorem ty_sz9 : szT Try.prog 9 = some 1 := by kernel_rfl
theorem ty_int9 : intT Try.prog 9 = none := by kernel_rfl
theorem ty_ifc9 : ifaceT Try.prog 9 = false := by kernel_rfl
theorem ty_bool9 : boolT Try.prog 9 = false := by kernel_rfl
theorem ty_z9 : zeroT Try.prog 9 = some [.string ⟨#[]⟩] := by kernel_rfl
theorem ty_ag10 : aggT Try.prog 10 = some false := by kernel_rfl
theorem ty_sz10 : szT Try.prog 10 = some 1 := by kernel_rfl
theorem ty_int10 : intT Try.prog 10 = none := by kernel_rfl
theorem ty_ifc10 : ifaceT Try.prog 10 = false := by kernel_rfl
theorem ty_m10_0 : methA Try.prog 10 "Error" = some 72 := by kernel_rfl
theorem ty_k10_0 : nilOk Try.prog 10 "Error" = true := by kernel_rfl
theorem ty_m10_1 : methA Try.prog 10 "RuntimeError" = some 73 := by kernel_rfl
theorem ty_k10_1 : nilOk Try.prog 10 "RuntimeError" = true := by kernel_rfl
theorem ty_bool10 : boolT Try.prog 10 = false := by kernel_rfl
theorem ty_z10 : zeroT Try.prog 10 = some [.string ⟨#[]⟩] := by kernel_rfl
theorem ty_ag11 : aggT Try.prog 11 = some false := by kernel_rfl
theorem ty_sz11 : szT Try.prog 11 = some 1 := by kernel_rfl
theorem ty_int11 : intT Try.prog 11 = none := by kernel_rfl
theorem ty_ifc11 : ifaceT Try.prog 11 = false := by kernel_rfl
theorem ty_m11_0 : methA Try.prog 11 "Error" = some 74 := by kernel_rfl
theorem ty_k11_0 : nilOk Try.prog 11 "Error" = true := by kernel_rfl
theorem ty_m11_1 : methA Try.prog 11 "RuntimeError" = some 75 := by kernel_rfl
theorem ty_k11_1 : nilOk Try.prog 11 "RuntimeError" = true := by kernel_rfl
theorem ty_bool11 : boolT Try.prog 11 = false := by kernel_rfl
theorem ty_z11 : zeroT Try.prog 11 = some [.string ⟨#[]⟩] := by kernel_rfl
theorem ty_ag12 : aggT Try.prog 12 = some false := by kernel_rfl
theorem ty_sz12 : szT Try.prog 12 = some 1 := by kernel_rfl
theorem ty_int12 : intT Try.prog 12 = some .u64 := by kernel_rfl
theorem ty_ifc12 : ifaceT Try.prog 12 = false := by kernel_rfl
theorem ty_bool12 : boolT Try.prog 12 = false := by kernel_rfl
theorem ty_z12 : zeroT Try.prog 12 = some [.int .u64 (0)] := by kernel_rfl
theorem ty_ag13 : aggT Try.prog 13 = some true := by kernel_rfl
theorem ty_sz13 : szT Try.prog 13 = some 2 := by kernel_rfl
theorem ty_int13 : intT Try.prog 13 = none := by kernel_rfl
theorem ty_ifc13 : ifaceT Try.prog 13 = false := by kernel_rfl
theorem ty_bool13 : boolT Try.prog 13 = false := by kernel_rfl
theorem ty_f13_0 : fieldT Try.prog 13 0 = some (0, 1, false) := by kernel_rfl
theorem ty_f13_1 : fieldT Try.prog 13 1 = some (1, 1, false) := by kernel_rfl
theorem ty_pl13 : placeT Try.prog 13 = some (fun i => #[(0, 1), (1, 1)][i]?) := by kernel_rfl
theorem ty_z13 : zeroT Try.prog 13 = some [.string ⟨#[]⟩, .int .u64 (0)] := by kernel_rfl
theorem ty_ag14 : aggT Try.prog 14 = some true := by kernel_rfl
theorem ty_sz14 : szT Try.prog 14 = some 2 := by kernel_rfl
theorem ty_int14 : intT Try.prog 14 = none := by kernel_rfl
theorem ty_ifc14 : ifaceT Try.prog 14 = false := by kernel_rfl
theorem ty_m14_0 : methA Try.prog 14 "Error" = some 76 := by kernel_rfl
theorem ty_k14_0 : nilOk Try.prog 14 "Error" = true := by kernel_rfl
theorem ty_m14_1 : methA Try.prog 14 "RuntimeError" = some 77 := by kernel_rfl
theorem ty_k14_1 : nilOk Try.prog 14 "RuntimeError" = true := by kernel_rfl
theorem ty_bool14 : boolT Try.prog 14 = false := by kernel_rfl
theorem ty_f14_0 : fieldT Try.prog 14 0 = some (0, 1, false) := by kernel_rfl
theorem ty_f14_1 : fieldT Try.prog 14 1 = some (1, 1, false) := by kernel_rfl
theorem ty_pl14 : placeT Try.prog 14 = some (fun i => #[(0, 1), (1, 1)][i]?) := by kernel_rfl
theorem ty_z14 : zeroT Try.prog 14 = some [.string ⟨#[]⟩, .int .u64 (0)] := by kernel_rfl
theorem ty_ag15 : aggT Try.prog 15 = some false := by kernel_rfl
theorem ty_sz15 : szT Try.prog 15 = some 1 := by kernel_rfl
theorem ty_int15 : intT Try.prog 15 = none := by kernel_rfl
theorem ty_ifc15 : ifaceT Try.prog 15 = false := by kernel_rfl
theorem ty_m15_0 : methA Try.prog 15 "Error" = some 78 := by kernel_rfl
theorem ty_k15_0 : nilOk Try.prog 15 "Error" = true := by kernel_rfl
theorem ty_m15_1 : methA Try.prog 15 "RuntimeError" = some 79 := by kernel_rfl
theorem ty_k15_1 : nilOk Try.prog 15 "RuntimeError" = true := by kernel_rfl
theorem ty_bool15 : boolT Try.prog 15 = false := by kernel_rfl
theorem ty_z15 : zeroT Try.prog 15 = some [.pointer none] := by kernel_rfl
theorem ty_ag16 : aggT Try.prog 16 = some false := by kernel_rfl
theorem ty_sz16 : szT Try.prog 16 = some 1 := by kernel_rfl
theorem ty_int16 : intT Try.prog 16 = none := by kernel_rfl
theorem ty_ifc16 : ifaceT Try.prog 16 = false := by kernel_rfl
theorem ty_m16_0 : methA Try.prog 16 "Error" = some 80 := by kernel_rfl
theorem ty_k16_0 : nilOk Try.prog 16 "Error" = true := by kernel_rfl
theorem ty_m16_1 : methA Try.prog 16 "RuntimeError" = some 81 := by kernel_rfl
theorem ty_k16_1 : nilOk Try.prog 16 "RuntimeError" = true := by kernel_rfl
theorem ty_bool16 : boolT Try.prog 16 = false := by kernel_rfl
theorem ty_z16 : zeroT Try.prog 16 = some [.pointer none] := by kernel_rfl
theorem ty_ag17 : aggT Try.prog 17 = some false := by kernel_rfl
theorem ty_sz17 : szT Try.prog 17 = some 1 := by kernel_rfl
theorem ty_int17 : intT Try.prog 17 = none := by kernel_rfl
theorem ty_ifc17 : ifaceT Try.prog 17 = false := by kernel_rfl
theorem ty_m17_0 : methA Try.prog 17 "Align" = some 82 := by kernel_rfl
theorem ty_k17_0 : nilOk Try.prog 17 "Align" = true := by kernel_rfl
theorem ty_bool17 : boolT Try.prog 17 = false := by kernel_rfl
theorem ty_z17 : zeroT Try.prog 17 = some [.pointer none] := by kernel_rfl
theorem ty_ag18 : aggT Try.prog 18 = some true := by kernel_rfl
theorem ty_sz18 : szT Try.prog 18 = some 1 := by kernel_rfl
theorem ty_int18 : intT Try.prog 18 = none := by kernel_rfl
theorem ty_ifc18 : ifaceT Try.prog 18 = false := by kernel_rfl
theorem ty_bool18 : boolT Try.prog 18 = false := by kernel_rfl
theorem ty_f18_0 : fieldT Try.prog 18 0 = some (0, 1, false) := by kernel_rfl
theorem ty_pl18 : placeT Try.prog 18 = some (fun i => #[(0, 1)][i]?) := by kernel_rfl
theorem ty_z18 : zeroT Try.prog 18 = some [.pointer none] := by kernel_rfl
theorem ty_ag19 : aggT Try.prog 19 = some true := by kernel_rfl
theorem ty_sz19 : szT Try.prog 19 = some 1 := by kernel_rfl
theorem ty_int19 : intT Try.prog 19 = none := by kernel_rfl
theorem ty_ifc19 : ifaceT Try.prog 19 = false := by kernel_rfl
theorem ty_m19_0 : methA Try.prog 19 "Error" = some 83 := by kernel_rfl
theorem ty_k19_0 : nilOk Try.prog 19 "Error" = true := by kernel_rfl
theorem ty_m19_1 : methA Try.prog 19 "RuntimeError" = some 84 := by kernel_rfl
theorem ty_k19_1 : nilOk Try.prog 19 "RuntimeError" = true := by kernel_rfl
theorem ty_bool19 : boolT Try.prog 19 = false := by kernel_rfl
theorem ty_f19_0 : fieldT Try.prog 19 0 = some (0, 1, false) := by kernel_rfl
theorem ty_pl19 : placeT Try.prog 19 = some (fun i => #[(0, 1)][i]?) := by kernel_rfl
theorem ty_z19 : zeroT Try.prog 19 = some [.pointer none] := by kernel_rfl
theorem ty_ag20 : aggT Try.prog 20 = some false := by kernel_rfl
theorem ty_sz20 : szT Try.prog 20 = some 1 := by kernel_rfl
theorem ty_int20 : intT Try.prog 20 = none := by kernel_rfl
theorem ty_ifc20 : ifaceT Try.prog 20 = true := by kernel_rfl
theorem ty_bool20 : boolT Try.prog 20 = false := by kernel_rfl
theorem ty_z20 : zeroT Try.prog 20 = some [.nilIface] := by kernel_rfl
theorem ty_ag21 : aggT Try.prog 21 = some false := by kernel_rfl
theorem ty_sz21 : szT Try.prog 21 = some 1 := by kernel_rfl
theorem ty_int21 : intT Try.prog 21 = some .i32 := by kernel_rfl
theorem ty_ifc21 : ifaceT Try.prog 21 = false := by kernel_rfl
theorem ty_bool21 : boolT Try.prog 21 = false := by kernel_rfl
theorem ty_z21 : zeroT Try.prog 21 = some [.int .i32 (0)] := by kernel_rfl
theorem ty_ag22 : aggT Try.prog 22 = some false := by kernel_rfl
theorem ty_sz22 : szT Try.prog 22 = some 1 := by kernel_rfl
theorem ty_int22 : intT Try.prog 22 = some .u32 := by kernel_rfl
theorem ty_ifc22 : ifaceT Try.prog 22 = false := by kernel_rfl
theorem ty_bool22 : boolT Try.prog 22 = false := by kernel_rfl
theorem ty_z22 : zeroT Try.prog 22 = some [.int .u32 (0)] := by kernel_rfl
theorem ty_ag23 : aggT Try.prog 23 = some false := by kernel_rfl
theorem ty_sz23 : szT Try.prog 23 = some 1 := by kernel_rfl
theorem ty_int23 : intT Try.prog 23 = some .i64 := by kernel_rfl
theorem ty_ifc23 : ifaceT Try.prog 23 = false := by kernel_rfl
theorem ty_bool23 : boolT Try.prog 23 = false := by kernel_rfl
theorem ty_z23 : zeroT Try.prog 23 = some [.int .i64 (0)] := by kernel_rfl
theorem ty_ag25 : aggT Try.prog 25 = some false := by kernel_rfl
theorem ty_sz25 : szT Try.prog 25 = some 1 := by kernel_rfl
theorem ty_int25 : intT Try.prog 25 = none := by kernel_rfl
theorem ty_ifc25 : ifaceT Try.prog 25 = false := by kernel_rfl
theorem ty_bool25 : boolT Try.prog 25 = false := by kernel_rfl
theorem ty_z25 : zeroT Try.prog 25 = some [.nilFunc] := by kernel_rfl
theorem ty_ag27 : aggT Try.prog 27 = some false := by kernel_rfl
theorem ty_sz27 : szT Try.prog 27 = some 1 := by kernel_rfl
theorem ty_int27 : intT Try.prog 27 = none := by kernel_rfl
theorem ty_ifc27 : ifaceT Try.prog 27 = false := by kernel_rfl
theorem ty_bool27 : boolT Try.prog 27 = false := by kernel_rfl
theorem ty_z27 : zeroT Try.prog 27 = some [.nilFunc] := by kernel_rfl
theorem ty_ag28 : aggT Try.prog 28 = some false := by kernel_rfl
theorem ty_sz28 : szT Try.prog 28 = some 1 := by kernel_rfl
theorem ty_int28 : intT Try.prog 28 = some .u64 := by kernel_rfl
theorem ty_ifc28 : ifaceT Try.prog 28 = false := by kernel_rfl
theorem ty_bool28 : boolT Try.prog 28 = false := by kernel_rfl
theorem ty_z28 : zeroT Try.prog 28 = some [.int .u64 (0)] := by kernel_rfl
theorem ty_ag29 : aggT Try.prog 29 = some false := by kernel_rfl
theorem ty_sz29 : szT Try.prog 29 = some 1 := by kernel_rfl
theorem ty_int29 : intT Try.prog 29 = none := by kernel_rfl
theorem ty_ifc29 : ifaceT Try.prog 29 = false := by kernel_rfl
theorem ty_bool29 : boolT Try.prog 29 = false := by kernel_rfl
theorem ty_z29 : zeroT Try.prog 29 = some [.nilFunc] := by kernel_rfl
theorem ty_ag30 : aggT Try.prog 30 = some false := by kernel_rfl
theorem ty_sz30 : szT Try.prog 30 = some 1 := by kernel_rfl
theorem ty_int30 : intT Try.prog 30 = some .u64 := by kernel_rfl
theorem ty_ifc30 : ifaceT Try.prog 30 = false := by kernel_rfl
theorem ty_bool30 : boolT Try.prog 30 = false := by kernel_rfl
theorem ty_z30 : zeroT Try.prog 30 = some [.int .u64 (0)] := by kernel_rfl
theorem ty_ag31 : aggT Try.prog 31 = some false := by kernel_rfl
theorem ty_sz31 : szT Try.prog 31 = some 1 := by kernel_rfl
theorem ty_int31 : intT Try.prog 31 = none := by kernel_rfl
theorem ty_ifc31 : ifaceT Try.prog 31 = false := by kernel_rfl
theorem ty_bool31 : boolT Try.prog 31 = false := by kernel_rfl
theorem ty_z31 : zeroT Try.prog 31 = some [.nilFunc] := by kernel_rfl
theorem ty_ag32 : aggT Try.prog 32 = some false := by kernel_rfl
theorem ty_sz32 : szT Try.prog 32 = some 1 := by kernel_rfl
theorem ty_int32 : intT Try.prog 32 = none := by kernel_rfl
theorem ty_ifc32 : ifaceT Try.prog 32 = false := by kernel_rfl
theorem ty_bool32 : boolT Try.prog 32 = false := by kernel_rfl
theorem ty_z32 : zeroT Try.prog 32 = some [.nilFunc] := by kernel_rfl
theorem ty_ag33 : aggT Try.prog 33 = some false := by kernel_rfl
theorem ty_sz33 : szT Try.prog 33 = some 1 := by kernel_rfl
theorem ty_int33 : intT Try.prog 33 = none := by kernel_rfl
theorem ty_ifc33 : ifaceT Try.prog 33 = false := by kernel_rfl
theorem ty_bool33 : boolT Try.prog 33 = false := by kernel_rfl
theorem ty_elem33 : elemT Try.prog 33 = some (5, 1, false) := by kernel_rfl
theorem ty_app33 : appT Try.prog 33 = some (5, 1, 1) := by kernel_rfl
theorem ty_z33 : zeroT Try.prog 33 = some [.slice none 0 0] := by kernel_rfl
theorem ty_ag34 : aggT Try.prog 34 = some false := by kernel_rfl
theorem ty_sz34 : szT Try.prog 34 = some 1 := by kernel_rfl
theorem ty_int34 : intT Try.prog 34 = none := by kernel_rfl
theorem ty_ifc34 : ifaceT Try.prog 34 = false := by kernel_rfl
theorem ty_bool34 : boolT Try.prog 34 = false := by kernel_rfl
theorem ty_z34 : zeroT Try.prog 34 = some [.nilFunc] := by kernel_rfl
theorem ty_ag35 : aggT Try.prog 35 = some false := by kernel_rfl
theorem ty_sz35 : szT Try.prog 35 = some 1 := by kernel_rfl
theorem ty_int35 : intT Try.prog 35 = none := by kernel_rfl
theorem ty_ifc35 : ifaceT Try.prog 35 = false := by kernel_rfl
theorem ty_bool35 : boolT Try.prog 35 = false := by kernel_rfl
theorem ty_z35 : zeroT Try.prog 35 = some [.nilFunc] := by kernel_rfl
theorem ty_ag37 : aggT Try.prog 37 = some false := by kernel_rfl
theorem ty_sz37 : szT Try.prog 37 = some 1 := by kernel_rfl
theorem ty_int37 : intT Try.prog 37 = none := by kernel_rfl
theorem ty_ifc37 : ifaceT Try.prog 37 = false := by kernel_rfl
theorem ty_bool37 : boolT Try.prog 37 = false := by kernel_rfl
theorem ty_z37 : zeroT Try.prog 37 = some [.nilFunc] := by kernel_rfl
theorem ty_ag38 : aggT Try.prog 38 = some false := by kernel_rfl
theorem ty_sz38 : szT Try.prog 38 = some 1 := by kernel_rfl
theorem ty_int38 : intT Try.prog 38 = some .u16 := by kernel_rfl
theorem ty_ifc38 : ifaceT Try.prog 38 = false := by kernel_rfl
theorem ty_bool38 : boolT Try.prog 38 = false := by kernel_rfl
theorem ty_z38 : zeroT Try.prog 38 = some [.int .u16 (0)] := by kernel_rfl
theorem ty_ag39 : aggT Try.prog 39 = some false := by kernel_rfl
theorem ty_sz39 : szT Try.prog 39 = some 1 := by kernel_rfl
theorem ty_int39 : intT Try.prog 39 = none := by kernel_rfl
theorem ty_ifc39 : ifaceT Try.prog 39 = false := by kernel_rfl
theorem ty_bool39 : boolT Try.prog 39 = false := by kernel_rfl
theorem ty_z39 : zeroT Try.prog 39 = some [.nilFunc] := by kernel_rfl
theorem ty_ag40 : aggT Try.prog 40 = some false := by kernel_rfl
theorem ty_sz40 : szT Try.prog 40 = some 1 := by kernel_rfl
theorem ty_int40 : intT Try.prog 40 = none := by kernel_rfl
theorem ty_ifc40 : ifaceT Try.prog 40 = false := by kernel_rfl
theorem ty_bool40 : boolT Try.prog 40 = false := by kernel_rfl
theorem ty_z40 : zeroT Try.prog 40 = some [.nilFunc] := by kernel_rfl
theorem ty_ag41 : aggT Try.prog 41 = some true := by kernel_rfl
theorem ty_sz41 : szT Try.prog 41 = some 2 := by kernel_rfl
theorem ty_int41 : intT Try.prog 41 = none := by kernel_rfl
theorem ty_ifc41 : ifaceT Try.prog 41 = false := by kernel_rfl
theorem ty_bool41 : boolT Try.prog 41 = false := by kernel_rfl
theorem ty_arr41 : arrT Try.prog 41 = some (2, 5, 1, false) := by kernel_rfl
theorem ty_pl41 : placeT Try.prog 41 = some (fun i => some (i * 1, 1)) := by kernel_rfl
theorem ty_z41 : zeroT Try.prog 41 = some [.int .u8 (0), .int .u8 (0)] := by kernel_rfl
theorem ty_ag42 : aggT Try.prog 42 = some true := by kernel_rfl
theorem ty_sz42 : szT Try.prog 42 = some 5 := by kernel_rfl
theorem ty_int42 : intT Try.prog 42 = none := by kernel_rfl
theorem ty_ifc42 : ifaceT Try.prog 42 = false := by kernel_rfl
theorem ty_bool42 : boolT Try.prog 42 = false := by kernel_rfl
theorem ty_f42_0 : fieldT Try.prog 42 0 = some (0, 1, false) := by kernel_rfl
theorem ty_f42_1 : fieldT Try.prog 42 1 = some (1, 1, false) := by kernel_rfl
theorem ty_f42_2 : fieldT Try.prog 42 2 = some (2, 2, true) := by kernel_rfl
theorem ty_f42_3 : fieldT Try.prog 42 3 = some (4, 1, false) := by kernel_rfl
theorem ty_pl42 : placeT Try.prog 42 = some (fun i => #[(0, 1), (1, 1), (2, 2), (4, 1)][i]?) := by kernel_rfl
theorem ty_z42 : zeroT Try.prog 42 = some [.int .u32 (0), .int .u8 (0), .int .u8 (0), .int .u8 (0), .int .u8 (0)] := by kernel_rfl
theorem ty_ag43 : aggT Try.prog 43 = some true := by kernel_rfl
theorem ty_sz43 : szT Try.prog 43 = some 5 := by kernel_rfl
theorem ty_int43 : intT Try.prog 43 = none := by kernel_rfl
theorem ty_ifc43 : ifaceT Try.prog 43 = false := by kernel_rfl
theorem ty_bool43 : boolT Try.prog 43 = false := by kernel_rfl
theorem ty_f43_0 : fieldT Try.prog 43 0 = some (0, 1, false) := by kernel_rfl
theorem ty_f43_1 : fieldT Try.prog 43 1 = some (1, 1, false) := by kernel_rfl
theorem ty_f43_2 : fieldT Try.prog 43 2 = some (2, 2, true) := by kernel_rfl
theorem ty_f43_3 : fieldT Try.prog 43 3 = some (4, 1, false) := by kernel_rfl
theorem ty_pl43 : placeT Try.prog 43 = some (fun i => #[(0, 1), (1, 1), (2, 2), (4, 1)][i]?) := by kernel_rfl
theorem ty_z43 : zeroT Try.prog 43 = some [.int .u32 (0), .int .u8 (0), .int .u8 (0), .int .u8 (0), .int .u8 (0)] := by kernel_rfl
theorem ty_ag44 : aggT Try.prog 44 = some false := by kernel_rfl
theorem ty_sz44 : szT Try.prog 44 = some 1 := by kernel_rfl
theorem ty_int44 : intT Try.prog 44 = none := by kernel_rfl
theorem ty_ifc44 : ifaceT Try.prog 44 = false := by kernel_rfl
theorem ty_bool44 : boolT Try.prog 44 = false := by kernel_rfl
theorem ty_z44 : zeroT Try.prog 44 = some [.nilFunc] := by kernel_rfl
theorem ty_ag45 : aggT Try.prog 45 = some false := by kernel_rfl
theorem ty_sz45 : szT Try.prog 45 = some 1 := by kernel_rfl
theorem ty_int45 : intT Try.prog 45 = none := by kernel_rfl
theorem ty_ifc45 : ifaceT Try.prog 45 = false := by kernel_rfl
theorem ty_bool45 : boolT Try.prog 45 = false := by kernel_rfl
theorem ty_elem45 : elemT Try.prog 45 = some (38, 1, false) := by kernel_rfl
theorem ty_app45 : appT Try.prog 45 = some (38, 1, 2) := by kernel_rfl
theorem ty_z45 : zeroT Try.prog 45 = some [.slice none 0 0] := by kernel_rfl
theorem ty_ag46 : aggT Try.prog 46 = some true := by kernel_rfl
theorem ty_sz46 : szT Try.prog 46 = some 2 := by kernel_rfl
theorem ty_int46 : intT Try.prog 46 = none := by kernel_rfl
theorem ty_ifc46 : ifaceT Try.prog 46 = false := by kernel_rfl
theorem ty_bool46 : boolT Try.prog 46 = false := by kernel_rfl
theorem ty_f46_0 : fieldT Try.prog 46 0 = some (0, 1, false) := by kernel_rfl
theorem ty_f46_1 : fieldT Try.prog 46 1 = some (1, 1, false) := by kernel_rfl
theorem ty_pl46 : placeT Try.prog 46 = some (fun i => #[(0, 1), (1, 1)][i]?) := by kernel_rfl
theorem ty_z46 : zeroT Try.prog 46 = some [.slice none 0 0, .int .u16 (0)] := by kernel_rfl
theorem ty_ag47 : aggT Try.prog 47 = some true := by kernel_rfl
theorem ty_sz47 : szT Try.prog 47 = some 2 := by kernel_rfl
theorem ty_int47 : intT Try.prog 47 = none := by kernel_rfl
theorem ty_ifc47 : ifaceT Try.prog 47 = false := by kernel_rfl
theorem ty_bool47 : boolT Try.prog 47 = false := by kernel_rfl
theorem ty_f47_0 : fieldT Try.prog 47 0 = some (0, 1, false) := by kernel_rfl
theorem ty_f47_1 : fieldT Try.prog 47 1 = some (1, 1, false) := by kernel_rfl
theorem ty_pl47 : placeT Try.prog 47 = some (fun i => #[(0, 1), (1, 1)][i]?) := by kernel_rfl
theorem ty_z47 : zeroT Try.prog 47 = some [.slice none 0 0, .int .u16 (0)] := by kernel_rfl
theorem ty_ag48 : aggT Try.prog 48 = some false := by kernel_rfl
theorem ty_sz48 : szT Try.prog 48 = some 1 := by kernel_rfl
theorem ty_int48 : intT Try.prog 48 = none := by kernel_rfl
theorem ty_ifc48 : ifaceT Try.prog 48 = false := by kernel_rfl
theorem ty_bool48 : boolT Try.prog 48 = false := by kernel_rfl
theorem ty_z48 : zeroT Try.prog 48 = some [.nilFunc] := by kernel_rfl
theorem ty_ag49 : aggT Try.prog 49 = some false := by kernel_rfl
theorem ty_sz49 : szT Try.prog 49 = some 1 := by kernel_rfl
theorem ty_int49 : intT Try.prog 49 = none := by kernel_rfl
theorem ty_ifc49 : ifaceT Try.prog 49 = false := by kernel_rfl
theorem ty_bool49 : boolT Try.prog 49 = false := by kernel_rfl
theorem ty_z49 : zeroT Try.prog 49 = some [.nilFunc] := by kernel_rfl
theorem ty_ag50 : aggT Try.prog 50 = some false := by kernel_rfl
theorem ty_sz50 : szT Try.prog 50 = some 1 := by kernel_rfl
theorem ty_int50 : intT Try.prog 50 = none := by kernel_rfl
theorem ty_ifc50 : ifaceT Try.prog 50 = false := by kernel_rfl
theorem ty_bool50 : boolT Try.prog 50 = false := by kernel_rfl
theorem ty_z50 : zeroT Try.prog 50 = some [.nilFunc] := by kernel_rfl
theorem ty_ag52 : aggT Try.prog 52 = some false := by kernel_rfl
theorem ty_sz52 : szT Try.prog 52 = some 1 := by kernel_rfl
theorem ty_int52 : intT Try.prog 52 = none := by kernel_rfl
theorem ty_ifc52 : ifaceT Try.prog 52 = false := by kernel_rfl
theorem ty_bool52 : boolT Try.prog 52 = false := by kernel_rfl
theorem ty_z52 : zeroT Try.prog 52 = some [.nilFunc] := by kernel_rfl
theorem ty_ag53 : aggT Try.prog 53 = some false := by kernel_rfl
theorem ty_sz53 : szT Try.prog 53 = some 1 := by kernel_rfl
theorem ty_int53 : intT Try.prog 53 = none := by kernel_rfl
theorem ty_ifc53 : ifaceT Try.prog 53 = false := by kernel_rfl
theorem ty_bool53 : boolT Try.prog 53 = false := by kernel_rfl
theorem ty_elem53 : elemT Try.prog 53 = some (63, 1, false) := by kernel_rfl
theorem ty_app53 : appT Try.prog 53 = some (63, 1, 1) := by kernel_rfl
theorem ty_z53 : zeroT Try.prog 53 = some [.slice none 0 0] := by kernel_rfl
theorem ty_ag55 : aggT Try.prog 55 = some false := by kernel_rfl
theorem ty_sz55 : szT Try.prog 55 = some 1 := by kernel_rfl
theorem ty_int55 : intT Try.prog 55 = none := by kernel_rfl
theorem ty_ifc55 : ifaceT Try.prog 55 = false := by kernel_rfl
theorem ty_bool55 : boolT Try.prog 55 = false := by kernel_rfl
theorem ty_z55 : zeroT Try.prog 55 = some [.nilFunc] := by kernel_rfl
theorem ty_ag56 : aggT Try.prog 56 = some false := by kernel_rfl
theorem ty_sz56 : szT Try.prog 56 = some 1 := by kernel_rfl
theorem ty_int56 : intT Try.prog 56 = none := by kernel_rfl
theorem ty_ifc56 : ifaceT Try.prog 56 = false := by kernel_rfl
theorem ty_bool56 : boolT Try.prog 56 = false := by kernel_rfl
theorem ty_z56 : zeroT Try.prog 56 = some [.nilFunc] := by kernel_rfl
theorem ty_ag57 : aggT Try.prog 57 = some false := by kernel_rfl
theorem ty_sz57 : szT Try.prog 57 = some 1 := by kernel_rfl
theorem ty_int57 : intT Try.prog 57 = none := by kernel_rfl
theorem ty_ifc57 : ifaceT Try.prog 57 = false := by kernel_rfl
theorem ty_bool57 : boolT Try.prog 57 = false := by kernel_rfl
theorem ty_z57 : zeroT Try.prog 57 = some [.nilFunc] := by kernel_rfl
theorem ty_ag58 : aggT Try.prog 58 = some false := by kernel_rfl
theorem ty_sz58 : szT Try.prog 58 = some 1 := by kernel_rfl
theorem ty_int58 : intT Try.prog 58 = none := by kernel_rfl
theorem ty_ifc58 : ifaceT Try.prog 58 = false := by kernel_rfl
theorem ty_bool58 : boolT Try.prog 58 = false := by kernel_rfl
theorem ty_z58 : zeroT Try.prog 58 = some [.nilFunc] := by kernel_rfl
theorem ty_ag59 : aggT Try.prog 59 = some false := by kernel_rfl
theorem ty_sz59 : szT Try.prog 59 = some 1 := by kernel_rfl
theorem ty_int59 : intT Try.prog 59 = none := by kernel_rfl
theorem ty_ifc59 : ifaceT Try.prog 59 = false := by kernel_rfl
theorem ty_bool59 : boolT Try.prog 59 = false := by kernel_rfl
theorem ty_z59 : zeroT Try.prog 59 = some [.nilFunc] := by kernel_rfl
theorem ty_ag61 : aggT Try.prog 61 = some false := by kernel_rfl
theorem ty_sz61 : szT Try.prog 61 = some 1 := by kernel_rfl
theorem ty_int61 : intT Try.prog 61 = none := by kernel_rfl
theorem ty_ifc61 : ifaceT Try.prog 61 = false := by kernel_rfl
theorem ty_bool61 : boolT Try.prog 61 = false := by kernel_rfl
theorem ty_z61 : zeroT Try.prog 61 = some [.nilFunc] := by kernel_rfl
theorem ty_ag62 : aggT Try.prog 62 = some false := by kernel_rfl
theorem ty_sz62 : szT Try.prog 62 = some 1 := by kernel_rfl
theorem ty_int62 : intT Try.prog 62 = none := by kernel_rfl
theorem ty_ifc62 : ifaceT Try.prog 62 = false := by kernel_rfl
theorem ty_bool62 : boolT Try.prog 62 = false := by kernel_rfl
theorem ty_z62 : zeroT Try.prog 62 = some [.nilFunc] := by kernel_rfl
theorem ty_ag63 : aggT Try.prog 63 = some false := by kernel_rfl
theorem ty_sz63 : szT Try.prog 63 = some 1 := by kernel_rfl
theorem ty_int63 : intT Try.prog 63 = some .u8 := by kernel_rfl
theorem ty_ifc63 : ifaceT Try.prog 63 = false := by kernel_rfl
theorem ty_bool63 : boolT Try.prog 63 = false := by kernel_rfl
theorem ty_z63 : zeroT Try.prog 63 = some [.int .u8 (0)] := by kernel_rfl
theorem ty_ag64 : aggT Try.prog 64 = some false := by kernel_rfl
theorem ty_sz64 : szT Try.prog 64 = some 1 := by kernel_rfl
theorem ty_int64 : intT Try.prog 64 = none := by kernel_rfl
theorem ty_ifc64 : ifaceT Try.prog 64 = false := by kernel_rfl
theorem ty_bool64 : boolT Try.prog 64 = false := by kernel_rfl
theorem ty_elem64 : elemT Try.prog 64 = some (33, 1, false) := by kernel_rfl
theorem ty_app64 : appT Try.prog 64 = some (33, 1, 24) := by kernel_rfl
theorem ty_z64 : zeroT Try.prog 64 = some [.slice none 0 0] := by kernel_rfl
theorem ty_ag65 : aggT Try.prog 65 = some true := by kernel_rfl
theorem ty_sz65 : szT Try.prog 65 = some 5 := by kernel_rfl
theorem ty_int65 : intT Try.prog 65 = none := by kernel_rfl
theorem ty_ifc65 : ifaceT Try.prog 65 = false := by kernel_rfl
theorem ty_bool65 : boolT Try.prog 65 = false := by kernel_rfl
theorem ty_f65_0 : fieldT Try.prog 65 0 = some (0, 1, false) := by kernel_rfl
theorem ty_f65_1 : fieldT Try.prog 65 1 = some (1, 1, false) := by kernel_rfl
theorem ty_f65_2 : fieldT Try.prog 65 2 = some (2, 1, false) := by kernel_rfl
theorem ty_f65_3 : fieldT Try.prog 65 3 = some (3, 1, false) := by kernel_rfl
theorem ty_f65_4 : fieldT Try.prog 65 4 = some (4, 1, false) := by kernel_rfl
theorem ty_pl65 : placeT Try.prog 65 = some (fun i => #[(0, 1), (1, 1), (2, 1), (3, 1), (4, 1)][i]?) := by kernel_rfl
theorem ty_z65 : zeroT Try.prog 65 = some [.slice none 0 0, .slice none 0 0, .int .u16 (0), .int .u16 (0), .int .u8 (0)] := by kernel_rfl
theorem ty_ag66 : aggT Try.prog 66 = some true := by kernel_rfl
theorem ty_sz66 : szT Try.prog 66 = some 5 := by kernel_rfl
theorem ty_int66 : intT Try.prog 66 = none := by kernel_rfl
theorem ty_ifc66 : ifaceT Try.prog 66 = false := by kernel_rfl
theorem ty_bool66 : boolT Try.prog 66 = false := by kernel_rfl
theorem ty_f66_0 : fieldT Try.prog 66 0 = some (0, 1, false) := by kernel_rfl
theorem ty_f66_1 : fieldT Try.prog 66 1 = some (1, 1, false) := by kernel_rfl
theorem ty_f66_2 : fieldT Try.prog 66 2 = some (2, 1, false) := by kernel_rfl
theorem ty_f66_3 : fieldT Try.prog 66 3 = some (3, 1, false) := by kernel_rfl
theorem ty_f66_4 : fieldT Try.prog 66 4 = some (4, 1, false) := by kernel_rfl
theorem ty_pl66 : placeT Try.prog 66 = some (fun i => #[(0, 1), (1, 1), (2, 1), (3, 1), (4, 1)][i]?) := by kernel_rfl
theorem ty_z66 : zeroT Try.prog 66 = some [.slice none 0 0, .slice none 0 0, .int .u16 (0), .int .u16 (0), .int .u8 (0)] := by kernel_rfl
theorem ty_ag68 : aggT Try.prog 68 = some false := by kernel_rfl
theorem ty_sz68 : szT Try.prog 68 = some 1 := by kernel_rfl
theorem ty_int68 : intT Try.prog 68 = none := by kernel_rfl
theorem ty_ifc68 : ifaceT Try.prog 68 = false := by kernel_rfl
theorem ty_bool68 : boolT Try.prog 68 = false := by kernel_rfl
theorem ty_z68 : zeroT Try.prog 68 = some [.nilFunc] := by kernel_rfl
theorem ty_ag69 : aggT Try.prog 69 = some false := by kernel_rfl
theorem ty_sz69 : szT Try.prog 69 = some 1 := by kernel_rfl
theorem ty_int69 : intT Try.prog 69 = none := by kernel_rfl
theorem ty_ifc69 : ifaceT Try.prog 69 = false := by kernel_rfl
theorem ty_bool69 : boolT Try.prog 69 = false := by kernel_rfl
theorem ty_z69 : zeroT Try.prog 69 = some [.nilFunc] := by kernel_rfl
theorem ty_ag70 : aggT Try.prog 70 = some false := by kernel_rfl
theorem ty_sz70 : szT Try.prog 70 = some 1 := by kernel_rfl
theorem ty_int70 : intT Try.prog 70 = none := by kernel_rfl
theorem ty_ifc70 : ifaceT Try.prog 70 = false := by kernel_rfl
theorem ty_bool70 : boolT Try.prog 70 = false := by kernel_rfl
theorem ty_z70 : zeroT Try.prog 70 = some [.nilFunc] := by kernel_rfl
theorem ty_ag71 : aggT Try.prog 71 = some false := by kernel_rfl
theorem ty_sz71 : szT Try.prog 71 = some 1 := by kernel_rfl
theorem ty_int71 : intT Try.prog 71 = none := by kernel_rfl
theorem ty_ifc71 : ifaceT Try.prog 71 = false := by kernel_rfl
theorem ty_bool71 : boolT Try.prog 71 = false := by kernel_rfl
theorem ty_z71 : zeroT Try.prog 71 = some [.nilFunc] := by kernel_rfl
theorem ty_ag72 : aggT Try.prog 72 = some false := by kernel_rfl
theorem ty_sz72 : szT Try.prog 72 = some 1 := by kernel_rfl
theorem ty_int72 : intT Try.prog 72 = none := by kernel_rfl
theorem ty_ifc72 : ifaceT Try.prog 72 = false := by kernel_rfl
theorem ty_bool72 : boolT Try.prog 72 = false := by kernel_rfl
theorem ty_z72 : zeroT Try.prog 72 = some [.nilFunc] := by kernel_rfl
theorem ty_ag73 : aggT Try.prog 73 = some false := by kernel_rfl
theorem ty_sz73 : szT Try.prog 73 = some 1 := by kernel_rfl
theorem ty_int73 : intT Try.prog 73 = none := by kernel_rfl
theorem ty_ifc73 : ifaceT Try.prog 73 = false := by kernel_rfl
theorem ty_bool73 : boolT Try.prog 73 = false := by kernel_rfl
theorem ty_z73 : zeroT Try.prog 73 = some [.nilFunc] := by kernel_rfl
theorem ty_ag74 : aggT Try.prog 74 = some false := by kernel_rfl
theorem ty_sz74 : szT Try.prog 74 = some 1 := by kernel_rfl
theorem ty_int74 : intT Try.prog 74 = none := by kernel_rfl
theorem ty_ifc74 : ifaceT Try.prog 74 = false := by kernel_rfl
theorem ty_bool74 : boolT Try.prog 74 = false := by kernel_rfl
theorem ty_z74 : zeroT Try.prog 74 = some [.nilFunc] := by kernel_rfl
theorem ty_ag75 : aggT Try.prog 75 = some false := by kernel_rfl
theorem ty_sz75 : szT Try.prog 75 = some 1 := by kernel_rfl
theorem ty_int75 : intT Try.prog 75 = none := by kernel_rfl
theorem ty_ifc75 : ifaceT Try.prog 75 = false := by kernel_rfl
theorem ty_bool75 : boolT Try.prog 75 = false := by kernel_rfl
theorem ty_z75 : zeroT Try.prog 75 = some [.nilFunc] := by kernel_rfl
theorem ty_ag76 : aggT Try.prog 76 = some true := by kernel_rfl
theorem ty_sz76 : szT Try.prog 76 = some 16 := by kernel_rfl
theorem ty_int76 : intT Try.prog 76 = none := by kernel_rfl
theorem ty_ifc76 : ifaceT Try.prog 76 = false := by kernel_rfl
theorem ty_bool76 : boolT Try.prog 76 = false := by kernel_rfl
theorem ty_arr76 : arrT Try.prog 76 = some (16, 38, 1, false) := by kernel_rfl
theorem ty_pl76 : placeT Try.prog 76 = some (fun i => some (i * 1, 1)) := by kernel_rfl
theorem ty_z76 : zeroT Try.prog 76 = some [.int .u16 (0), .int .u16 (0), .int .u16 (0), .int .u16 (0), .int .u16 (0), .int .u16 (0), .int .u16 (0), .int .u16 (0), .int .u16 (0), .int .u16 (0), .int .u16 (0), .int .u16 (0), .int .u16 (0), .int .u16 (0), .int .u16 (0), .int .u16 (0)] := by kernel_rfl
theorem ty_ag77 : aggT Try.prog 77 = some false := by kernel_rfl
theorem ty_sz77 : szT Try.prog 77 = some 1 := by kernel_rfl
theorem ty_int77 : intT Try.prog 77 = none := by kernel_rfl
theorem ty_ifc77 : ifaceT Try.prog 77 = false := by kernel_rfl
theorem ty_bool77 : boolT Try.prog 77 = false := by kernel_rfl
theorem ty_z77 : zeroT Try.prog 77 = some [.nilFunc] := by kernel_rfl
theorem ty_ag78 : aggT Try.prog 78 = some false := by kernel_rfl
theorem ty_sz78 : szT Try.prog 78 = some 1 := by kernel_rfl
theorem ty_int78 : intT Try.prog 78 = none := by kernel_rfl
theorem ty_ifc78 : ifaceT Try.prog 78 = false := by kernel_rfl
theorem ty_bool78 : boolT Try.prog 78 = false := by kernel_rfl
theorem ty_z78 : zeroT Try.prog 78 = some [.nilFunc] := by kernel_rfl
theorem ty_ag79 : aggT Try.prog 79 = some true := by kernel_rfl
theorem ty_sz79 : szT Try.prog 79 = some 8 := by kernel_rfl
theorem ty_int79 : intT Try.prog 79 = none := by kernel_rfl
theorem ty_ifc79 : ifaceT Try.prog 79 = false := by kernel_rfl
theorem ty_bool79 : boolT Try.prog 79 = false := by kernel_rfl
theorem ty_arr79 : arrT Try.prog 79 = some (8, 5, 1, false) := by kernel_rfl
theorem ty_pl79 : placeT Try.prog 79 = some (fun i => some (i * 1, 1)) := by kernel_rfl
theorem ty_z79 : zeroT Try.prog 79 = some [.int .u8 (0), .int .u8 (0), .int .u8 (0), .int .u8 (0), .int .u8 (0), .int .u8 (0), .int .u8 (0), .int .u8 (0)] := by kernel_rfl
theorem ty_ag80 : aggT Try.prog 80 = some false := by kernel_rfl
theorem ty_sz80 : szT Try.prog 80 = some 1 := by kernel_rfl
theorem ty_int80 : intT Try.prog 80 = none := by kernel_rfl
theorem ty_ifc80 : ifaceT Try.prog 80 = false := by kernel_rfl
theorem ty_bool80 : boolT Try.prog 80 = false := by kernel_rfl
theorem ty_z80 : zeroT Try.prog 80 = some [.nilFunc] := by kernel_rfl
theorem ty_ag81 : aggT Try.prog 81 = some false := by kernel_rfl
theorem ty_sz81 : szT Try.prog 81 = some 1 := by kernel_rfl
theorem ty_int81 : intT Try.prog 81 = none := by kernel_rfl
theorem ty_ifc81 : ifaceT Try.prog 81 = false := by kernel_rfl
theorem ty_bool81 : boolT Try.prog 81 = false := by kernel_rfl
theorem ty_z81 : zeroT Try.prog 81 = some [.nilFunc] := by kernel_rfl
theorem ty_ag82 : aggT Try.prog 82 = some false := by kernel_rfl
theorem ty_sz82 : szT Try.prog 82 = some 1 := by kernel_rfl
theorem ty_int82 : intT Try.prog 82 = none := by kernel_rfl
theorem ty_ifc82 : ifaceT Try.prog 82 = false := by kernel_rfl
theorem ty_bool82 : boolT Try.prog 82 = false := by kernel_rfl
theorem ty_z82 : zeroT Try.prog 82 = some [.nilFunc] := by kernel_rfl
theorem ty_ag83 : aggT Try.prog 83 = some false := by kernel_rfl
theorem ty_sz83 : szT Try.prog 83 = some 1 := by kernel_rfl
theorem ty_int83 : intT Try.prog 83 = none := by kernel_rfl
theorem ty_ifc83 : ifaceT Try.prog 83 = false := by kernel_rfl
theorem ty_bool83 : boolT Try.prog 83 = false := by kernel_rfl
theorem ty_z83 : zeroT Try.prog 83 = some [.nilFunc] := by kernel_rfl
theorem ty_ag84 : aggT Try.prog 84 = some false := by kernel_rfl
theorem ty_sz84 : szT Try.prog 84 = some 1 := by kernel_rfl
theorem ty_int84 : intT Try.prog 84 = none := by kernel_rfl
theorem ty_ifc84 : ifaceT Try.prog 84 = false := by kernel_rfl
theorem ty_bool84 : boolT Try.prog 84 = false := by kernel_rfl
theorem ty_z84 : zeroT Try.prog 84 = some [.nilFunc] := by kernel_rfl
theorem ty_ag85 : aggT Try.prog 85 = some false := by kernel_rfl
theorem ty_sz85 : szT Try.prog 85 = some 1 := by kernel_rfl
theorem ty_int85 : intT Try.prog 85 = none := by kernel_rfl
theorem ty_ifc85 : ifaceT Try.prog 85 = false := by kernel_rfl
theorem ty_bool85 : boolT Try.prog 85 = false := by kernel_rfl
theorem ty_z85 : zeroT Try.prog 85 = some [.nilFunc] := by kernel_rfl
theorem ty_ag86 : aggT Try.prog 86 = some false := by kernel_rfl
theorem ty_sz86 : szT Try.prog 86 = some 1 := by kernel_rfl
theorem ty_int86 : intT Try.prog 86 = none := by kernel_rfl
theorem ty_ifc86 : ifaceT Try.prog 86 = false := by kernel_rfl
theorem ty_bool86 : boolT Try.prog 86 = false := by kernel_rfl
theorem ty_z86 : zeroT Try.prog 86 = some [.nilFunc] := by kernel_rfl
theorem ty_ag87 : aggT Try.prog 87 = some true := by kernel_rfl
theorem ty_sz87 : szT Try.prog 87 = some 4 := by kernel_rfl
theorem ty_int87 : intT Try.prog 87 = none := by kernel_rfl
theorem ty_ifc87 : ifaceT Try.prog 87 = false := by kernel_rfl
theorem ty_bool87 : boolT Try.prog 87 = false := by kernel_rfl
theorem ty_f87_0 : fieldT Try.prog 87 0 = some (0, 1, false) := by kernel_rfl
theorem ty_f87_1 : fieldT Try.prog 87 1 = some (1, 1, false) := by kernel_rfl
theorem ty_f87_2 : fieldT Try.prog 87 2 = some (2, 1, false) := by kernel_rfl
theorem ty_f87_3 : fieldT Try.prog 87 3 = some (3, 1, false) := by kernel_rfl
theorem ty_pl87 : placeT Try.prog 87 = some (fun i => #[(0, 1), (1, 1), (2, 1), (3, 1)][i]?) := by kernel_rfl
theorem ty_z87 : zeroT Try.prog 87 = some [.pointer none, .pointer none, .pointer none, .string ⟨#[]⟩] := by kernel_rfl
theorem ty_ag88 : aggT Try.prog 88 = some true := by kernel_rfl
theorem ty_sz88 : szT Try.prog 88 = some 4 := by kernel_rfl
theorem ty_int88 : intT Try.prog 88 = none := by kernel_rfl
theorem ty_ifc88 : ifaceT Try.prog 88 = false := by kernel_rfl
theorem ty_bool88 : boolT Try.prog 88 = false := by kernel_rfl
theorem ty_f88_0 : fieldT Try.prog 88 0 = some (0, 1, false) := by kernel_rfl
theorem ty_f88_1 : fieldT Try.prog 88 1 = some (1, 1, false) := by kernel_rfl
theorem ty_f88_2 : fieldT Try.prog 88 2 = some (2, 1, false) := by kernel_rfl
theorem ty_f88_3 : fieldT Try.prog 88 3 = some (3, 1, false) := by kernel_rfl
theorem ty_pl88 : placeT Try.prog 88 = some (fun i => #[(0, 1), (1, 1), (2, 1), (3, 1)][i]?) := by kernel_rfl
theorem ty_z88 : zeroT Try.prog 88 = some [.pointer none, .pointer none, .pointer none, .string ⟨#[]⟩] := by kernel_rfl
theorem ty_ag89 : aggT Try.prog 89 = some true := by kernel_rfl
theorem ty_sz89 : szT Try.prog 89 = some 0 := by kernel_rfl
theorem ty_int89 : intT Try.prog 89 = none := by kernel_rfl
theorem ty_ifc89 : ifaceT Try.prog 89 = false := by kernel_rfl
theorem ty_bool89 : boolT Try.prog 89 = false := by kernel_rfl
theorem ty_arr89 : arrT Try.prog 89 = some (0, 16, 1, false) := by kernel_rfl
theorem ty_pl89 : placeT Try.prog 89 = some (fun i => some (i * 1, 1)) := by kernel_rfl
theorem ty_z89 : zeroT Try.prog 89 = some [] := by kernel_rfl
theorem ty_ag90 : aggT Try.prog 90 = some true := by kernel_rfl
theorem ty_sz90 : szT Try.prog 90 = some 0 := by kernel_rfl
theorem ty_int90 : intT Try.prog 90 = none := by kernel_rfl
theorem ty_ifc90 : ifaceT Try.prog 90 = false := by kernel_rfl
theorem ty_bool90 : boolT Try.prog 90 = false := by kernel_rfl
theorem ty_pl90 : placeT Try.prog 90 = some (fun i => #[(0, 0)][i]?) := by kernel_rfl
theorem ty_z90 : zeroT Try.prog 90 = some [] := by kernel_rfl
theorem ty_ag91 : aggT Try.prog 91 = some true := by kernel_rfl
theorem ty_sz91 : szT Try.prog 91 = some 0 := by kernel_rfl
theorem ty_int91 : intT Try.prog 91 = none := by kernel_rfl
theorem ty_ifc91 : ifaceT Try.prog 91 = false := by kernel_rfl
theorem ty_bool91 : boolT Try.prog 91 = false := by kernel_rfl
theorem ty_pl91 : placeT Try.prog 91 = some (fun i => #[(0, 0)][i]?) := by kernel_rfl
theorem ty_z91 : zeroT Try.prog 91 = some [] := by kernel_rfl
theorem ty_ag92 : aggT Try.prog 92 = some false := by kernel_rfl
theorem ty_sz92 : szT Try.prog 92 = some 1 := by kernel_rfl
theorem ty_int92 : intT Try.prog 92 = none := by kernel_rfl
theorem ty_ifc92 : ifaceT Try.prog 92 = false := by kernel_rfl
theorem ty_bool92 : boolT Try.prog 92 = false := by kernel_rfl
theorem ty_z92 : zeroT Try.prog 92 = some [.nilFunc] := by kernel_rfl
theorem ty_ag93 : aggT Try.prog 93 = some false := by kernel_rfl
theorem ty_sz93 : szT Try.prog 93 = some 1 := by kernel_rfl
theorem ty_int93 : intT Try.prog 93 = some .u8 := by kernel_rfl
theorem ty_ifc93 : ifaceT Try.prog 93 = false := by kernel_rfl
theorem ty_bool93 : boolT Try.prog 93 = false := by kernel_rfl
theorem ty_z93 : zeroT Try.prog 93 = some [.int .u8 (0)] := by kernel_rfl
theorem ty_ag94 : aggT Try.prog 94 = some false := by kernel_rfl
theorem ty_sz94 : szT Try.prog 94 = some 1 := by kernel_rfl
theorem ty_int94 : intT Try.prog 94 = some .u8 := by kernel_rfl
theorem ty_ifc94 : ifaceT Try.prog 94 = false := by kernel_rfl
theorem ty_m94_0 : methA Try.prog 94 "String" = some 85 := by kernel_rfl
theorem ty_k94_0 : nilOk Try.prog 94 "String" = true := by kernel_rfl
theorem ty_bool94 : boolT Try.prog 94 = false := by kernel_rfl
theorem ty_z94 : zeroT Try.prog 94 = some [.int .u8 (0)] := by kernel_rfl
theorem ty_ag95 : aggT Try.prog 95 = some false := by kernel_rfl
theorem ty_sz95 : szT Try.prog 95 = some 1 := by kernel_rfl
theorem ty_int95 : intT Try.prog 95 = none := by kernel_rfl
theorem ty_ifc95 : ifaceT Try.prog 95 = false := by kernel_rfl
theorem ty_bool95 : boolT Try.prog 95 = false := by kernel_rfl
theorem ty_z95 : zeroT Try.prog 95 = some [.nilFunc] := by kernel_rfl
theorem ty_ag96 : aggT Try.prog 96 = some false := by kernel_rfl
theorem ty_sz96 : szT Try.prog 96 = some 1 := by kernel_rfl
theorem ty_int96 : intT Try.prog 96 = none := by kernel_rfl
theorem ty_ifc96 : ifaceT Try.prog 96 = false := by kernel_rfl
theorem ty_bool96 : boolT Try.prog 96 = false := by kernel_rfl
theorem ty_z96 : zeroT Try.prog 96 = some [.pointer none] := by kernel_rfl
theorem ty_ag97 : aggT Try.prog 97 = some false := by kernel_rfl
theorem ty_sz97 : szT Try.prog 97 = some 1 := by kernel_rfl
theorem ty_int97 : intT Try.prog 97 = some .i32 := by kernel_rfl
theorem ty_ifc97 : ifaceT Try.prog 97 = false := by kernel_rfl
theorem ty_bool97 : boolT Try.prog 97 = false := by kernel_rfl
theorem ty_z97 : zeroT Try.prog 97 = some [.int .i32 (0)] := by kernel_rfl
theorem ty_ag98 : aggT Try.prog 98 = some false := by kernel_rfl
theorem ty_sz98 : szT Try.prog 98 = some 1 := by kernel_rfl
theorem ty_int98 : intT Try.prog 98 = some .i32 := by kernel_rfl
theorem ty_ifc98 : ifaceT Try.prog 98 = false := by kernel_rfl
theorem ty_bool98 : boolT Try.prog 98 = false := by kernel_rfl
theorem ty_z98 : zeroT Try.prog 98 = some [.int .i32 (0)] := by kernel_rfl
theorem ty_ag99 : aggT Try.prog 99 = some true := by kernel_rfl
theorem ty_sz99 : szT Try.prog 99 = some 11 := by kernel_rfl
theorem ty_int99 : intT Try.prog 99 = none := by kernel_rfl
theorem ty_ifc99 : ifaceT Try.prog 99 = false := by kernel_rfl
theorem ty_bool99 : boolT Try.prog 99 = false := by kernel_rfl
theorem ty_f99_0 : fieldT Try.prog 99 0 = some (0, 1, false) := by kernel_rfl
theorem ty_f99_1 : fieldT Try.prog 99 1 = some (1, 1, false) := by kernel_rfl
theorem ty_f99_2 : fieldT Try.prog 99 2 = some (2, 1, false) := by kernel_rfl
theorem ty_f99_3 : fieldT Try.prog 99 3 = some (3, 1, false) := by kernel_rfl
theorem ty_f99_4 : fieldT Try.prog 99 4 = some (4, 1, false) := by kernel_rfl
theorem ty_f99_5 : fieldT Try.prog 99 5 = some (5, 1, false) := by kernel_rfl
theorem ty_f99_6 : fieldT Try.prog 99 6 = some (6, 1, false) := by kernel_rfl
theorem ty_f99_7 : fieldT Try.prog 99 7 = some (7, 1, false) := by kernel_rfl
theorem ty_f99_8 : fieldT Try.prog 99 8 = some (8, 1, false) := by kernel_rfl
theorem ty_f99_9 : fieldT Try.prog 99 9 = some (9, 1, false) := by kernel_rfl
theorem ty_f99_10 : fieldT Try.prog 99 10 = some (10, 1, false) := by kernel_rfl
theorem ty_pl99 : placeT Try.prog 99 = some (fun i => #[(0, 1), (1, 1), (2, 1), (3, 1), (4, 1), (5, 1), (6, 1), (7, 1), (8, 1), (9, 1), (10, 1)][i]?) := by kernel_rfl
theorem ty_z99 : zeroT Try.prog 99 = some [.int .u64 (0), .int .u64 (0), .int .u32 (0), .int .u8 (0), .int .u8 (0), .int .u8 (0), .int .u8 (0), .nilFunc, .pointer none, .int .i32 (0), .int .i32 (0)] := by kernel_rfl
theorem ty_ag100 : aggT Try.prog 100 = some true := by kernel_rfl
theorem ty_sz100 : szT Try.prog 100 = some 11 := by kernel_rfl
theorem ty_int100 : intT Try.prog 100 = none := by kernel_rfl
theorem ty_ifc100 : ifaceT Try.prog 100 = false := by kernel_rfl
theorem ty_bool100 : boolT Try.prog 100 = false := by kernel_rfl
theorem ty_f100_0 : fieldT Try.prog 100 0 = some (0, 1, false) := by kernel_rfl
theorem ty_f100_1 : fieldT Try.prog 100 1 = some (1, 1, false) := by kernel_rfl
theorem ty_f100_2 : fieldT Try.prog 100 2 = some (2, 1, false) := by kernel_rfl
theorem ty_f100_3 : fieldT Try.prog 100 3 = some (3, 1, false) := by kernel_rfl
theorem ty_f100_4 : fieldT Try.prog 100 4 = some (4, 1, false) := by kernel_rfl
theorem ty_f100_5 : fieldT Try.prog 100 5 = some (5, 1, false) := by kernel_rfl
theorem ty_f100_6 : fieldT Try.prog 100 6 = some (6, 1, false) := by kernel_rfl
theorem ty_f100_7 : fieldT Try.prog 100 7 = some (7, 1, false) := by kernel_rfl
theorem ty_f100_8 : fieldT Try.prog 100 8 = some (8, 1, false) := by kernel_rfl
theorem ty_f100_9 : fieldT Try.prog 100 9 = some (9, 1, false) := by kernel_rfl
theorem ty_f100_10 : fieldT Try.prog 100 10 = some (10, 1, false) := by kernel_rfl
theorem ty_pl100 : placeT Try.prog 100 = some (fun i => #[(0, 1), (1, 1), (2, 1), (3, 1), (4, 1), (5, 1), (6, 1), (7, 1), (8, 1), (9, 1), (10, 1)][i]?) := by kernel_rfl
theorem ty_z100 : zeroT Try.prog 100 = some [.int .u64 (0), .int .u64 (0), .int .u32 (0), .int .u8 (0), .int .u8 (0), .int .u8 (0), .int .u8 (0), .nilFunc, .pointer none, .int .i32 (0), .int .i32 (0)] := by kernel_rfl
theorem ty_mixed : Try.prog.follows .mixedOrders = true := by kernel_rfl
theorem isf2 : IsFn Try.prog 2 Try.f2 := ⟨Try.func2, by kernel_rfl, by kernel_rfl⟩
theorem fok2 : fnOk Try.f2 = true := by kernel_rfl
theorem isf3 : IsFn Try.prog 3 Try.f3 := ⟨Try.func3, by kernel_rfl, by kernel_rfl⟩
theorem fok3 : fnOk Try.f3 = true := by kernel_rfl
theorem isf4 : IsFn Try.prog 4 Try.f4 := ⟨Try.func4, by kernel_rfl, by kernel_rfl⟩
theorem fok4 : fnOk Try.f4 = true := by kernel_rfl
theorem isf5 : IsFn Try.prog 5 Try.f5 := ⟨Try.func5, by kernel_rfl, by kernel_rfl⟩
theorem fok5 : fnOk Try.f5 = true := by kernel_rfl
theorem isf6 : IsFn Try.prog 6 Try.f6 := ⟨Try.func6, by kernel_rfl, by kernel_rfl⟩
theorem fok6 : fnOk Try.f6 = true := by kernel_rfl
theorem isf7 : IsFn Try.prog 7 Try.f7 := ⟨Try.func7, by kernel_rfl, by kernel_rfl⟩
theorem fok7 : fnOk Try.f7 = true := by kernel_rfl
theorem isf8 : IsFn Try.prog 8 Try.f8 := ⟨Try.func8, by kernel_rfl, by kernel_rfl⟩
theorem fok8 : fnOk Try.f8 = true := by kernel_rfl
theorem isf9 : IsFn Try.prog 9 Try.f9 := ⟨Try.func9, by kernel_rfl, by kernel_rfl⟩
theorem fok9 : fnOk Try.f9 = true := by kernel_rfl
theorem isf10 : IsFn Try.prog 10 Try.f10 := ⟨Try.func10, by kernel_rfl, by kernel_rfl⟩
theorem fok10 : fnOk Try.f10 = true := by kernel_rfl
theorem isf11 : IsFn Try.prog 11 Try.f11 := ⟨Try.func11, by kernel_rfl, by kernel_rfl⟩
theorem fok11 : fnOk Try.f11 = true := by kernel_rfl
theorem isf12 : IsFn Try.prog 12 Try.f12 := ⟨Try.func12, by kernel_rfl, by kernel_rfl⟩
theorem fok12 : fnOk Try.f12 = true := by kernel_rfl
theorem isf13 : IsFn Try.prog 13 Try.f13 := ⟨Try.func13, by kernel_rfl, by kernel_rfl⟩
theorem fok13 : fnOk Try.f13 = true := by kernel_rfl
theorem isf14 : IsFn Try.prog 14 Try.f14 := ⟨Try.func14, by kernel_rfl, by kernel_rfl⟩
theorem fok14 : fnOk Try.f14 = true := by kernel_rfl
theorem isf15 : IsFn Try.prog 15 Try.f15 := ⟨Try.func15, by kernel_rfl, by kernel_rfl⟩
theorem fok15 : fnOk Try.f15 = true := by kernel_rfl
theorem isf16 : IsFn Try.prog 16 Try.f16 := ⟨Try.func16, by kernel_rfl, by kernel_rfl⟩
theorem fok16 : fnOk Try.f16 = true := by kernel_rfl
theorem isf17 : IsFn Try.prog 17 Try.f17 := ⟨Try.func17, by kernel_rfl, by kernel_rfl⟩
theorem fok17 : fnOk Try.f17 = true := by kernel_rfl
theorem isf18 : IsFn Try.prog 18 Try.f18 := ⟨Try.func18, by kernel_rfl, by kernel_rfl⟩
theorem fok18 : fnOk Try.f18 = true := by kernel_rfl
theorem isf19 : IsFn Try.prog 19 Try.f19 := ⟨Try.func19, by kernel_rfl, by kernel_rfl⟩
theorem fok19 : fnOk Try.f19 = true := by kernel_rfl
theorem isf20 : IsFn Try.prog 20 Try.f20 := ⟨Try.func20, by kernel_rfl, by kernel_rfl⟩
theorem fok20 : fnOk Try.f20 = true := by kernel_rfl
theorem isf21 : IsFn Try.prog 21 Try.f21 := ⟨Try.func21, by kernel_rfl, by kernel_rfl⟩
theorem fok21 : fnOk Try.f21 = true := by kernel_rfl
theorem isf22 : IsFn Try.prog 22 Try.f22 := ⟨Try.func22, by kernel_rfl, by kernel_rfl⟩
theorem fok22 : fnOk Try.f22 = true := by kernel_rfl
theorem isf23 : IsFn Try.prog 23 Try.f23 := ⟨Try.func23, by kernel_rfl, by kernel_rfl⟩
theorem fok23 : fnOk Try.f23 = true := by kernel_rfl
theorem isf24 : IsFn Try.prog 24 Try.f24 := ⟨Try.func24, by kernel_rfl, by kernel_rfl⟩
theorem fok24 : fnOk Try.f24 = true := by kernel_rfl
theorem isf25 : IsFn Try.prog 25 Try.f25 := ⟨Try.func25, by kernel_rfl, by kernel_rfl⟩
theorem fok25 : fnOk Try.f25 = true := by kernel_rfl
theorem isf26 : IsFn Try.prog 26 Try.f26 := ⟨Try.func26, by kernel_rfl, by kernel_rfl⟩
theorem fok26 : fnOk Try.f26 = true := by kernel_rfl
theorem isf27 : IsFn Try.prog 27 Try.f27 := ⟨Try.func27, by kernel_rfl, by kernel_rfl⟩
theorem fok27 : fnOk Try.f27 = true := by kernel_rfl
theorem isf28 : IsFn Try.prog 28 Try.f28 := ⟨Try.func28, by kernel_rfl, by kernel_rfl⟩
theorem fok28 : fnOk Try.f28 = true := by kernel_rfl
theorem isf29 : IsFn Try.prog 29 Try.f29 := ⟨Try.func29, by kernel_rfl, by kernel_rfl⟩
theorem fok29 : fnOk Try.f29 = true := by kernel_rfl
theorem isf30 : IsFn Try.prog 30 Try.f30 := ⟨Try.func30, by kernel_rfl, by kernel_rfl⟩
theorem fok30 : fnOk Try.f30 = true := by kernel_rfl
theorem isf31 : IsFn Try.prog 31 Try.f31 := ⟨Try.func31, by kernel_rfl, by kernel_rfl⟩
theorem fok31 : fnOk Try.f31 = true := by kernel_rfl
theorem isf32 : IsFn Try.prog 32 Try.f32 := ⟨Try.func32, by kernel_rfl, by kernel_rfl⟩
theorem fok32 : fnOk Try.f32 = true := by kernel_rfl
theorem isf33 : IsFn Try.prog 33 Try.f33 := ⟨Try.func33, by kernel_rfl, by kernel_rfl⟩
theorem fok33 : fnOk Try.f33 = true := by kernel_rfl
theorem isf34 : IsFn Try.prog 34 Try.f34 := ⟨Try.func34, by kernel_rfl, by kernel_rfl⟩
theorem fok34 : fnOk Try.f34 = true := by kernel_rfl
theorem isf35 : IsFn Try.prog 35 Try.f35 := ⟨Try.func35, by kernel_rfl, by kernel_rfl⟩
theorem fok35 : fnOk Try.f35 = true := by kernel_rfl
theorem isf36 : IsFn Try.prog 36 Try.f36 := ⟨Try.func36, by kernel_rfl, by kernel_rfl⟩
theorem fok36 : fnOk Try.f36 = true := by kernel_rfl
theorem isf37 : IsFn Try.prog 37 Try.f37 := ⟨Try.func37, by kernel_rfl, by kernel_rfl⟩
theorem fok37 : fnOk Try.f37 = true := by kernel_rfl
theorem isf38 : IsFn Try.prog 38 Try.f38 := ⟨Try.func38, by kernel_rfl, by kernel_rfl⟩
theorem fok38 : fnOk Try.f38 = true := by kernel_rfl
theorem isf39 : IsFn Try.prog 39 Try.f39 := ⟨Try.func39, by kernel_rfl, by kernel_rfl⟩
theorem fok39 : fnOk Try.f39 = true := by kernel_rfl
theorem isf40 : IsFn Try.prog 40 Try.f40 := ⟨Try.func40, by kernel_rfl, by kernel_rfl⟩
theorem fok40 : fnOk Try.f40 = true := by kernel_rfl
theorem isf41 : IsFn Try.prog 41 Try.f41 := ⟨Try.func41, by kernel_rfl, by kernel_rfl⟩
theorem fok41 : fnOk Try.f41 = true := by kernel_rfl
theorem isf42 : IsFn Try.prog 42 Try.f42 := ⟨Try.func42, by kernel_rfl, by kernel_rfl⟩
theorem fok42 : fnOk Try.f42 = true := by kernel_rfl
theorem isf43 : IsFn Try.prog 43 Try.f43 := ⟨Try.func43, by kernel_rfl, by kernel_rfl⟩
theorem fok43 : fnOk Try.f43 = true := by kernel_rfl
theorem isf44 : IsFn Try.prog 44 Try.f44 := ⟨Try.func44, by kernel_rfl, by kernel_rfl⟩
theorem fok44 : fnOk Try.f44 = true := by kernel_rfl
theorem isf45 : IsFn Try.prog 45 Try.f45 := ⟨Try.func45, by kernel_rfl, by kernel_rfl⟩
theorem fok45 : fnOk Try.f45 = true := by kernel_rfl
theorem isf46 : IsFn Try.prog 46 Try.f46 := ⟨Try.func46, by kernel_rfl, by kernel_rfl⟩
theorem fok46 : fnOk Try.f46 = true := by kernel_rfl
theorem isf47 : IsFn Try.prog 47 Try.f47 := ⟨Try.func47, by kernel_rfl, by kernel_rfl⟩
theorem fok47 : fnOk Try.f47 = true := by kernel_rfl
theorem isf48 : IsFn Try.prog 48 Try.f48 := ⟨Try.func48, by kernel_rfl, by kernel_rfl⟩
theorem fok48 : fnOk Try.f48 = true := by kernel_rfl
theorem isf49 : IsFn Try.prog 49 Try.f49 := ⟨Try.func49, by kernel_rfl, by kernel_rfl⟩
theorem fok49 : fnOk Try.f49 = true := by kernel_rfl
theorem isf50 : IsFn Try.prog 50 Try.f50 := ⟨Try.func50, by kernel_rfl, by kernel_rfl⟩
theorem fok50 : fnOk Try.f50 = true := by kernel_rfl
theorem isf51 : IsFn Try.prog 51 Try.f51 := ⟨Try.func51, by kernel_rfl, by kernel_rfl⟩
theorem fok51 : fnOk Try.f51 = true := by kernel_rfl
theorem isf52 : IsFn Try.prog 52 Try.f52 := ⟨Try.func52, by kernel_rfl, by kernel_rfl⟩
theorem fok52 : fnOk Try.f52 = true := by kernel_rfl
theorem isf53 : IsFn Try.prog 53 Try.f53 := ⟨Try.func53, by kernel_rfl, by kernel_rfl⟩
theorem fok53 : fnOk Try.f53 = true := by kernel_rfl
theorem isf54 : IsFn Try.prog 54 Try.f54 := ⟨Try.func54, by kernel_rfl, by kernel_rfl⟩
theorem fok54 : fnOk Try.f54 = true := by kernel_rfl
theorem isf55 : IsFn Try.prog 55 Try.f55 := ⟨Try.func55, by kernel_rfl, by kernel_rfl⟩
theorem fok55 : fnOk Try.f55 = true := by kernel_rfl
theorem isf56 : IsFn Try.prog 56 Try.f56 := ⟨Try.func56, by kernel_rfl, by kernel_rfl⟩
theorem fok56 : fnOk Try.f56 = true := by kernel_rfl
theorem isf57 : IsFn Try.prog 57 Try.f57 := ⟨Try.func57, by kernel_rfl, by kernel_rfl⟩
theorem fok57 : fnOk Try.f57 = true := by kernel_rfl
theorem isf58 : IsFn Try.prog 58 Try.f58 := ⟨Try.func58, by kernel_rfl, by kernel_rfl⟩
theorem fok58 : fnOk Try.f58 = true := by kernel_rfl
theorem isf59 : IsFn Try.prog 59 Try.f59 := ⟨Try.func59, by kernel_rfl, by kernel_rfl⟩
theorem fok59 : fnOk Try.f59 = true := by kernel_rfl
theorem isf60 : IsFn Try.prog 60 Try.f60 := ⟨Try.func60, by kernel_rfl, by kernel_rfl⟩
theorem fok60 : fnOk Try.f60 = true := by kernel_rfl
theorem isf61 : IsFn Try.prog 61 Try.f61 := ⟨Try.func61, by kernel_rfl, by kernel_rfl⟩
theorem fok61 : fnOk Try.f61 = true := by kernel_rfl
theorem isf62 : IsFn Try.prog 62 Try.f62 := ⟨Try.func62, by kernel_rfl, by kernel_rfl⟩
theorem fok62 : fnOk Try.f62 = true := by kernel_rfl
theorem isf63 : IsFn Try.prog 63 Try.f63 := ⟨Try.func63, by kernel_rfl, by kernel_rfl⟩
theorem fok63 : fnOk Try.f63 = true := by kernel_rfl
theorem isf64 : IsFn Try.prog 64 Try.f64 := ⟨Try.func64, by kernel_rfl, by kernel_rfl⟩
theorem fok64 : fnOk Try.f64 = true := by kernel_rfl
theorem isf65 : IsFn Try.prog 65 Try.f65 := ⟨Try.func65, by kernel_rfl, by kernel_rfl⟩
theorem fok65 : fnOk Try.f65 = true := by kernel_rfl
theorem isf66 : IsFn Try.prog 66 Try.f66 := ⟨Try.func66, by kernel_rfl, by kernel_rfl⟩
theorem fok66 : fnOk Try.f66 = true := by kernel_rfl
theorem isf67 : IsFn Try.prog 67 Try.f67 := ⟨Try.func67, by kernel_rfl, by kernel_rfl⟩
theorem fok67 : fnOk Try.f67 = true := by kernel_rfl
theorem isf68 : IsFn Try.prog 68 Try.f68 := ⟨Try.func68, by kernel_rfl, by kernel_rfl⟩
theorem fok68 : fnOk Try.f68 = true := by kernel_rfl
theorem isf69 : IsFn Try.prog 69 Try.f69 := ⟨Try.func69, by kernel_rfl, by kernel_rfl⟩
theorem fok69 : fnOk Try.f69 = true := by kernel_rfl

attribute [push_cast] ty_ag1 ty_sz1 ty_int1 ty_ifc1 ty_bool1 ty_z1 Try.underlying1 ty_ag2 ty_sz2 ty_int2 ty_ifc2 ty_bool2 ty_z2 Try.underlying2 ty_ag3 ty_sz3 ty_int3 ty_ifc3 ty_bool3 ty_z3 Try.underlying3 ty_ag4 ty_sz4 ty_int4 ty_ifc4 ty_bool4 ty_z4 Try.underlying4 ty_ag5 ty_sz5 ty_int5 ty_ifc5 ty_bool5 ty_z5 Try.underlying5 ty_ag6 ty_sz6 ty_int6 ty_ifc6 ty_bool6 ty_z6 Try.underlying6 ty_ag7 ty_sz7 ty_int7 ty_eq7 ty_ifc7 ty_bool7 ty_f7_0 ty_f7_1 ty_f7_2 ty_f7_3 ty_pl7 ty_z7 Try.underlying7 ty_ag8 ty_sz8 ty_int8 ty_eq8 ty_ifc8 ty_m8_0 ty_k8_0 ty_m8_1 ty_k8_1 ty_bool8 ty_f8_0 ty_f8_1 ty_f8_2 ty_f8_3 ty_pl8 ty_z8 Try.underlying8 ty_ag9 ty_sz9 ty_int9 ty_ifc9 ty_bool9 ty_z9 Try.underlying9 ty_ag10 ty_sz10 ty_int10 ty_ifc10 ty_m10_0 ty_k10_0 ty_m10_1 ty_k10_1 ty_bool10 ty_z10 Try.underlying10 ty_ag11 ty_sz11 ty_int11 ty_ifc11 ty_m11_0 ty_k11_0 ty_m11_1 ty_k11_1 ty_bool11 ty_z11 Try.underlying11 ty_ag12 ty_sz12 ty_int12 ty_ifc12 ty_bool12 ty_z12 Try.underlying12 ty_ag13 ty_sz13 ty_int13 ty_ifc13 ty_bool13 ty_f13_0 ty_f13_1 ty_pl13 ty_z13 Try.underlying13 ty_ag14 ty_sz14 ty_int14 ty_ifc14 ty_m14_0 ty_k14_0 ty_m14_1 ty_k14_1 ty_bool14 ty_f14_0 ty_f14_1 ty_pl14 ty_z14 Try.underlying14 ty_ag15 ty_sz15 ty_int15 ty_ifc15 ty_m15_0 ty_k15_0 ty_m15_1 ty_k15_1 ty_bool15 ty_z15 Try.underlying15 ty_ag16 ty_sz16 ty_int16 ty_ifc16 ty_m16_0 ty_k16_0 ty_m16_1 ty_k16_1 ty_bool16 ty_z16 Try.underlying16 ty_ag17 ty_sz17 ty_int17 ty_ifc17 ty_m17_0 ty_k17_0 ty_bool17 ty_z17 Try.underlying17 ty_ag18 ty_sz18 ty_int18 ty_ifc18 ty_bool18 ty_f18_0 ty_pl18 ty_z18 Try.underlying18 ty_ag19 ty_sz19 ty_int19 ty_ifc19 ty_m19_0 ty_k19_0 ty_m19_1 ty_k19_1 ty_bool19 ty_f19_0 ty_pl19 ty_z19 Try.underlying19 ty_ag20 ty_sz20 ty_int20 ty_ifc20 ty_bool20 ty_z20 ty_ag21 ty_sz21 ty_int21 ty_ifc21 ty_bool21 ty_z21 Try.underlying21 ty_ag22 ty_sz22 ty_int22 ty_ifc22 ty_bool22 ty_z22 Try.underlying22 ty_ag23 ty_sz23 ty_int23 ty_ifc23 ty_bool23 ty_z23 Try.underlying23 ty_ag25 ty_sz25 ty_int25 ty_ifc25 ty_bool25 ty_z25 Try.underlying25 ty_ag27 ty_sz27 ty_int27 ty_ifc27 ty_bool27 ty_z27 Try.underlying27 ty_ag28 ty_sz28 ty_int28 ty_ifc28 ty_bool28 ty_z28 Try.underlying28 ty_ag29 ty_sz29 ty_int29 ty_ifc29 ty_bool29 ty_z29 Try.underlying29 ty_ag30 ty_sz30 ty_int30 ty_ifc30 ty_bool30 ty_z30 Try.underlying30 ty_ag31 ty_sz31 ty_int31 ty_ifc31 ty_bool31 ty_z31 Try.underlying31 ty_ag32 ty_sz32 ty_int32 ty_ifc32 ty_bool32 ty_z32 Try.underlying32 ty_ag33 ty_sz33 ty_int33 ty_ifc33 ty_bool33 ty_elem33 ty_app33 ty_z33 Try.underlying33 ty_ag34 ty_sz34 ty_int34 ty_ifc34 ty_bool34 ty_z34 Try.underlying34 ty_ag35 ty_sz35 ty_int35 ty_ifc35 ty_bool35 ty_z35 Try.underlying35 ty_ag37 ty_sz37 ty_int37 ty_ifc37 ty_bool37 ty_z37 Try.underlying37 ty_ag38 ty_sz38 ty_int38 ty_ifc38 ty_bool38 ty_z38 Try.underlying38 ty_ag39 ty_sz39 ty_int39 ty_ifc39 ty_bool39 ty_z39 Try.underlying39 ty_ag40 ty_sz40 ty_int40 ty_ifc40 ty_bool40 ty_z40 Try.underlying40 ty_ag41 ty_sz41 ty_int41 ty_ifc41 ty_bool41 ty_arr41 ty_pl41 ty_z41 ty_ag42 ty_sz42 ty_int42 ty_ifc42 ty_bool42 ty_f42_0 ty_f42_1 ty_f42_2 ty_f42_3 ty_pl42 ty_z42 Try.underlying42 ty_ag43 ty_sz43 ty_int43 ty_ifc43 ty_bool43 ty_f43_0 ty_f43_1 ty_f43_2 ty_f43_3 ty_pl43 ty_z43 Try.underlying43 ty_ag44 ty_sz44 ty_int44 ty_ifc44 ty_bool44 ty_z44 Try.underlying44 ty_ag45 ty_sz45 ty_int45 ty_ifc45 ty_bool45 ty_elem45 ty_app45 ty_z45 Try.underlying45 ty_ag46 ty_sz46 ty_int46 ty_ifc46 ty_bool46 ty_f46_0 ty_f46_1 ty_pl46 ty_z46 Try.underlying46 ty_ag47 ty_sz47 ty_int47 ty_ifc47 ty_bool47 ty_f47_0 ty_f47_1 ty_pl47 ty_z47 Try.underlying47 ty_ag48 ty_sz48 ty_int48 ty_ifc48 ty_bool48 ty_z48 Try.underlying48 ty_ag49 ty_sz49 ty_int49 ty_ifc49 ty_bool49 ty_z49 Try.underlying49 ty_ag50 ty_sz50 ty_int50 ty_ifc50 ty_bool50 ty_z50 Try.underlying50 ty_ag52 ty_sz52 ty_int52 ty_ifc52 ty_bool52 ty_z52 Try.underlying52 ty_ag53 ty_sz53 ty_int53 ty_ifc53 ty_bool53 ty_elem53 ty_app53 ty_z53 Try.underlying53 ty_ag55 ty_sz55 ty_int55 ty_ifc55 ty_bool55 ty_z55 Try.underlying55 ty_ag56 ty_sz56 ty_int56 ty_ifc56 ty_bool56 ty_z56 Try.underlying56 ty_ag57 ty_sz57 ty_int57 ty_ifc57 ty_bool57 ty_z57 Try.underlying57 ty_ag58 ty_sz58 ty_int58 ty_ifc58 ty_bool58 ty_z58 Try.underlying58 ty_ag59 ty_sz59 ty_int59 ty_ifc59 ty_bool59 ty_z59 Try.underlying59 ty_ag61 ty_sz61 ty_int61 ty_ifc61 ty_bool61 ty_z61 Try.underlying61 ty_ag62 ty_sz62 ty_int62 ty_ifc62 ty_bool62 ty_z62 Try.underlying62 ty_ag63 ty_sz63 ty_int63 ty_ifc63 ty_bool63 ty_z63 Try.underlying63 ty_ag64 ty_sz64 ty_int64 ty_ifc64 ty_bool64 ty_elem64 ty_app64 ty_z64 Try.underlying64 ty_ag65 ty_sz65 ty_int65 ty_ifc65 ty_bool65 ty_f65_0 ty_f65_1 ty_f65_2 ty_f65_3 ty_f65_4 ty_pl65 ty_z65 Try.underlying65 ty_ag66 ty_sz66 ty_int66 ty_ifc66 ty_bool66 ty_f66_0 ty_f66_1 ty_f66_2 ty_f66_3 ty_f66_4 ty_pl66 ty_z66 Try.underlying66 ty_ag68 ty_sz68 ty_int68 ty_ifc68 ty_bool68 ty_z68 Try.underlying68 ty_ag69 ty_sz69 ty_int69 ty_ifc69 ty_bool69 ty_z69 Try.underlying69 ty_ag70 ty_sz70 ty_int70 ty_ifc70 ty_bool70 ty_z70 Try.underlying70 ty_ag71 ty_sz71 ty_int71 ty_ifc71 ty_bool71 ty_z71 Try.underlying71 ty_ag72 ty_sz72 ty_int72 ty_ifc72 ty_bool72 ty_z72 Try.underlying72 ty_ag73 ty_sz73 ty_int73 ty_ifc73 ty_bool73 ty_z73 Try.underlying73 ty_ag74 ty_sz74 ty_int74 ty_ifc74 ty_bool74 ty_z74 Try.underlying74 ty_ag75 ty_sz75 ty_int75 ty_ifc75 ty_bool75 ty_z75 Try.underlying75 ty_ag76 ty_sz76 ty_int76 ty_ifc76 ty_bool76 ty_arr76 ty_pl76 ty_z76 ty_ag77 ty_sz77 ty_int77 ty_ifc77 ty_bool77 ty_z77 Try.underlying77 ty_ag78 ty_sz78 ty_int78 ty_ifc78 ty_bool78 ty_z78 Try.underlying78 ty_ag79 ty_sz79 ty_int79 ty_ifc79 ty_bool79 ty_arr79 ty_pl79 ty_z79 ty_ag80 ty_sz80 ty_int80 ty_ifc80 ty_bool80 ty_z80 Try.underlying80 ty_ag81 ty_sz81 ty_int81 ty_ifc81 ty_bool81 ty_z81 Try.underlying81 ty_ag82 ty_sz82 ty_int82 ty_ifc82 ty_bool82 ty_z82 Try.underlying82 ty_ag83 ty_sz83 ty_int83 ty_ifc83 ty_bool83 ty_z83 Try.underlying83 ty_ag84 ty_sz84 ty_int84 ty_ifc84 ty_bool84 ty_z84 Try.underlying84 ty_ag85 ty_sz85 ty_int85 ty_ifc85 ty_bool85 ty_z85 Try.underlying85 ty_ag86 ty_sz86 ty_int86 ty_ifc86 ty_bool86 ty_z86 Try.underlying86 ty_ag87 ty_sz87 ty_int87 ty_ifc87 ty_bool87 ty_f87_0 ty_f87_1 ty_f87_2 ty_f87_3 ty_pl87 ty_z87 Try.underlying87 ty_ag88 ty_sz88 ty_int88 ty_ifc88 ty_bool88 ty_f88_0 ty_f88_1 ty_f88_2 ty_f88_3 ty_pl88 ty_z88 Try.underlying88 ty_ag89 ty_sz89 ty_int89 ty_ifc89 ty_bool89 ty_arr89 ty_pl89 ty_z89 ty_ag90 ty_sz90 ty_int90 ty_ifc90 ty_bool90 ty_pl90 ty_z90 Try.underlying90 ty_ag91 ty_sz91 ty_int91 ty_ifc91 ty_bool91 ty_pl91 ty_z91 Try.underlying91 ty_ag92 ty_sz92 ty_int92 ty_ifc92 ty_bool92 ty_z92 Try.underlying92 ty_ag93 ty_sz93 ty_int93 ty_ifc93 ty_bool93 ty_z93 Try.underlying93 ty_ag94 ty_sz94 ty_int94 ty_ifc94 ty_m94_0 ty_k94_0 ty_bool94 ty_z94 Try.underlying94 ty_ag95 ty_sz95 ty_int95 ty_ifc95 ty_bool95 ty_z95 Try.underlying95 ty_ag96 ty_sz96 ty_int96 ty_ifc96 ty_bool96 ty_z96 Try.underlying96 ty_ag97 ty_sz97 ty_int97 ty_ifc97 ty_bool97 ty_z97 Try.underlying97 ty_ag98 ty_sz98 ty_int98 ty_ifc98 ty_bool98 ty_z98 Try.underlying98 ty_ag99 ty_sz99 ty_int99 ty_ifc99 ty_bool99 ty_f99_0 ty_f99_1 ty_f99_2 ty_f99_3 ty_f99_4 ty_f99_5 ty_f99_6 ty_f99_7 ty_f99_8 ty_f99_9 ty_f99_10 ty_pl99 ty_z99 Try.underlying99 ty_ag100 ty_sz100 ty_int100 ty_ifc100 ty_bool100 ty_f100_0 ty_f100_1 ty_f100_2 ty_f100_3 ty_f100_4 ty_f100_5 ty_f100_6 ty_f100_7 ty_f100_8 ty_f100_9 ty_f100_10 ty_pl100 ty_z100 Try.underlying100 Try.params2 fok2 Try.func2 Try.params3 fok3 Try.func3 Try.params4 fok4 Try.func4 Try.params5 fok5 Try.func5 Try.params6 fok6 Try.func6 Try.params7 fok7 Try.func7 Try.params8 fok8 Try.func8 Try.params9 fok9 Try.func9 Try.params10 fok10 Try.func10 Try.params11 fok11 Try.func11 Try.params12 fok12 Try.func12 Try.params13 fok13 Try.func13 Try.params14 fok14 Try.func14 Try.params15 fok15 Try.func15 Try.params16 fok16 Try.func16 Try.params17 fok17 Try.func17 Try.params18 fok18 Try.func18 Try.params19 fok19 Try.func19 Try.params20 fok20 Try.func20 Try.params21 fok21 Try.func21 Try.params22 fok22 Try.func22 Try.params23 fok23 Try.func23 Try.params24 fok24 Try.func24 Try.params25 fok25 Try.func25 Try.params26 fok26 Try.func26 Try.params27 fok27 Try.func27 Try.params28 fok28 Try.func28 Try.params29 fok29 Try.func29 Try.params30 fok30 Try.func30 Try.params31 fok31 Try.func31 Try.params32 fok32 Try.func32 Try.params33 fok33 Try.func33 Try.params34 fok34 Try.func34 Try.params35 fok35 Try.func35 Try.params36 fok36 Try.func36 Try.params37 fok37 Try.func37 Try.params38 fok38 Try.func38 Try.params39 fok39 Try.func39 Try.params40 fok40 Try.func40 Try.params41 fok41 Try.func41 Try.params42 fok42 Try.func42 Try.params43 fok43 Try.func43 Try.params44 fok44 Try.func44 Try.params45 fok45 Try.func45 Try.params46 fok46 Try.func46 Try.params47 fok47 Try.func47 Try.params48 fok48 Try.func48 Try.params49 fok49 Try.func49 Try.params50 fok50 Try.func50 Try.params51 fok51 Try.func51 Try.params52 fok52 Try.func52 Try.params53 fok53 Try.func53 Try.params54 fok54 Try.func54 Try.params55 fok55 Try.func55 Try.params56 fok56 Try.func56 Try.params57 fok57 Try.func57 Try.params58 fok58 Try.func58 Try.params59 fok59 Try.func59 Try.params60 fok60 Try.func60 Try.params61 fok61 Try.func61 Try.params62 fok62 Try.func62 Try.params63 fok63 Try.func63 Try.params64 fok64 Try.func64 Try.params65 fok65 Try.func65 Try.params66 fok66 Try.func66 Try.params67 fok67 Try.func67 Try.params68 fok68 Try.func68 Try.params69 fok69 Try.func69

end Go.Proofs.Ytolmhlikmjkkfaa
