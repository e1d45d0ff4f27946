/-
  The types of this seat, as the abstract view asks for them.
  Conditions: none.
-/
import Derived.Test.YtngghkoghbpceaaProg
import Derived.Test.YtngghkoghbpceaaKC2
import Derived.KernelRfl
namespace Go.Proofs.Ytngghkoghbpceaa
set_option linter.unusedVariables false
theorem ty_ag3:aggT Try.prog 3=some false:=by kernel_rfl
theorem ty_sz3:szT Try.prog 3=some 1:=by kernel_rfl
theorem ty_int3:intT Try.prog 3=some .i64:=by kernel_rfl
theorem ty_ifc3:ifaceT Try.prog 3=false:=by kernel_rfl
theorem ty_bool3:boolT Try.prog 3=false:=by kernel_rfl
theorem ty_z3:zeroT Try.prog 3=some [.int .i64 (0)]:=by kernel_rfl
theorem ty_ag4:aggT Try.prog 4=some false:=by kernel_rfl
theorem ty_sz4:szT Try.prog 4=some 1:=by kernel_rfl
theorem ty_int4:intT Try.prog 4=none:=by kernel_rfl
theorem ty_ifc4:ifaceT Try.prog 4=false:=by kernel_rfl
theorem ty_bool4:boolT Try.prog 4=true:=by kernel_rfl
theorem ty_z4:zeroT Try.prog 4=some [.bool false]:=by kernel_rfl
theorem ty_ag5:aggT Try.prog 5=some false:=by kernel_rfl
theorem ty_sz5:szT Try.prog 5=some 1:=by kernel_rfl
theorem ty_int5:intT Try.prog 5=some .u8:=by kernel_rfl
theorem ty_ifc5:ifaceT Try.prog 5=false:=by kernel_rfl
theorem ty_bool5:boolT Try.prog 5=false:=by kernel_rfl
theorem ty_z5:zeroT Try.prog 5=some [.int .u8 (0)]:=by kernel_rfl
theorem ty_ag9:aggT Try.prog 9=some false:=by kernel_rfl
theorem ty_sz9:szT Try.prog 9=some 1:=by kernel_rfl
theorem ty_int9:intT Try.prog 9=none:=by kernel_rfl
theorem ty_ifc9:ifaceT Try.prog 9=false:=by kernel_rfl
theorem ty_bool9:boolT Try.prog 9=false:=by kernel_rfl
theorem ty_z9:zeroT Try.prog 9=some [.string ⟨#[]⟩]:=by kernel_rfl
theorem ty_ag23:aggT Try.prog 23=some false:=by kernel_rfl
theorem ty_sz23:szT Try.prog 23=some 1:=by kernel_rfl
theorem ty_int23:intT Try.prog 23=none:=by kernel_rfl
theorem ty_ifc23:ifaceT Try.prog 23=false:=by kernel_rfl
theorem ty_bool23:boolT Try.prog 23=false:=by kernel_rfl
theorem ty_elem23:elemT Try.prog 23=some (5,1,false):=by kernel_rfl
theorem ty_app23:appT Try.prog 23=some (5,1,1):=by kernel_rfl
theorem ty_z23:zeroT Try.prog 23=some [.slice none 0 0]:=by kernel_rfl
theorem ty_ag106:aggT Try.prog 106=some false:=by kernel_rfl
theorem ty_sz106:szT Try.prog 106=some 1:=by kernel_rfl
theorem ty_int106:intT Try.prog 106=none:=by kernel_rfl
theorem ty_ifc106:ifaceT Try.prog 106=false:=by kernel_rfl
theorem ty_bool106:boolT Try.prog 106=false:=by kernel_rfl
theorem ty_elem106:elemT Try.prog 106=some (128,1,false):=by kernel_rfl
theorem ty_app106:appT Try.prog 106=some (128,1,1):=by kernel_rfl
theorem ty_z106:zeroT Try.prog 106=some [.slice none 0 0]:=by kernel_rfl
theorem ty_ag128:aggT Try.prog 128=some false:=by kernel_rfl
theorem ty_sz128:szT Try.prog 128=some 1:=by kernel_rfl
theorem ty_int128:intT Try.prog 128=some .u8:=by kernel_rfl
theorem ty_ifc128:ifaceT Try.prog 128=false:=by kernel_rfl
theorem ty_bool128:boolT Try.prog 128=false:=by kernel_rfl
theorem ty_z128:zeroT Try.prog 128=some [.int .u8 (0)]:=by kernel_rfl
theorem tyx:Try.prog.follows .mixedOrders=true:=by kernel_rfl
theorem fok69:fnOk Try.f69=true:=by kernel_rfl
theorem fok89:fnOk Try.f89=true:=by kernel_rfl
attribute [push_cast] ty_ag3 ty_sz3 ty_int3 ty_ifc3 ty_bool3 ty_z3 Try.underlying3 ty_ag4 ty_sz4 ty_int4 ty_ifc4 ty_bool4 ty_z4 Try.underlying4 ty_ag5 ty_sz5 ty_int5 ty_ifc5 ty_bool5 ty_z5 Try.underlying5 ty_ag9 ty_sz9 ty_int9 ty_ifc9 ty_bool9 ty_z9 Try.underlying9 ty_ag23 ty_sz23 ty_int23 ty_ifc23 ty_bool23 ty_elem23 ty_app23 ty_z23 Try.underlying23 ty_ag106 ty_sz106 ty_int106 ty_ifc106 ty_bool106 ty_elem106 ty_app106 ty_z106 Try.underlying106 ty_ag128 ty_sz128 ty_int128 ty_ifc128 ty_bool128 ty_z128 Try.underlying128 Try.params69 fok69 Try.func69 Try.params89 fok89 Try.func89
end Go.Proofs.Ytngghkoghbpceaa
