/-
  The types of this seat, as the abstract view asks for them.
  Conditions: none.
-/
import Derived.Test.YtngghkoghbpceaaDoorProg
import Derived.Test.YtngghkoghbpceaaDoorKC2
import Derived.KernelRfl
namespace Go.Proofs.YtngghkoghbpceaaDoor
set_option linter.unusedVariables false
theorem ty_ag3:aggT Tryd.prog 3=some false:=by kernel_rfl
theorem ty_sz3:szT Tryd.prog 3=some 1:=by kernel_rfl
theorem ty_int3:intT Tryd.prog 3=some .i64:=by kernel_rfl
theorem ty_ifc3:ifaceT Tryd.prog 3=false:=by kernel_rfl
theorem ty_bool3:boolT Tryd.prog 3=false:=by kernel_rfl
theorem ty_z3:zeroT Tryd.prog 3=some [.int .i64 (0)]:=by kernel_rfl
theorem ty_ag4:aggT Tryd.prog 4=some false:=by kernel_rfl
theorem ty_sz4:szT Tryd.prog 4=some 1:=by kernel_rfl
theorem ty_int4:intT Tryd.prog 4=none:=by kernel_rfl
theorem ty_ifc4:ifaceT Tryd.prog 4=false:=by kernel_rfl
theorem ty_bool4:boolT Tryd.prog 4=true:=by kernel_rfl
theorem ty_z4:zeroT Tryd.prog 4=some [.bool false]:=by kernel_rfl
theorem ty_ag5:aggT Tryd.prog 5=some false:=by kernel_rfl
theorem ty_sz5:szT Tryd.prog 5=some 1:=by kernel_rfl
theorem ty_int5:intT Tryd.prog 5=some .u8:=by kernel_rfl
theorem ty_ifc5:ifaceT Tryd.prog 5=false:=by kernel_rfl
theorem ty_bool5:boolT Tryd.prog 5=false:=by kernel_rfl
theorem ty_z5:zeroT Tryd.prog 5=some [.int .u8 (0)]:=by kernel_rfl
theorem ty_ag9:aggT Tryd.prog 9=some false:=by kernel_rfl
theorem ty_sz9:szT Tryd.prog 9=some 1:=by kernel_rfl
theorem ty_int9:intT Tryd.prog 9=none:=by kernel_rfl
theorem ty_ifc9:ifaceT Tryd.prog 9=false:=by kernel_rfl
theorem ty_bool9:boolT Tryd.prog 9=false:=by kernel_rfl
theorem ty_z9:zeroT Tryd.prog 9=some [.string ⟨#[]⟩]:=by kernel_rfl
theorem ty_ag55:aggT Tryd.prog 55=some false:=by kernel_rfl
theorem ty_sz55:szT Tryd.prog 55=some 1:=by kernel_rfl
theorem ty_int55:intT Tryd.prog 55=none:=by kernel_rfl
theorem ty_ifc55:ifaceT Tryd.prog 55=false:=by kernel_rfl
theorem ty_bool55:boolT Tryd.prog 55=false:=by kernel_rfl
theorem ty_elem55:elemT Tryd.prog 55=some (5,1,false):=by kernel_rfl
theorem ty_app55:appT Tryd.prog 55=some (5,1,1):=by kernel_rfl
theorem ty_z55:zeroT Tryd.prog 55=some [.slice none 0 0]:=by kernel_rfl
theorem ty_ag91:aggT Tryd.prog 91=some false:=by kernel_rfl
theorem ty_sz91:szT Tryd.prog 91=some 1:=by kernel_rfl
theorem ty_int91:intT Tryd.prog 91=some .u8:=by kernel_rfl
theorem ty_ifc91:ifaceT Tryd.prog 91=false:=by kernel_rfl
theorem ty_bool91:boolT Tryd.prog 91=false:=by kernel_rfl
theorem ty_z91:zeroT Tryd.prog 91=some [.int .u8 (0)]:=by kernel_rfl
theorem ty_ag183:aggT Tryd.prog 183=some false:=by kernel_rfl
theorem ty_sz183:szT Tryd.prog 183=some 1:=by kernel_rfl
theorem ty_int183:intT Tryd.prog 183=none:=by kernel_rfl
theorem ty_ifc183:ifaceT Tryd.prog 183=false:=by kernel_rfl
theorem ty_bool183:boolT Tryd.prog 183=false:=by kernel_rfl
theorem ty_elem183:elemT Tryd.prog 183=some (91,1,false):=by kernel_rfl
theorem ty_app183:appT Tryd.prog 183=some (91,1,1):=by kernel_rfl
theorem ty_z183:zeroT Tryd.prog 183=some [.slice none 0 0]:=by kernel_rfl
theorem ty_mixed:Tryd.prog.follows .mixedOrders=true:=by kernel_rfl
theorem fok110:fnOk Tryd.f110=true:=by kernel_rfl
theorem fok171:fnOk Tryd.f171=true:=by kernel_rfl
attribute [push_cast] ty_ag3 ty_sz3 ty_int3 ty_ifc3 ty_bool3 ty_z3 Tryd.underlying3 ty_ag4 ty_sz4 ty_int4 ty_ifc4 ty_bool4 ty_z4 Tryd.underlying4 ty_ag5 ty_sz5 ty_int5 ty_ifc5 ty_bool5 ty_z5 Tryd.underlying5 ty_ag9 ty_sz9 ty_int9 ty_ifc9 ty_bool9 ty_z9 Tryd.underlying9 ty_ag55 ty_sz55 ty_int55 ty_ifc55 ty_bool55 ty_elem55 ty_app55 ty_z55 Tryd.underlying55 ty_ag91 ty_sz91 ty_int91 ty_ifc91 ty_bool91 ty_z91 Tryd.underlying91 ty_ag183 ty_sz183 ty_int183 ty_ifc183 ty_bool183 ty_elem183 ty_app183 ty_z183 Tryd.underlying183 Tryd.params110 fok110 Tryd.func110 Tryd.params171 fok171 Tryd.func171
end Go.Proofs.YtngghkoghbpceaaDoor
