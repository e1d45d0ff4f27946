/-
  Closed calls of the examples, reckoned out one by one.
  Conditions: none.
-/
import Derived.Test.YtngghkoghbpceaaN8L
namespace Go.Proofs.Ytngghkoghbpceaa
set_option linter.unusedVariables false
set_option maxRecDepth 100000
def do82x0_con(m:Nat):Con:=clCon [e10,e15,(.agg [e9,e12,e9,e5,e3,e8,e6])] [e1,e26] (.tup [(.agg [(.d (.v (.int .u8 3))),e6]),(.row e2 [(9,(9,(0,(0,(0,(0,(false,(false,(0,([],(true,(0,())))))))))))),(14,(0,(0,(0,(0,(0,(false,(false,(0,([],(false,(0,()))))))))))))] (some 2))]) [e1,e25]
theorem do82x0_ok(m:Nat):ConOk Try.prog 13 (do82x0_con m):=
 con_ok tyx (lives8_tabok m) (fl:=fl8L) (N:=300) (t:= .leaf) (trO trivial) (fun x b=>by kernel_rfl)
def do82x1_con(m:Nat):Con:=clCon [e10,e15,(.agg [e9,e12,(.d (.v (.int .u8 13))),e3,e3,e7,(.ints .u8 [0,6,0,0,0,0,9,0] (some 8))])] [e1,e25] (.tup [e30,(.row e2 [(13,(9,(0,(0,(0,(0,(false,(false,(0,([],(true,(0,())))))))))))),(3,(0,(0,(0,(0,(0,(false,(false,(0,([0,6,0,0,0,0,9,0],(true,(0,())))))))))))),(2,(0,(0,(0,(0,(0,(false,(false,(0,([],(false,(0,()))))))))))))] (some 3))]) [e1,e28]
theorem do82x1_ok(m:Nat):ConOk Try.prog 13 (do82x1_con m):=
 con_ok tyx (lives8_tabok m) (fl:=fl8L) (N:=300) (t:= .leaf) (trO trivial) (fun x b=>by kernel_rfl)
def do82x2_con(m:Nat):Con:=clCon [e10,e15,(.agg [e9,e12,e11,e5,e3,e7,(.ints .u8 [0,0,0,0,0,0,0,0] none)])] [e1,e28] (.tup [e30,(.row e2 [(1,(9,(0,(0,(0,(0,(false,(false,(0,([],(true,(0,())))))))))))),(11,(0,(0,(0,(0,(0,(false,(false,(0,([0,0,0,0,0,0,0,0],(true,(0,())))))))))))),(2,(0,(0,(0,(0,(0,(false,(false,(0,([],(false,(0,()))))))))))))] (some 3))]) [e1,e24,(.ints 5 .u8 [0,0,0,0,0,0,0,0] none)]
theorem do82x2_ok(m:Nat):ConOk Try.prog 13 (do82x2_con m):=
 con_ok tyx (lives8_tabok m) (fl:=fl8L) (N:=300) (t:= .leaf) (trO trivial) (fun x b=>by kernel_rfl)
def do82x3_con(m:Nat):Con:=clCon [e10,e15,(.agg [e9,e12,e11,e3,e3,e7,(.ints .u8 [0] none)])] [e1,e24,(.ints 5 .u8 [0,0,0,0,0,0,0,0] none)] (.tup [e30,(.row e2 [(1,(9,(0,(0,(0,(0,(false,(false,(0,([],(true,(0,())))))))))))),(3,(0,(0,(0,(0,(0,(false,(false,(0,([0],(true,(0,())))))))))))),(2,(0,(0,(0,(0,(0,(false,(false,(0,([],(false,(0,()))))))))))))] (some 3))]) [e1,e23,(.ints 5 .u8 [0,0,0,0,0,0,0,0,0] none)]
theorem do82x3_ok(m:Nat):ConOk Try.prog 13 (do82x3_con m):=
 con_ok tyx (lives8_tabok m) (fl:=fl8L) (N:=300) (t:= .leaf) (trO trivial) (fun x b=>by kernel_rfl)
def do82x4_con(m:Nat):Con:=clCon [e10,e15,(.agg [e9,e12,e9,e5,e3,e7,e6])] [e1,e23,(.ints 5 .u8 [0,0,0,0,0,0,0,0,0] none)] (.tup [(.agg [e11,(.ints .u8 [] (some 0))]),(.row e2 [(9,(9,(0,(0,(0,(0,(false,(false,(0,([],(true,(0,())))))))))))),(11,(0,(0,(0,(0,(0,(false,(false,(0,([],(false,(0,())))))))))))),(2,(0,(0,(0,(0,(0,(false,(false,(0,([],(true,(0,()))))))))))))] (some 3))]) [e1,(.box 157 [e8,e4,(.i .u8 0),(.i .u8 6),(.i .u16 0),(.i .u16 0),(.i .u16 9),e5,e5,e3,e5,e5,(.ints .u8 [0,0,0,0,0,0,0,0,0] none),e7,e3,(.d (.v (.int .i64 4)))]),(.ints 5 .u8 [] (some 0))]
theorem do82x4_ok(m:Nat):ConOk Try.prog 13 (do82x4_con m):=
 con_ok tyx (lives8_tabok m) (fl:=fl8L) (N:=300) (t:= .leaf) (trO trivial) (fun x b=>by kernel_rfl)
end Go.Proofs.Ytngghkoghbpceaa
