/-
  Closed calls of the examples, reckoned out one by one.
  Conditions: none.
-/
import Derived.Test.YtngghkoghbpceaaN8L
namespace Go.Proofs.Ytngghkoghbpceaa
set_option linter.unusedVariables false
set_option maxRecDepth 100000
def do80x0_con(m:Nat):Con:=clCon [e10,e15,(.agg [e9,e12,(.d (.v (.int .u8 13))),e3,e3,e7,(.ints .u8 [128,6,0,0,0,0,18,0] (some 8))])] [e1,(.box 157 [e8,e4,e12,e12,(.d (.v (.int .u16 0))),(.d (.v (.int .u16 0))),(.d (.v (.int .u16 0))),e3,e3,e3,e3,e3,e6,e7,e3,e7])] (.tup [e30,(.row e2 [(13,(9,(0,(0,(0,(0,(false,(false,(0,([],(true,(0,())))))))))))),(3,(0,(0,(0,(0,(0,(false,(false,(0,([128,6,0,0,0,0,18,0],(true,(0,())))))))))))),(2,(0,(0,(0,(0,(0,(false,(false,(0,([],(false,(0,()))))))))))))] (some 3))]) [e1,e27]
theorem do80x0_ok(m:Nat):ConOk Try.prog 13 (do80x0_con m):=
 con_ok tyx (lives8_tabok m) (fl:=fl8L) (N:=300) (t:= .leaf) (trO trivial) (fun x b=>by kernel_rfl)
def do80x1_con(m:Nat):Con:=clCon [e10,e15,(.agg [e9,e12,e9,e5,e3,e8,e6])] [e1,e27] (.tup [(.agg [e11,(.ints .u8 [1,2,3,4,5,6,7,8] (some 8))]),(.row e2 [(9,(9,(0,(0,(0,(0,(false,(false,(0,([],(true,(0,())))))))))))),(11,(0,(0,(0,(0,(0,(false,(false,(0,([1,2,3,4,5,6,7,8],(false,(0,())))))))))))),(2,(0,(0,(0,(0,(0,(false,(false,(0,([],(true,(0,()))))))))))))] (some 3))]) [e1,e20]
theorem do80x1_ok(m:Nat):ConOk Try.prog 13 (do80x1_con m):=
 con_ok tyx (lives8_tabok m) (fl:=fl8L) (N:=300) (t:= .leaf) (trO trivial) (fun x b=>by kernel_rfl)
def do80x2_con(m:Nat):Con:=clCon [e10,e15,(.agg [e9,e12,e9,e3,e3,e8,e6])] [e1,e20] (.tup [(.agg [e11,(.ints .u8 [9,10] (some 2))]),(.row e2 [(9,(9,(0,(0,(0,(0,(false,(false,(0,([],(true,(0,())))))))))))),(3,(0,(0,(0,(0,(0,(false,(false,(0,([9,10],(false,(0,())))))))))))),(2,(0,(0,(0,(0,(0,(false,(false,(0,([],(true,(0,()))))))))))))] (some 3))]) [e1,e22]
theorem do80x2_ok(m:Nat):ConOk Try.prog 13 (do80x2_con m):=
 con_ok tyx (lives8_tabok m) (fl:=fl8L) (N:=300) (t:= .leaf) (trO trivial) (fun x b=>by kernel_rfl)
def do80x3_con(m:Nat):Con:=clCon [e10,e15,(.agg [e9,e12,e11,e5,e3,e7,e6])] [e1,e22] (.tup [e30,(.row e2 [(1,(9,(0,(0,(0,(0,(false,(false,(0,([],(true,(0,())))))))))))),(11,(0,(0,(0,(0,(0,(false,(false,(0,([],(true,(0,())))))))))))),(2,(0,(0,(0,(0,(0,(false,(false,(0,([],(false,(0,()))))))))))))] (some 3))]) [e1,e18]
theorem do80x3_ok(m:Nat):ConOk Try.prog 13 (do80x3_con m):=
 con_ok tyx (lives8_tabok m) (fl:=fl8L) (N:=300) (t:= .leaf) (trO trivial) (fun x b=>by kernel_rfl)
def do80x4_con(m:Nat):Con:=clCon [e10,e15,(.agg [e9,e12,(.d (.v (.int .u8 13))),e3,e3,e7,(.ints .u8 [128,6,0,0,0,0,8,0] (some 8))])] [e1,e18] (.tup [e30,(.row e2 [(13,(9,(0,(0,(0,(0,(false,(false,(0,([],(true,(0,())))))))))))),(3,(0,(0,(0,(0,(0,(false,(false,(0,([128,6,0,0,0,0,8,0],(true,(0,())))))))))))),(2,(0,(0,(0,(0,(0,(false,(false,(0,([],(false,(0,()))))))))))))] (some 3))]) [e1,e19]
theorem do80x4_ok(m:Nat):ConOk Try.prog 13 (do80x4_con m):=
 con_ok tyx (lives8_tabok m) (fl:=fl8L) (N:=300) (t:= .leaf) (trO trivial) (fun x b=>by kernel_rfl)
end Go.Proofs.Ytngghkoghbpceaa
