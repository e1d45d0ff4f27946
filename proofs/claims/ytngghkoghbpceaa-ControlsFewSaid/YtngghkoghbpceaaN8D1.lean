/-
  Closed calls of the examples, reckoned out one by one.
  Conditions: none.
-/
import Derived.Test.YtngghkoghbpceaaN8L
namespace Go.Proofs.Ytngghkoghbpceaa
set_option linter.unusedVariables false
set_option maxRecDepth 100000
def do81x0_con(m:Nat):Con:=clCon [e10,e15,(.agg [e9,e12,e9,e5,e3,e8,e6])] [e1,e19] (.tup [(.agg [e11,(.ints .u8 [1,2,3,4,5,6,7,8] (some 8))]),(.row e2 [(9,(9,(0,(0,(0,(0,(false,(false,(0,([],(true,(0,())))))))))))),(11,(0,(0,(0,(0,(0,(false,(false,(0,([1,2,3,4,5,6,7,8],(false,(0,())))))))))))),(2,(0,(0,(0,(0,(0,(false,(false,(0,([],(true,(0,()))))))))))))] (some 3))]) [e1,e17]
theorem do81x0_ok(m:Nat):ConOk Try.prog 13 (do81x0_con m):=
 con_ok tyx (lives8_tabok m) (fl:=fl8L) (N:=300) (t:= .leaf) (trO trivial) (fun x b=>by kernel_rfl)
def do81x1_con(m:Nat):Con:=clCon [e10,e15,(.agg [e9,e12,e11,e5,e3,e7,e6])] [e1,e17] (.tup [e30,(.row e2 [(1,(9,(0,(0,(0,(0,(false,(false,(0,([],(true,(0,())))))))))))),(11,(0,(0,(0,(0,(0,(false,(false,(0,([],(true,(0,())))))))))))),(2,(0,(0,(0,(0,(0,(false,(false,(0,([],(false,(0,()))))))))))))] (some 3))]) [e1,e16]
theorem do81x1_ok(m:Nat):ConOk Try.prog 13 (do81x1_con m):=
 con_ok tyx (lives8_tabok m) (fl:=fl8L) (N:=300) (t:= .leaf) (trO trivial) (fun x b=>by kernel_rfl)
def do81x2_con(m:Nat):Con:=clCon [e10,e15,(.agg [e9,e12,(.d (.v (.int .u8 13))),e3,e3,e7,(.ints .u8 [0,6,0,0,0,0,0,0] (some 8))])] [e1,e16] (.tup [e30,(.row e2 [(13,(9,(0,(0,(0,(0,(false,(false,(0,([],(true,(0,())))))))))))),(3,(0,(0,(0,(0,(0,(false,(false,(0,([0,6,0,0,0,0,0,0],(true,(0,())))))))))))),(2,(0,(0,(0,(0,(0,(false,(false,(0,([],(false,(0,()))))))))))))] (some 3))]) [e1,e21]
theorem do81x2_ok(m:Nat):ConOk Try.prog 13 (do81x2_con m):=
 con_ok tyx (lives8_tabok m) (fl:=fl8L) (N:=300) (t:= .leaf) (trO trivial) (fun x b=>by kernel_rfl)
def do81x3_con(m:Nat):Con:=clCon [e10,e15,(.agg [e9,e12,e9,e5,e3,e7,e6])] [e1,e21] (.tup [(.agg [e11,(.ints .u8 [] (some 0))]),(.row e2 [(9,(9,(0,(0,(0,(0,(false,(false,(0,([],(true,(0,())))))))))))),(11,(0,(0,(0,(0,(0,(false,(false,(0,([],(false,(0,())))))))))))),(2,(0,(0,(0,(0,(0,(false,(false,(0,([],(true,(0,()))))))))))))] (some 3))]) [e1,e29]
theorem do81x3_ok(m:Nat):ConOk Try.prog 13 (do81x3_con m):=
 con_ok tyx (lives8_tabok m) (fl:=fl8L) (N:=300) (t:= .leaf) (trO trivial) (fun x b=>by kernel_rfl)
def do81x4_con(m:Nat):Con:=clCon [e10,e15,(.agg [e9,e12,(.d (.v (.int .u8 13))),e3,e3,e7,(.ints .u8 [128,7,0,0,0,0,18,0] (some 8))])] [e1,e29] (.tup [e30,(.row e2 [(13,(9,(0,(0,(0,(0,(false,(false,(0,([],(true,(0,())))))))))))),(3,(0,(0,(0,(0,(0,(false,(false,(0,([128,7,0,0,0,0,18,0],(true,(0,())))))))))))),(2,(0,(0,(0,(0,(0,(false,(false,(0,([],(false,(0,()))))))))))))] (some 3))]) [e1,e26]
theorem do81x4_ok(m:Nat):ConOk Try.prog 13 (do81x4_con m):=
 con_ok tyx (lives8_tabok m) (fl:=fl8L) (N:=300) (t:= .leaf) (trO trivial) (fun x b=>by kernel_rfl)
end Go.Proofs.Ytngghkoghbpceaa
