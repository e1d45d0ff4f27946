/-
  Plain functions that the code reckons out to, with the proofs.
  Conditions: none.
-/
import Derived.Test.YtngghkoghbpceaaN8F
namespace Go.Proofs.Ytngghkoghbpceaa
set_option linter.unusedVariables false
set_option maxRecDepth 100000
def reads_tab(m:Nat):List (FuncId×Ent):= []
theorem reads_tabok(m:Nat):CallOk Try.prog (tabK Try.prog fl8 300 (reads_tab m) 6):=tabK_ok ty_mixed (tabok_nil) 6
def reads_J0{R:Type}(m:Nat)(x13:Int×Int×Int×Int×Int×Unit)(k0:Bool→Option R):Option R:=
 (bif !decide (Go.bits .and .u8 x13.1 (128:Int)=(0:Int))then k0 (decide ((0:Int)<x13.2.2.2.2.1))else k0 (false))
def reads_J0i:=(spat 12 (tcon0 1 (ptrp 17 0) tnil) q133)
def reads_J0o:=(one .normal [] (spat 12 (tcons 2 (shp .b) tnil) hnil))
def reads_J0f(m:Nat):(R:Type)→(Unit×q146×Unit)→(q153→Option R)→Option R:=fun R x K=>q1 x (reads_J0 m) (fun d0=>K ((d0,()),()))
theorem reads_J0k(m:Nat):CutOk Try.prog _ _ reads_J0i reads_J0o (reads_J0f m) (bodyAt Try.prog 77 [true,false]):=
 cut_ok ty_mixed (reads_tabok m) (fl:=fl8) (N:=300) (t:= .leaf) trivial (fun R x K=>by kernel_rfl)
def reads_D(m:Nat)(x0:Int×Int×Int×Int×Int×Unit):Option (Bool×Unit):=
 (reads_J0 m x0 (fun d23=>some ((d23,()))))
def reads_con(m:Nat):Con:=⟨_,_,_,(vcons q114 vnil),bnil,0,fun _=>rfl,q132,fun x b=>reads_D m x.1⟩
theorem reads_ok(m:Nat):ConOk Try.prog 77 (reads_con m):=
 con_ok ty_mixed (reads_tabok m) (fl:=fl8) (N:=300) (t:=(.node .leaf (.node (.cut _ _ reads_J0i [] reads_J0o (reads_J0f m) .leaf) .leaf))) (tree_of (Eq.mpr (show TreeOk Try.prog (.node .leaf (.node (.cut _ _ reads_J0i [] reads_J0o (reads_J0f m) .leaf) .leaf)) (bodyAt Try.prog 77 [])=(True∧((CutOk Try.prog _ _ reads_J0i reads_J0o (reads_J0f m) (bodyAt Try.prog 77 [true,false])∧True)∧True))by kernel_rfl) ⟨trivial,⟨⟨reads_J0k m,trivial⟩,trivial⟩⟩)) (fun x b=>by kernel_rfl)
def writes_tab(m:Nat):List (FuncId×Ent):= []
theorem writes_tabok(m:Nat):CallOk Try.prog (tabK Try.prog fl8 300 (writes_tab m) 6):=tabK_ok ty_mixed (tabok_nil) 6
def writes_J0{R:Type}(m:Nat)(x13:Int×Int×Int×Int×Int×Unit)(k0:Bool→Option R):Option R:=
 (bif decide (Go.bits .and .u8 x13.1 (128:Int)=(0:Int))then k0 (decide ((0:Int)<x13.2.2.2.2.1))else k0 (false))
def writes_J0i:=(spat 12 (tcon0 1 (ptrp 17 0) tnil) q133)
def writes_J0o:=(one .normal [] (spat 12 (tcons 2 (shp .b) tnil) hnil))
def writes_J0f(m:Nat):(R:Type)→(Unit×q146×Unit)→(q153→Option R)→Option R:=fun R x K=>q1 x (writes_J0 m) (fun d0=>K ((d0,()),()))
theorem writes_J0k(m:Nat):CutOk Try.prog _ _ writes_J0i writes_J0o (writes_J0f m) (bodyAt Try.prog 59 [true,false]):=
 cut_ok ty_mixed (writes_tabok m) (fl:=fl8) (N:=300) (t:= .leaf) trivial (fun R x K=>by kernel_rfl)
def writes_D(m:Nat)(x0:Int×Int×Int×Int×Int×Unit):Option (Bool×Unit):=
 (writes_J0 m x0 (fun d23=>some ((d23,()))))
def writes_con(m:Nat):Con:=⟨_,_,_,(vcons q114 vnil),bnil,0,fun _=>rfl,q132,fun x b=>writes_D m x.1⟩
theorem writes_ok(m:Nat):ConOk Try.prog 59 (writes_con m):=
 con_ok ty_mixed (writes_tabok m) (fl:=fl8) (N:=300) (t:=(.node .leaf (.node (.cut _ _ writes_J0i [] writes_J0o (writes_J0f m) .leaf) .leaf))) (tree_of (Eq.mpr (show TreeOk Try.prog (.node .leaf (.node (.cut _ _ writes_J0i [] writes_J0o (writes_J0f m) .leaf) .leaf)) (bodyAt Try.prog 59 [])=(True∧((CutOk Try.prog _ _ writes_J0i writes_J0o (writes_J0f m) (bodyAt Try.prog 59 [true,false])∧True)∧True))by kernel_rfl) ⟨trivial,⟨⟨writes_J0k m,trivial⟩,trivial⟩⟩)) (fun x b=>by kernel_rfl)
def fits8_tab(m:Nat):List (FuncId×Ent):= []
theorem fits8_tabok(m:Nat):CallOk Try.prog (tabK Try.prog fl8 300 (fits8_tab m) 6):=tabK_ok ty_mixed (tabok_nil) 6
def fits8_J0{R:Type}(m:Nat)(x19:Int)(k0:Bool→Option R):Option R:=
 (bif decide (x19=(8:Int))then k0 (true)else(bif decide (x19=(16:Int))then k0 (true)else(bif decide (x19=(32:Int))then k0 (true)else k0 (decide (x19=(64:Int))))))
def fits8_J0i:=(spat 17 (tcons 0 q71 tnil) hnil)
def fits8_J0o:=(one .normal [] (spat 17 (tcons 2 (shp .b) tnil) hnil))
def fits8_J0f(m:Nat):(R:Type)→((Int×Unit)×Unit)→(q153→Option R)→Option R:=fun R x K=>q2 x (fits8_J0 m) (fun d0=>K ((d0,()),()))
theorem fits8_J0k(m:Nat):CutOk Try.prog _ _ fits8_J0i fits8_J0o (fits8_J0f m) (bodyAt Try.prog 58 [true,false]):=
 cut_ok ty_mixed (fits8_tabok m) (fl:=fl8) (N:=300) (t:= .leaf) trivial (fun R x K=>by kernel_rfl)
def fits8_D(m:Nat)(x0:Int):Option (Bool×Unit):=
 (fits8_J0 m x0 (fun d36=>some ((d36,()))))
def fits8_con(m:Nat):Con:=⟨_,_,_,(vcons q71 vnil),bnil,0,fun _=>rfl,q132,fun x b=>fits8_D m x.1⟩
theorem fits8_ok(m:Nat):ConOk Try.prog 58 (fits8_con m):=
 con_ok ty_mixed (fits8_tabok m) (fl:=fl8) (N:=300) (t:=(.node .leaf (.node (.cut _ _ fits8_J0i [] fits8_J0o (fits8_J0f m) .leaf) .leaf))) (tree_of (Eq.mpr (show TreeOk Try.prog (.node .leaf (.node (.cut _ _ fits8_J0i [] fits8_J0o (fits8_J0f m) .leaf) .leaf)) (bodyAt Try.prog 58 [])=(True∧((CutOk Try.prog _ _ fits8_J0i fits8_J0o (fits8_J0f m) (bodyAt Try.prog 58 [true,false])∧True)∧True))by kernel_rfl) ⟨trivial,⟨⟨fits8_J0k m,trivial⟩,trivial⟩⟩)) (fun x b=>by kernel_rfl)
def rreads_tab(m:Nat):List (FuncId×Ent):= []
theorem rreads_tabok(m:Nat):CallOk Try.prog (tabK Try.prog fl8 300 (rreads_tab m) 6):=tabK_ok ty_mixed (tabok_nil) 6
def rreads_J0{R:Type}(m:Nat)(x12:Int×Int×Int×Int×Int×Unit)(k0:Bool→Option R):Option R:=
 (bif decide ((128:Int)≤x12.1)then k0 (decide ((0:Int)<x12.2.2.2.2.1))else k0 (false))
def rreads_J0i:=(spat 11 (tcon0 1 (ptrp 17 0) tnil) q133)
def rreads_J0o:=(one .normal [] (spat 11 (tcons 2 (shp .b) tnil) hnil))
def rreads_J0f(m:Nat):(R:Type)→(Unit×q146×Unit)→(q153→Option R)→Option R:=fun R x K=>q1 x (rreads_J0 m) (fun d0=>K ((d0,()),()))
theorem rreads_J0k(m:Nat):CutOk Try.prog _ _ rreads_J0i rreads_J0o (rreads_J0f m) (bodyAt Try.prog 31 [true,false]):=
 cut_ok ty_mixed (rreads_tabok m) (fl:=fl8) (N:=300) (t:= .leaf) trivial (fun R x K=>by kernel_rfl)
def rreads_D(m:Nat)(x0:Int×Int×Int×Int×Int×Unit):Option (Bool×Unit):=
 (rreads_J0 m x0 (fun d21=>some ((d21,()))))
def rreads_con(m:Nat):Con:=⟨_,_,_,(vcons q114 vnil),bnil,0,fun _=>rfl,q132,fun x b=>rreads_D m x.1⟩
theorem rreads_ok(m:Nat):ConOk Try.prog 31 (rreads_con m):=
 con_ok ty_mixed (rreads_tabok m) (fl:=fl8) (N:=300) (t:=(.node .leaf (.node (.cut _ _ rreads_J0i [] rreads_J0o (rreads_J0f m) .leaf) .leaf))) (tree_of (Eq.mpr (show TreeOk Try.prog (.node .leaf (.node (.cut _ _ rreads_J0i [] rreads_J0o (rreads_J0f m) .leaf) .leaf)) (bodyAt Try.prog 31 [])=(True∧((CutOk Try.prog _ _ rreads_J0i rreads_J0o (rreads_J0f m) (bodyAt Try.prog 31 [true,false])∧True)∧True))by kernel_rfl) ⟨trivial,⟨⟨rreads_J0k m,trivial⟩,trivial⟩⟩)) (fun x b=>by kernel_rfl)
def rwrites_tab(m:Nat):List (FuncId×Ent):= []
theorem rwrites_tabok(m:Nat):CallOk Try.prog (tabK Try.prog fl8 300 (rwrites_tab m) 6):=tabK_ok ty_mixed (tabok_nil) 6
def rwrites_J0{R:Type}(m:Nat)(x12:Int×Int×Int×Int×Int×Unit)(k0:Bool→Option R):Option R:=
 (bif decide (x12.1<(128:Int))then k0 (decide ((0:Int)<x12.2.2.2.2.1))else k0 (false))
def rwrites_J0i:=(spat 11 (tcon0 1 (ptrp 17 0) tnil) q133)
def rwrites_J0o:=(one .normal [] (spat 11 (tcons 2 (shp .b) tnil) hnil))
def rwrites_J0f(m:Nat):(R:Type)→(Unit×q146×Unit)→(q153→Option R)→Option R:=fun R x K=>q1 x (rwrites_J0 m) (fun d0=>K ((d0,()),()))
theorem rwrites_J0k(m:Nat):CutOk Try.prog _ _ rwrites_J0i rwrites_J0o (rwrites_J0f m) (bodyAt Try.prog 61 [true,false]):=
 cut_ok ty_mixed (rwrites_tabok m) (fl:=fl8) (N:=300) (t:= .leaf) trivial (fun R x K=>by kernel_rfl)
def rwrites_D(m:Nat)(x0:Int×Int×Int×Int×Int×Unit):Option (Bool×Unit):=
 (rwrites_J0 m x0 (fun d21=>some ((d21,()))))
def rwrites_con(m:Nat):Con:=⟨_,_,_,(vcons q114 vnil),bnil,0,fun _=>rfl,q132,fun x b=>rwrites_D m x.1⟩
theorem rwrites_ok(m:Nat):ConOk Try.prog 61 (rwrites_con m):=
 con_ok ty_mixed (rwrites_tabok m) (fl:=fl8) (N:=300) (t:=(.node .leaf (.node (.cut _ _ rwrites_J0i [] rwrites_J0o (rwrites_J0f m) .leaf) .leaf))) (tree_of (Eq.mpr (show TreeOk Try.prog (.node .leaf (.node (.cut _ _ rwrites_J0i [] rwrites_J0o (rwrites_J0f m) .leaf) .leaf)) (bodyAt Try.prog 61 [])=(True∧((CutOk Try.prog _ _ rwrites_J0i rwrites_J0o (rwrites_J0f m) (bodyAt Try.prog 61 [true,false])∧True)∧True))by kernel_rfl) ⟨trivial,⟨⟨rwrites_J0k m,trivial⟩,trivial⟩⟩)) (fun x b=>by kernel_rfl)
def sizes_tab(m:Nat):List (FuncId×Ent):= []
theorem sizes_tabok(m:Nat):CallOk Try.prog (tabK Try.prog fl8 300 (sizes_tab m) 6):=tabK_ok ty_mixed (tabok_nil) 6
def sizes_D(m:Nat)(x0:Int):Option (Int×Unit):=
 (bif decide ((0:Int)≤Int.tmod x0 (4:Int))then some ((Go.IntKind.wrap .i64 ((8:Int)*(2:Int) ^ Min.min (Int.toNat (Int.tmod x0 (4:Int))) (Go.IntKind.bits .i64)),()))else none)
def sizes_con(m:Nat):Con:=⟨_,_,_,(vcons q65 vnil),bnil,0,fun _=>rfl,(rfz 0 q71 bnil),fun x b=>sizes_D m x.1⟩
theorem sizes_ok(m:Nat):ConOk Try.prog 26 (sizes_con m):=
 con_ok ty_mixed (sizes_tabok m) (fl:=fl8) (N:=300) (t:= .leaf) (tree_of trivial) (fun x b=>by kernel_rfl)
def split8_tab(m:Nat):List (FuncId×Ent):= []
theorem split8_tabok(m:Nat):CallOk Try.prog (tabK Try.prog fl8 300 (split8_tab m) 6):=tabK_ok ty_mixed (tabok_nil) 6
def split8_D(m:Nat)(x0:Int×Int×Int×Int×Int×Unit):Option q145:=
 some (([x0.1,x0.2.1,Go.IntKind.wrap .u8 (List.getD [x0.2.2.1,x0.2.2.2.1,x0.2.2.2.2.1] (Int.toNat (0:Int)) (0:Int)),Go.IntKind.wrap .u8 (Int.fdiv (List.getD [x0.2.2.1,x0.2.2.2.1,x0.2.2.2.2.1] (Int.toNat (0:Int)) (0:Int)) ((2:Int) ^ Min.min (Int.toNat (8:Int)) (Go.IntKind.bits .u16))),Go.IntKind.wrap .u8 (List.getD [x0.2.2.1,x0.2.2.2.1,x0.2.2.2.2.1] (Int.toNat (Go.IntKind.wrap .i64 ((0:Int)+(1:Int)))) (0:Int)),Go.IntKind.wrap .u8 (Int.fdiv (List.getD [x0.2.2.1,x0.2.2.2.1,x0.2.2.2.2.1] (Int.toNat (Go.IntKind.wrap .i64 ((0:Int)+(1:Int)))) (0:Int)) ((2:Int) ^ Min.min (Int.toNat (8:Int)) (Go.IntKind.bits .u16))),Go.IntKind.wrap .u8 (List.getD [x0.2.2.1,x0.2.2.2.1,x0.2.2.2.2.1] (Int.toNat (Go.IntKind.wrap .i64 (Go.IntKind.wrap .i64 ((0:Int)+(1:Int))+(1:Int)))) (0:Int)),Go.IntKind.wrap .u8 (Int.fdiv (List.getD [x0.2.2.1,x0.2.2.2.1,x0.2.2.2.2.1] (Int.toNat (Go.IntKind.wrap .i64 (Go.IntKind.wrap .i64 ((0:Int)+(1:Int))+(1:Int)))) (0:Int)) ((2:Int) ^ Min.min (Int.toNat (8:Int)) (Go.IntKind.bits .u16)))],()))
def split8_con(m:Nat):Con:=⟨_,_,_,(vcons q114 vnil),bnil,0,fun _=>rfl,(rfz 0 q54 bnil),fun x b=>split8_D m x.1⟩
theorem split8_ok(m:Nat):ConOk Try.prog 67 (split8_con m):=
 con_ok ty_mixed (split8_tabok m) (fl:=fl8) (N:=300) (t:= .leaf) (tree_of trivial) (fun x b=>by kernel_rfl)
def join8_tab(m:Nat):List (FuncId×Ent):= []
theorem join8_tabok(m:Nat):CallOk Try.prog (tabK Try.prog fl8 300 (join8_tab m) 6):=tabK_ok ty_mixed (tabok_nil) 6
def join8_D(m:Nat)(x0:List Int):Option ((q146×Int×Unit)×Unit):=
 (bif !decide ((↑(List.length x0):Int)=(8:Int))then some (((((0:Int),(0:Int),(0:Int),(0:Int),(0:Int),()),(5:Int),()),()))else(bif inB (Go.IntKind.wrap .i64 (Go.IntKind.wrap .i64 ((2:Int)*(0:Int))+(2:Int))) (List.length x0)then(bif inB (Go.IntKind.wrap .i64 (Go.IntKind.wrap .i64 ((2:Int)*(0:Int))+(3:Int))) (List.length x0)then(bif inB (Go.IntKind.wrap .i64 (Go.IntKind.wrap .i64 ((2:Int)*Go.IntKind.wrap .i64 ((0:Int)+(1:Int)))+(2:Int))) (List.length x0)then(bif inB (Go.IntKind.wrap .i64 (Go.IntKind.wrap .i64 ((2:Int)*Go.IntKind.wrap .i64 ((0:Int)+(1:Int)))+(3:Int))) (List.length x0)then(bif inB (Go.IntKind.wrap .i64 (Go.IntKind.wrap .i64 ((2:Int)*Go.IntKind.wrap .i64 (Go.IntKind.wrap .i64 ((0:Int)+(1:Int))+(1:Int)))+(2:Int))) (List.length x0)then(bif inB (Go.IntKind.wrap .i64 (Go.IntKind.wrap .i64 ((2:Int)*Go.IntKind.wrap .i64 (Go.IntKind.wrap .i64 ((0:Int)+(1:Int))+(1:Int)))+(3:Int))) (List.length x0)then(bif inB (0:Int) (List.length x0)then(bif inB (1:Int) (List.length x0)then some ((((List.getD x0 (Int.toNat (0:Int)) (0:Int),List.getD x0 (Int.toNat (1:Int)) (0:Int),Go.bits .or .u16 (Go.IntKind.wrap .u16 (List.getD x0 (Int.toNat (Go.IntKind.wrap .i64 (Go.IntKind.wrap .i64 ((2:Int)*(0:Int))+(2:Int)))) (0:Int))) (Go.IntKind.wrap .u16 (Go.IntKind.wrap .u16 (List.getD x0 (Int.toNat (Go.IntKind.wrap .i64 (Go.IntKind.wrap .i64 ((2:Int)*(0:Int))+(3:Int)))) (0:Int))*(2:Int) ^ Min.min (Int.toNat (8:Int)) (Go.IntKind.bits .u16))),Go.bits .or .u16 (Go.IntKind.wrap .u16 (List.getD x0 (Int.toNat (Go.IntKind.wrap .i64 (Go.IntKind.wrap .i64 ((2:Int)*Go.IntKind.wrap .i64 ((0:Int)+(1:Int)))+(2:Int)))) (0:Int))) (Go.IntKind.wrap .u16 (Go.IntKind.wrap .u16 (List.getD x0 (Int.toNat (Go.IntKind.wrap .i64 (Go.IntKind.wrap .i64 ((2:Int)*Go.IntKind.wrap .i64 ((0:Int)+(1:Int)))+(3:Int)))) (0:Int))*(2:Int) ^ Min.min (Int.toNat (8:Int)) (Go.IntKind.bits .u16))),Go.bits .or .u16 (Go.IntKind.wrap .u16 (List.getD x0 (Int.toNat (Go.IntKind.wrap .i64 (Go.IntKind.wrap .i64 ((2:Int)*Go.IntKind.wrap .i64 (Go.IntKind.wrap .i64 ((0:Int)+(1:Int))+(1:Int)))+(2:Int)))) (0:Int))) (Go.IntKind.wrap .u16 (Go.IntKind.wrap .u16 (List.getD x0 (Int.toNat (Go.IntKind.wrap .i64 (Go.IntKind.wrap .i64 ((2:Int)*Go.IntKind.wrap .i64 (Go.IntKind.wrap .i64 ((0:Int)+(1:Int))+(1:Int)))+(3:Int)))) (0:Int))*(2:Int) ^ Min.min (Int.toNat (8:Int)) (Go.IntKind.bits .u16))),()),(0:Int),()),()))else none)else none)else none)else none)else none)else none)else none)else none))
def join8_con(m:Nat):Con:=⟨_,_,_,(vcons q54 vnil),bnil,0,fun _=>rfl,(rfz 0 (tupp (vcons q114 (vcons q71 vnil))) bnil),fun x b=>join8_D m x.1⟩
theorem join8_ok(m:Nat):ConOk Try.prog 144 (join8_con m):=
 con_ok ty_mixed (join8_tabok m) (fl:=fl8) (N:=300) (t:= .leaf) (tree_of trivial) (fun x b=>by kernel_rfl)
def clone8_tab(m:Nat):List (FuncId×Ent):= []
theorem clone8_tabok(m:Nat):CallOk Try.prog (tabK Try.prog fl8 300 (clone8_tab m) 6):=tabK_ok ty_mixed (tabok_nil) 6
def clone8_D(m:Nat)(x0:List Int):Option q145:=
 (bif makeOb (1:Nat) (0:Int) (↑(List.length x0):Int) true then(bif growOb (1:Nat) (List.length (List.replicate (Int.toNat (0:Int)) (0:Int))+List.length x0)then some ((List.replicate (Int.toNat (0:Int)) (0:Int)++x0,()))else none)else none)
def clone8_con(m:Nat):Con:=⟨_,_,_,(vcons q54 vnil),bnil,0,fun _=>rfl,(rfz 0 q54 bnil),fun x b=>clone8_D m x.1⟩
theorem clone8_ok(m:Nat):ConOk Try.prog 60 (clone8_con m):=
 con_ok ty_mixed (clone8_tabok m) (fl:=fl8) (N:=300) (t:= .leaf) (tree_of trivial) (fun x b=>by kernel_rfl)
def start_tab(m:Nat):List (FuncId×Ent):= [(59,.con (writes_con m)),(58,.con (fits8_con m)),(60,.con (clone8_con m))]
theorem start_tabok(m:Nat):CallOk Try.prog (tabK Try.prog fl8 300 (start_tab m) 6):=tabK_ok ty_mixed ((tabok_con (writes_ok m) (tabok_con (fits8_ok m) (tabok_con (clone8_ok m) tabok_nil)))) 6
def start_D(m:Nat)(x0:Int×Int×Int×Int×Int×Unit)(x1:List Int)(x2:Int):Option ((TrnT×Int×Unit)×Unit):=
 (bnd (fits8_D m x2) fun y8=>(bif !y8.1 then some (((((0:Int),(0:Int),(0:Int),(0:Int),(0:Int),(0:Int),[],(0:Int),false,(0:Int),[],(0:Int),(0:Int),()),(1:Int),()),()))else(bnd (writes_D m x0) fun y16=>(bif y16.1 then(bif !decide ((↑(List.length x1):Int)=Go.IntKind.wrap .i64 x0.2.2.2.2.1)then some (((((0:Int),(0:Int),(0:Int),(0:Int),(0:Int),(0:Int),[],(0:Int),false,(0:Int),[],(0:Int),(0:Int),()),(5:Int),()),()))else(bnd (clone8_D m x1) fun y28=>some (((((1:Int),x0.1,x0.2.1,x0.2.2.1,x0.2.2.2.1,x0.2.2.2.2.1,y28.1,x2,true,(0:Int),[],(0:Int),(0:Int),()),(0:Int),()),()))))else(bif !decide ((↑(List.length x1):Int)=(0:Int))then some (((((0:Int),(0:Int),(0:Int),(0:Int),(0:Int),(0:Int),[],(0:Int),false,(0:Int),[],(0:Int),(0:Int),()),(5:Int),()),()))else(bnd (clone8_D m x1) fun y41=>some (((((1:Int),x0.1,x0.2.1,x0.2.2.1,x0.2.2.2.1,x0.2.2.2.2.1,y41.1,x2,true,(0:Int),[],(0:Int),(0:Int),()),(0:Int),()),()))))))))
def start_con(m:Nat):Con:=⟨_,_,_,(vcons q114 (vcons q54 (vcons q71 vnil))),bnil,0,fun _=>rfl,(rfz 0 (tupp (vcons q101 (vcons q71 vnil))) bnil),fun x b=>start_D m x.1 x.2.1 x.2.2.1⟩
theorem start_ok(m:Nat):ConOk Try.prog 27 (start_con m):=
 con_ok ty_mixed (start_tabok m) (fl:=fl8) (N:=300) (t:= .leaf) (tree_of trivial) (fun x b=>by kernel_rfl)
def next8_tab(m:Nat):List (FuncId×Ent):= [(77,.con (reads_con m)),(67,.con (split8_con m)),(60,.con (clone8_con m))]
theorem next8_tabok(m:Nat):CallOk Try.prog (tabK Try.prog fl8 300 (next8_tab m) 6):=tabK_ok ty_mixed ((tabok_con (reads_ok m) (tabok_con (split8_ok m) (tabok_con (clone8_ok m) tabok_nil)))) 6
def next8_D(m:Nat)(x0:TrnT):Option ((q144×Bool×Unit)×Unit):=
 (bif decide (x0.1=(1:Int))then(bnd (split8_D m (x0.2.1,x0.2.2.1,x0.2.2.2.1,x0.2.2.2.2.1,x0.2.2.2.2.2.1,())) fun y11=>some (((((0:Int),(0:Int),(13:Int),false,false,(0:Int),y11),true,()),())))else(bif decide (x0.1=(2:Int))then(bnd (reads_D m (x0.2.1,x0.2.2.1,x0.2.2.2.1,x0.2.2.2.2.1,x0.2.2.2.2.2.1,())) fun y19=>(bif y19.1 then some (((((0:Int),(0:Int),(9:Int),x0.2.2.2.2.2.2.2.2.1,false,x0.2.2.2.2.2.2.2.1,[],()),true,()),()))else(bif decide ((0:Int)≤x0.2.2.2.2.2.2.2.2.2.1)&&(decide (x0.2.2.2.2.2.2.2.2.2.1≤if(↑(List.length x0.2.2.2.2.2.2.1):Int)<Go.IntKind.wrap .i64 (x0.2.2.2.2.2.2.2.2.2.1+x0.2.2.2.2.2.2.2.1)then(↑(List.length x0.2.2.2.2.2.2.1):Int)else Go.IntKind.wrap .i64 (x0.2.2.2.2.2.2.2.2.2.1+x0.2.2.2.2.2.2.2.1))&&decide (Int.toNat (if(↑(List.length x0.2.2.2.2.2.2.1):Int)<Go.IntKind.wrap .i64 (x0.2.2.2.2.2.2.2.2.2.1+x0.2.2.2.2.2.2.2.1)then(↑(List.length x0.2.2.2.2.2.2.1):Int)else Go.IntKind.wrap .i64 (x0.2.2.2.2.2.2.2.2.2.1+x0.2.2.2.2.2.2.2.1))≤List.length x0.2.2.2.2.2.2.1))then(bnd (clone8_D m (List.drop (Int.toNat x0.2.2.2.2.2.2.2.2.2.1) (List.take (Int.toNat (if(↑(List.length x0.2.2.2.2.2.2.1):Int)<Go.IntKind.wrap .i64 (x0.2.2.2.2.2.2.2.2.2.1+x0.2.2.2.2.2.2.2.1)then(↑(List.length x0.2.2.2.2.2.2.1):Int)else Go.IntKind.wrap .i64 (x0.2.2.2.2.2.2.2.2.2.1+x0.2.2.2.2.2.2.2.1))) x0.2.2.2.2.2.2.1))) fun y42=>some (((((0:Int),(0:Int),(1:Int),x0.2.2.2.2.2.2.2.2.1,false,(0:Int),y42),true,()),())))else none)))else(bif decide (x0.1=(3:Int))then(bnd (reads_D m (x0.2.1,x0.2.2.1,x0.2.2.2.1,x0.2.2.2.2.1,x0.2.2.2.2.2.1,())) fun y52=>(bif y52.1 then some (((((0:Int),(0:Int),(1:Int),true,false,(0:Int),[],()),true,()),()))else some (((((0:Int),(0:Int),(9:Int),true,false,(0:Int),[],()),true,()),()))))else some (((((0:Int),(0:Int),(0:Int),false,false,(0:Int),[],()),false,()),())))))
def next8_con(m:Nat):Con:=⟨_,_,_,(vcons q101 vnil),bnil,0,fun _=>rfl,(rfz 0 (tupp (vcons (shp (.cons (.i .u8) q59)) q81)) bnil),fun x b=>next8_D m x.1⟩
theorem next8_ok(m:Nat):ConOk Try.prog 62 (next8_con m):=
 con_ok ty_mixed (next8_tabok m) (fl:=fl8) (N:=300) (t:= .leaf) (tree_of trivial) (fun x b=>by kernel_rfl)
def end8_tab(m:Nat):List (FuncId×Ent):= [(60,.con (clone8_con m))]
theorem end8_tabok(m:Nat):CallOk Try.prog (tabK Try.prog fl8 300 (end8_tab m) 6):=tabK_ok ty_mixed ((tabok_con (clone8_ok m) tabok_nil)) 6
def end8_D(m:Nat)(x0:TrnT):Option ((List Int×Int×Unit)×Unit):=
 (bif decide (x0.1=(0:Int))then some ((([],(2:Int),()),()))else(bif !decide (x0.1=(4:Int))then some ((([],(6:Int),()),()))else(bif !decide (x0.2.2.2.2.2.2.2.2.2.2.2.2.1=(0:Int))then some ((([],x0.2.2.2.2.2.2.2.2.2.2.2.2),()))else(bnd (clone8_D m x0.2.2.2.2.2.2.2.2.2.2.1) fun y24=>some (((y24.1,(0:Int),()),()))))))
def end8_con(m:Nat):Con:=⟨_,_,_,(vcons q101 vnil),bnil,0,fun _=>rfl,(rfz 0 (tupp (vcons q54 (vcons q71 vnil))) bnil),fun x b=>end8_D m x.1⟩
theorem end8_ok(m:Nat):ConOk Try.prog 64 (end8_con m):=
 con_ok ty_mixed (end8_tabok m) (fl:=fl8) (N:=300) (t:= .leaf) (tree_of trivial) (fun x b=>by kernel_rfl)
def outL_tab(m:Nat):List (FuncId×Ent):= [(61,.con (rwrites_con m))]
theorem outL_tabok(m:Nat):CallOk Try.prog (tabK Try.prog fl8 300 (outL_tab m) 6):=tabK_ok ty_mixed ((tabok_con (rwrites_ok m) tabok_nil)) 6
def outL_J0{R:Type}(m:Nat)(x180:Int)(x181:Int×Int×Int×Int×Int×List Int×Int×Unit)(x182:List Int)(k0:Option R)(k1:Option R):Option R:=
 (bif decide (x180<(↑(List.length x182):Int))then k0 else k1)
def outL_J0i:=(spat 46 (tcon0 1 (ptrp 17 0) (tcon0 3 (ownp 29) (tcons 4 q71 tnil))) q122)
def outL_J0o:=(two (one .normal [] (spat 46 (tcon0 1 (ptrp 17 0) (tcon0 3 (ownp 29) (tcons 4 q71 (tcon0 19 (ptrp 17 5) (tcons 20 q54 (tcons 21 q71 (tcons 22 (shp .b) (tcons 23 (shp .b) tnil)))))))) q122)) (one .normal [] (spat 46 (tcon0 1 (ptrp 17 0) (tcon0 3 (ownp 29) (tcons 4 q71 (tcon0 23 (datp (.v (.bool false))) tnil)))) q122)))
def outL_J0f(m:Nat):(R:Type)→((Int×Unit)×q142×List Int×Unit)→(((Int×List Int×Int×Bool×Bool×Unit)×q142×List Int×Unit ⊕ (Int×Unit)×q142×List Int×Unit)→Option R)→Option R:=fun R x K=>q3 x (outL_J0 m) (K (Sum.inl ((x.1.1,x.2.1.2.2.2.2.2.1,(↑(List.length x.2.1.2.2.2.2.2.1):Int),(decide ((0:Int)<(↑(List.length x.2.1.2.2.2.2.2.1):Int))),(decide ((0:Int)<(↑(List.length x.2.1.2.2.2.2.2.1):Int))),()),x.2))) (K (Sum.inr x))
theorem outL_J0k(m:Nat):CutOk Try.prog _ _ outL_J0i outL_J0o (outL_J0f m) (bodyAt Try.prog 28 [true,true,true,false,true,false,false,false,false]):=
 cut_ok ty_mixed (outL_tabok m) (fl:=fl8) (N:=300) (t:= .leaf) trivial (fun R x K=>by kernel_rfl)
def outL_L0(m:Nat):Nat→Int→q142→List Int→Option (Unit×List Int×Unit)
 |0,_,_,_=>none
 |n+1,x169,x170,x171=>(outL_J0 m x169 x170 x171 ((bif decide ((0:Int)<(↑(List.length x170.2.2.2.2.2.1):Int))then(bif !decide ((↑(List.length x170.2.2.2.2.2.1):Int)=(0:Int))then(bif inB (Int.tmod x169 (↑(List.length x170.2.2.2.2.2.1):Int)) (List.length x170.2.2.2.2.2.1)then(bif !decide ((↑(List.length x170.2.2.2.2.2.1):Int)=(0:Int))then(bif inB x169 (List.length x171)then(bif decide (Int.toNat x169<List.length x171)then outL_L0 m n (Go.IntKind.wrap .i64 (x169+(1:Int))) x170 (List.set x171 (Int.toNat x169) (Go.IntKind.wrap .u8 (List.getD x170.2.2.2.2.2.1 (Int.toNat (Int.tmod x169 (↑(List.length x170.2.2.2.2.2.1):Int))) (0:Int)+Go.IntKind.wrap .u8 (Go.IntKind.wrap .i64 (Int.tdiv x169 (↑(List.length x170.2.2.2.2.2.1):Int))))))else none)else none)else none)else none)else none)else some ((),(x171,())))) (some ((),(x171,()))))
def outL_L0i:=(spat 46 (tcon0 1 (ptrp 17 0) (tcon0 3 (ownp 29) (tcons 4 q71 tnil))) q122)
def outL_L0o:=(one (.exit 0) [] (spat 46 (tcon0 3 (ownp 29) tnil) (hcons 29 (intsp 5 .u8) hnil)))
def outL_L0g:List Gh:= []
def outL_L0f(m n:Nat):=fun(x:(Int×Unit)×q142×List Int×Unit)=>outL_L0 m n x.1.1 x.2.1 x.2.2.1
theorem outL_L0k(m:Nat): ∀n,LoopOk Try.prog _ _ outL_L0i outL_L0o (outL_L0f m n) (bodyAt Try.prog 28 [true,true,true,false,true,false,false]):=
 loop_ok ty_mixed (outL_tabok m) (fl:=fl8) (gh:=outL_L0g) (outL_L0f m) (N:=300) (t:=(.node (.node (.cut _ _ outL_J0i [] outL_J0o (outL_J0f m) .leaf) .leaf) .leaf)) (Eq.mpr (show TreeOk Try.prog (.node (.node (.cut _ _ outL_J0i [] outL_J0o (outL_J0f m) .leaf) .leaf) .leaf) (bodyAt Try.prog 28 [true,true,true,false,true,false,false])=(((CutOk Try.prog _ _ outL_J0i outL_J0o (outL_J0f m) (bodyAt Try.prog 28 [true,true,true,false,true,false,false,false,false])∧True)∧True)∧True)by kernel_rfl) ⟨⟨⟨outL_J0k m,trivial⟩,trivial⟩,trivial⟩) (fun _=>rfl) (fun n x=>by kernel_rfl)
def outL_D(m:Nat)(x0:Int×Int×Int×Int×Int×List Int×Int×Unit):Option q145:=
 (bnd (rwrites_D m (x0.1,x0.2.1,x0.2.2.1,x0.2.2.2.1,x0.2.2.2.2.1,())) fun y7=>(bif !y7.1 then some (([],()))else(bif makeOb (1:Nat) (Go.IntKind.wrap .i64 x0.2.2.2.2.1) (Go.IntKind.wrap .i64 x0.2.2.2.2.1) true then(bnd (outL_L0 m m ((0:Int)) x0 (List.replicate (Int.toNat (Go.IntKind.wrap .i64 x0.2.2.2.2.1)) (0:Int))) fun y222=>some y222.2)else none)))
def outL_con(m:Nat):Con:=⟨_,_,_,(vcons q86 vnil),bnil,0,fun _=>rfl,(rfz 0 q54 bnil),fun x b=>outL_D m x.1⟩
theorem outL_ok(m:Nat):ConOk Try.prog 28 (outL_con m):=
 con_ok ty_mixed (outL_tabok m) (fl:=fl8) (N:=300) (t:=(.node .leaf (.node .leaf (.node .leaf (.node (.node .leaf (.node (.loop _ _ outL_L0i outL_L0g outL_L0o (outL_L0f m m)) .leaf)) .leaf))))) (tree_of (Eq.mpr (show TreeOk Try.prog (.node .leaf (.node .leaf (.node .leaf (.node (.node .leaf (.node (.loop _ _ outL_L0i outL_L0g outL_L0o (outL_L0f m m)) .leaf)) .leaf)))) (bodyAt Try.prog 28 [])=(True∧(True∧(True∧((True∧(LoopOk Try.prog _ _ outL_L0i outL_L0o (outL_L0f m m) (bodyAt Try.prog 28 [true,true,true,false,true,false,false])))∧True))))by kernel_rfl) ⟨trivial,⟨trivial,⟨trivial,⟨⟨trivial,(outL_L0k m m)⟩,trivial⟩⟩⟩⟩)) (fun x b=>by kernel_rfl)
def ans80_tab(m:Nat):List (FuncId×Ent):= [(77,.con (reads_con m))]
theorem ans80_tabok(m:Nat):CallOk Try.prog (tabK Try.prog fl8 300 (ans80_tab m) 6):=tabK_ok ty_mixed ((tabok_con (reads_ok m) tabok_nil)) 6
def ans80_D(m:Nat)(x0 x1 x2 x3 x4:Int)(x5:List Int)(x6:Int)(x7:Bool)(x8:Int)(x9:List Int)(x10 x11:Int)(x12:Int×List Int×Unit):Option (TrnT×Unit):=
 some ((((0:Int),x0,x1,x2,x3,x4,x5,x6,x7,x8,x9,x10,x11,()),()))
def ans80_con(m:Nat):Con:=⟨_,_,_,(vcons (aggp (vcon0 (datp (D.v (.int .u8 0))) q58)) (vcons q66 vnil)),bnil,0,fun _=>rfl,(rfz 0 q101 bnil),fun x b=>ans80_D m x.1.1 x.1.2.1 x.1.2.2.1 x.1.2.2.2.1 x.1.2.2.2.2.1 x.1.2.2.2.2.2.1 x.1.2.2.2.2.2.2.1 x.1.2.2.2.2.2.2.2.1 x.1.2.2.2.2.2.2.2.2.1 x.1.2.2.2.2.2.2.2.2.2.1 x.1.2.2.2.2.2.2.2.2.2.2.1 x.1.2.2.2.2.2.2.2.2.2.2.2.1 x.2.1⟩
theorem ans80_ok(m:Nat):ConOk Try.prog 63 (ans80_con m):=
 con_ok ty_mixed (ans80_tabok m) (fl:=fl8) (N:=300) (t:= .leaf) (tree_of trivial) (fun x b=>by kernel_rfl)
def ans81_tab(m:Nat):List (FuncId×Ent):= [(77,.con (reads_con m))]
theorem ans81_tabok(m:Nat):CallOk Try.prog (tabK Try.prog fl8 300 (ans81_tab m) 6):=tabK_ok ty_mixed ((tabok_con (reads_ok m) tabok_nil)) 6
def ans81_J0{R:Type}(m:Nat)(x33:TrnT)(x34:Int×List Int×Unit)(x35 x36 x37 x38 x39 x40 x41:Int)(x42:Bool)(x43 x44 x45:Int)(k0:Bool→Option R):Option R:=
 (bif decide (x33.1=(0:Int))then k0 (true)else(bif decide (x33.1=(4:Int))then k0 (true)else(bif decide (x34.1=(0:Int))then k0 (true)else k0 (decide ((6:Int)<x34.1)))))
def ans81_J0i:=(spat 57 (tcon0 2 (ptrp 18 0) q106) q49)
def ans81_J0o:=q93
def ans81_J0f(m:Nat):(R:Type)→(Unit×TrnT×q141×q147×Unit)→(q177→Option R)→Option R:=fun R x K=>q4 x (ans81_J0 m) (fun d0=>K ((d0,()),x.2))
theorem ans81_J0k(m:Nat):CutOk Try.prog _ _ ans81_J0i ans81_J0o (ans81_J0f m) (bodyAt Try.prog 63 [true,false,false]):=
 cut_ok ty_mixed (ans81_tabok m) (fl:=fl8) (N:=300) (t:= .leaf) trivial (fun R x K=>by kernel_rfl)
def ans81_D(m:Nat)(x0 x1 x2 x3 x4:Int)(x5:List Int)(x6:Int)(x7:Bool)(x8:Int)(x9:List Int)(x10 x11:Int)(x12:Int×List Int×Unit):Option (TrnT×Unit):=
 (ans81_J0 m (((1:Int),x0,x1,x2,x3,x4,x5,x6,x7,x8,x9,x10,x11,())) x12 ((0:Int)) ((0:Int)) ((0:Int)) ((0:Int)) ((0:Int)) ((0:Int)) ((0:Int)) (false) ((0:Int)) ((0:Int)) ((0:Int)) (fun d67=>(bif d67 then some ((((1:Int),x0,x1,x2,x3,x4,x5,x6,x7,x8,x9,x10,x11,()),()))else(bif decide (x12.1=(4:Int))then(bif decide (Go.IntKind.wrap .i64 (x10+(1:Int))=(3:Int))then some ((((4:Int),x0,x1,x2,x3,x4,x5,x6,x7,x8,x9,Go.IntKind.wrap .i64 (x10+(1:Int)),(11:Int),()),()))else some ((((1:Int),x0,x1,x2,x3,x4,x5,x6,x7,x8,x9,Go.IntKind.wrap .i64 (x10+(1:Int)),x11,()),())))else(bif decide (x12.1=(3:Int))then some ((((4:Int),x0,x1,x2,x3,x4,x5,x6,x7,x8,x9,(0:Int),(12:Int),()),()))else(bif decide (x12.1=(5:Int))then some ((((4:Int),x0,x1,x2,x3,x4,x5,x6,x7,x8,x9,(0:Int),(13:Int),()),()))else(bif decide (x12.1=(1:Int))then(bif decide ((0:Int)<x4)then some ((((2:Int),x0,x1,x2,x3,x4,x5,x6,x7,x8,x9,(0:Int),x11,()),()))else some ((((3:Int),x0,x1,x2,x3,x4,x5,x6,x7,x8,x9,(0:Int),x11,()),())))else some ((((1:Int),x0,x1,x2,x3,x4,x5,x6,x7,x8,x9,(0:Int),x11,()),())))))))))
def ans81_con(m:Nat):Con:=⟨_,_,_,(vcons (aggp (vcon0 (datp (D.v (.int .u8 1))) q58)) (vcons q66 vnil)),bnil,0,fun _=>rfl,(rfz 0 q101 bnil),fun x b=>ans81_D m x.1.1 x.1.2.1 x.1.2.2.1 x.1.2.2.2.1 x.1.2.2.2.2.1 x.1.2.2.2.2.2.1 x.1.2.2.2.2.2.2.1 x.1.2.2.2.2.2.2.2.1 x.1.2.2.2.2.2.2.2.2.1 x.1.2.2.2.2.2.2.2.2.2.1 x.1.2.2.2.2.2.2.2.2.2.2.1 x.1.2.2.2.2.2.2.2.2.2.2.2.1 x.2.1⟩
theorem ans81_ok(m:Nat):ConOk Try.prog 63 (ans81_con m):=
 con_ok ty_mixed (ans81_tabok m) (fl:=fl8) (N:=300) (t:=(.node .leaf (.node (.node (.cut _ _ ans81_J0i [] ans81_J0o (ans81_J0f m) .leaf) .leaf) .leaf))) (tree_of (Eq.mpr (show TreeOk Try.prog (.node .leaf (.node (.node (.cut _ _ ans81_J0i [] ans81_J0o (ans81_J0f m) .leaf) .leaf) .leaf)) (bodyAt Try.prog 63 [])=(True∧(((CutOk Try.prog _ _ ans81_J0i ans81_J0o (ans81_J0f m) (bodyAt Try.prog 63 [true,false,false])∧True)∧True)∧True))by kernel_rfl) ⟨trivial,⟨⟨⟨ans81_J0k m,trivial⟩,trivial⟩,trivial⟩⟩)) (fun x b=>by kernel_rfl)
def ans82_tab(m:Nat):List (FuncId×Ent):= [(77,.con (reads_con m))]
theorem ans82_tabok(m:Nat):CallOk Try.prog (tabK Try.prog fl8 300 (ans82_tab m) 6):=tabK_ok ty_mixed ((tabok_con (reads_ok m) tabok_nil)) 6
def ans82_J0{R:Type}(m:Nat)(x33:TrnT)(x34:Int×List Int×Unit)(x35 x36 x37 x38 x39 x40 x41:Int)(x42:Bool)(x43 x44 x45:Int)(k0:Bool→Option R):Option R:=
 (bif decide (x33.1=(0:Int))then k0 (true)else(bif decide (x33.1=(4:Int))then k0 (true)else(bif decide (x34.1=(0:Int))then k0 (true)else k0 (decide ((6:Int)<x34.1)))))
def ans82_J0i:=(spat 57 (tcon0 2 (ptrp 18 0) q106) q49)
def ans82_J0o:=q93
def ans82_J0f(m:Nat):(R:Type)→(Unit×TrnT×q141×q147×Unit)→(q177→Option R)→Option R:=fun R x K=>q4 x (ans82_J0 m) (fun d0=>K ((d0,()),x.2))
theorem ans82_J0k(m:Nat):CutOk Try.prog _ _ ans82_J0i ans82_J0o (ans82_J0f m) (bodyAt Try.prog 63 [true,false,false]):=
 cut_ok ty_mixed (ans82_tabok m) (fl:=fl8) (N:=300) (t:= .leaf) trivial (fun R x K=>by kernel_rfl)
def ans82_D(m:Nat)(x0 x1 x2 x3 x4:Int)(x5:List Int)(x6:Int)(x7:Bool)(x8:Int)(x9:List Int)(x10 x11:Int)(x12:Int×List Int×Unit):Option (TrnT×Unit):=
 (ans82_J0 m (((2:Int),x0,x1,x2,x3,x4,x5,x6,x7,x8,x9,x10,x11,())) x12 ((0:Int)) ((0:Int)) ((0:Int)) ((0:Int)) ((0:Int)) ((0:Int)) ((0:Int)) (false) ((0:Int)) ((0:Int)) ((0:Int)) (fun d67=>(bif d67 then some ((((2:Int),x0,x1,x2,x3,x4,x5,x6,x7,x8,x9,x10,x11,()),()))else(bif decide (x12.1=(4:Int))then(bif decide (Go.IntKind.wrap .i64 (x10+(1:Int))=(3:Int))then some ((((4:Int),x0,x1,x2,x3,x4,x5,x6,x7,x8,x9,Go.IntKind.wrap .i64 (x10+(1:Int)),(11:Int),()),()))else some ((((2:Int),x0,x1,x2,x3,x4,x5,x6,x7,x8,x9,Go.IntKind.wrap .i64 (x10+(1:Int)),x11,()),())))else(bif decide (x12.1=(3:Int))then some ((((4:Int),x0,x1,x2,x3,x4,x5,x6,x7,x8,x9,(0:Int),(12:Int),()),()))else(bif decide (x12.1=(5:Int))then some ((((4:Int),x0,x1,x2,x3,x4,x5,x6,x7,x8,x9,(0:Int),(13:Int),()),()))else(bif decide (x12.1=(1:Int))then(bnd (reads_D m (x0,x1,x2,x3,x4,())) fun y123=>(bif y123.1 then(bif decide (x6<(↑(List.length x12.2.1):Int))then some ((((4:Int),x0,x1,x2,x3,x4,x5,x6,x7,x8,x9,(0:Int),(13:Int),()),()))else(bif decide (Go.IntKind.wrap .i64 x4<Go.IntKind.wrap .i64 ((↑(List.length x9):Int)+(↑(List.length x12.2.1):Int)))then some ((((4:Int),x0,x1,x2,x3,x4,x5,x6,x7,x8,x9,(0:Int),(13:Int),()),()))else(bif decide ((0:Int)≤(↑(List.length x9):Int))&&(decide ((↑(List.length x9):Int)≤(↑(List.length x9):Int))&&decide (Int.toNat (↑(List.length x9):Int)≤List.length x9))then(bif decide (List.length x12.2.1=(0:Nat))then(bif decide ((↑(List.length x12.2.1):Int)<x6)then some ((((3:Int),x0,x1,x2,x3,x4,x5,x6,!x7,x8,List.take (Int.toNat (↑(List.length x9):Int)) x9,(0:Int),x11,()),()))else(bif decide ((↑(List.length (List.take (Int.toNat (↑(List.length x9):Int)) x9)):Int)=Go.IntKind.wrap .i64 x4)then some ((((3:Int),x0,x1,x2,x3,x4,x5,x6,!x7,x8,List.take (Int.toNat (↑(List.length x9):Int)) x9,(0:Int),x11,()),()))else some ((((2:Int),x0,x1,x2,x3,x4,x5,x6,!x7,x8,List.take (Int.toNat (↑(List.length x9):Int)) x9,(0:Int),x11,()),()))))else(bif decide (Int.toNat (↑(List.length x9):Int)=List.length (List.take (Int.toNat (↑(List.length x9):Int)) x9))&&(decide ((0:Nat)<List.length x12.2.1)&&growOb (1:Nat) (List.length (List.take (Int.toNat (↑(List.length x9):Int)) x9)+List.length x12.2.1))then(bif decide ((↑(List.length x12.2.1):Int)<x6)then some ((((3:Int),x0,x1,x2,x3,x4,x5,x6,!x7,x8,List.take (Int.toNat (↑(List.length x9):Int)) x9++x12.2.1,(0:Int),x11,()),()))else(bif decide ((↑(List.length (List.take (Int.toNat (↑(List.length x9):Int)) x9++x12.2.1)):Int)=Go.IntKind.wrap .i64 x4)then some ((((3:Int),x0,x1,x2,x3,x4,x5,x6,!x7,x8,List.take (Int.toNat (↑(List.length x9):Int)) x9++x12.2.1,(0:Int),x11,()),()))else some ((((2:Int),x0,x1,x2,x3,x4,x5,x6,!x7,x8,List.take (Int.toNat (↑(List.length x9):Int)) x9++x12.2.1,(0:Int),x11,()),()))))else none))else none)))else(bif decide ((if(↑(List.length x5):Int)<Go.IntKind.wrap .i64 (x8+x6)then(↑(List.length x5):Int)else Go.IntKind.wrap .i64 (x8+x6))=(↑(List.length x5):Int))then some ((((3:Int),x0,x1,x2,x3,x4,x5,x6,!x7,if(↑(List.length x5):Int)<Go.IntKind.wrap .i64 (x8+x6)then(↑(List.length x5):Int)else Go.IntKind.wrap .i64 (x8+x6),x9,(0:Int),x11,()),()))else some ((((2:Int),x0,x1,x2,x3,x4,x5,x6,!x7,if(↑(List.length x5):Int)<Go.IntKind.wrap .i64 (x8+x6)then(↑(List.length x5):Int)else Go.IntKind.wrap .i64 (x8+x6),x9,(0:Int),x11,()),())))))else some ((((2:Int),x0,x1,x2,x3,x4,x5,x6,x7,x8,x9,(0:Int),x11,()),())))))))))
def ans82_con(m:Nat):Con:=⟨_,_,_,(vcons (aggp (vcon0 (datp (D.v (.int .u8 2))) q58)) (vcons q66 vnil)),bnil,0,fun _=>rfl,(rfz 0 q101 bnil),fun x b=>ans82_D m x.1.1 x.1.2.1 x.1.2.2.1 x.1.2.2.2.1 x.1.2.2.2.2.1 x.1.2.2.2.2.2.1 x.1.2.2.2.2.2.2.1 x.1.2.2.2.2.2.2.2.1 x.1.2.2.2.2.2.2.2.2.1 x.1.2.2.2.2.2.2.2.2.2.1 x.1.2.2.2.2.2.2.2.2.2.2.1 x.1.2.2.2.2.2.2.2.2.2.2.2.1 x.2.1⟩
theorem ans82_ok(m:Nat):ConOk Try.prog 63 (ans82_con m):=
 con_ok ty_mixed (ans82_tabok m) (fl:=fl8) (N:=300) (t:=(.node .leaf (.node (.node (.cut _ _ ans82_J0i [] ans82_J0o (ans82_J0f m) .leaf) .leaf) .leaf))) (tree_of (Eq.mpr (show TreeOk Try.prog (.node .leaf (.node (.node (.cut _ _ ans82_J0i [] ans82_J0o (ans82_J0f m) .leaf) .leaf) .leaf)) (bodyAt Try.prog 63 [])=(True∧(((CutOk Try.prog _ _ ans82_J0i ans82_J0o (ans82_J0f m) (bodyAt Try.prog 63 [true,false,false])∧True)∧True)∧True))by kernel_rfl) ⟨trivial,⟨⟨⟨ans82_J0k m,trivial⟩,trivial⟩,trivial⟩⟩)) (fun x b=>by kernel_rfl)
def ans83_tab(m:Nat):List (FuncId×Ent):= [(77,.con (reads_con m))]
theorem ans83_tabok(m:Nat):CallOk Try.prog (tabK Try.prog fl8 300 (ans83_tab m) 6):=tabK_ok ty_mixed ((tabok_con (reads_ok m) tabok_nil)) 6
def ans83_J0{R:Type}(m:Nat)(x33:TrnT)(x34:Int×List Int×Unit)(x35 x36 x37 x38 x39 x40 x41:Int)(x42:Bool)(x43 x44 x45:Int)(k0:Bool→Option R):Option R:=
 (bif decide (x33.1=(0:Int))then k0 (true)else(bif decide (x33.1=(4:Int))then k0 (true)else(bif decide (x34.1=(0:Int))then k0 (true)else k0 (decide ((6:Int)<x34.1)))))
def ans83_J0i:=(spat 57 (tcon0 2 (ptrp 18 0) q106) q49)
def ans83_J0o:=q93
def ans83_J0f(m:Nat):(R:Type)→(Unit×TrnT×q141×q147×Unit)→(q177→Option R)→Option R:=fun R x K=>q4 x (ans83_J0 m) (fun d0=>K ((d0,()),x.2))
theorem ans83_J0k(m:Nat):CutOk Try.prog _ _ ans83_J0i ans83_J0o (ans83_J0f m) (bodyAt Try.prog 63 [true,false,false]):=
 cut_ok ty_mixed (ans83_tabok m) (fl:=fl8) (N:=300) (t:= .leaf) trivial (fun R x K=>by kernel_rfl)
def ans83_D(m:Nat)(x0 x1 x2 x3 x4:Int)(x5:List Int)(x6:Int)(x7:Bool)(x8:Int)(x9:List Int)(x10 x11:Int)(x12:Int×List Int×Unit):Option (TrnT×Unit):=
 (ans83_J0 m (((3:Int),x0,x1,x2,x3,x4,x5,x6,x7,x8,x9,x10,x11,())) x12 ((0:Int)) ((0:Int)) ((0:Int)) ((0:Int)) ((0:Int)) ((0:Int)) ((0:Int)) (false) ((0:Int)) ((0:Int)) ((0:Int)) (fun d67=>(bif d67 then some ((((3:Int),x0,x1,x2,x3,x4,x5,x6,x7,x8,x9,x10,x11,()),()))else(bif decide (x12.1=(4:Int))then(bif decide (Go.IntKind.wrap .i64 (x10+(1:Int))=(3:Int))then some ((((4:Int),x0,x1,x2,x3,x4,x5,x6,x7,x8,x9,Go.IntKind.wrap .i64 (x10+(1:Int)),(11:Int),()),()))else some ((((3:Int),x0,x1,x2,x3,x4,x5,x6,x7,x8,x9,Go.IntKind.wrap .i64 (x10+(1:Int)),x11,()),())))else(bif decide (x12.1=(3:Int))then some ((((4:Int),x0,x1,x2,x3,x4,x5,x6,x7,x8,x9,(0:Int),(12:Int),()),()))else(bif decide (x12.1=(5:Int))then some ((((4:Int),x0,x1,x2,x3,x4,x5,x6,x7,x8,x9,(0:Int),(13:Int),()),()))else(bif decide (x12.1=(1:Int))then(bnd (reads_D m (x0,x1,x2,x3,x4,())) fun y123=>(bif !y123.1 then(bif decide ((0:Int)<(↑(List.length x12.2.1):Int))then some ((((4:Int),x0,x1,x2,x3,x4,x5,x6,x7,x8,x9,(0:Int),(13:Int),()),()))else some ((((4:Int),x0,x1,x2,x3,x4,x5,x6,x7,x8,x9,(0:Int),(0:Int),()),())))else some ((((4:Int),x0,x1,x2,x3,x4,x5,x6,x7,x8,x9,(0:Int),(0:Int),()),()))))else some ((((3:Int),x0,x1,x2,x3,x4,x5,x6,x7,x8,x9,(0:Int),x11,()),())))))))))
def ans83_con(m:Nat):Con:=⟨_,_,_,(vcons (aggp (vcon0 (datp (D.v (.int .u8 3))) q58)) (vcons q66 vnil)),bnil,0,fun _=>rfl,(rfz 0 q101 bnil),fun x b=>ans83_D m x.1.1 x.1.2.1 x.1.2.2.1 x.1.2.2.2.1 x.1.2.2.2.2.1 x.1.2.2.2.2.2.1 x.1.2.2.2.2.2.2.1 x.1.2.2.2.2.2.2.2.1 x.1.2.2.2.2.2.2.2.2.1 x.1.2.2.2.2.2.2.2.2.2.1 x.1.2.2.2.2.2.2.2.2.2.2.1 x.1.2.2.2.2.2.2.2.2.2.2.2.1 x.2.1⟩
theorem ans83_ok(m:Nat):ConOk Try.prog 63 (ans83_con m):=
 con_ok ty_mixed (ans83_tabok m) (fl:=fl8) (N:=300) (t:=(.node .leaf (.node (.node (.cut _ _ ans83_J0i [] ans83_J0o (ans83_J0f m) .leaf) .leaf) .leaf))) (tree_of (Eq.mpr (show TreeOk Try.prog (.node .leaf (.node (.node (.cut _ _ ans83_J0i [] ans83_J0o (ans83_J0f m) .leaf) .leaf) .leaf)) (bodyAt Try.prog 63 [])=(True∧(((CutOk Try.prog _ _ ans83_J0i ans83_J0o (ans83_J0f m) (bodyAt Try.prog 63 [true,false,false])∧True)∧True)∧True))by kernel_rfl) ⟨trivial,⟨⟨⟨ans83_J0k m,trivial⟩,trivial⟩,trivial⟩⟩)) (fun x b=>by kernel_rfl)
def ans84_tab(m:Nat):List (FuncId×Ent):= [(77,.con (reads_con m))]
theorem ans84_tabok(m:Nat):CallOk Try.prog (tabK Try.prog fl8 300 (ans84_tab m) 6):=tabK_ok ty_mixed ((tabok_con (reads_ok m) tabok_nil)) 6
def ans84_D(m:Nat)(x0 x1 x2 x3 x4:Int)(x5:List Int)(x6:Int)(x7:Bool)(x8:Int)(x9:List Int)(x10 x11:Int)(x12:Int×List Int×Unit):Option (TrnT×Unit):=
 some ((((4:Int),x0,x1,x2,x3,x4,x5,x6,x7,x8,x9,x10,x11,()),()))
def ans84_con(m:Nat):Con:=⟨_,_,_,(vcons (aggp (vcon0 (datp (D.v (.int .u8 4))) q58)) (vcons q66 vnil)),bnil,0,fun _=>rfl,(rfz 0 q101 bnil),fun x b=>ans84_D m x.1.1 x.1.2.1 x.1.2.2.1 x.1.2.2.2.1 x.1.2.2.2.2.1 x.1.2.2.2.2.2.1 x.1.2.2.2.2.2.2.1 x.1.2.2.2.2.2.2.2.1 x.1.2.2.2.2.2.2.2.2.1 x.1.2.2.2.2.2.2.2.2.2.1 x.1.2.2.2.2.2.2.2.2.2.2.1 x.1.2.2.2.2.2.2.2.2.2.2.2.1 x.2.1⟩
theorem ans84_ok(m:Nat):ConOk Try.prog 63 (ans84_con m):=
 con_ok ty_mixed (ans84_tabok m) (fl:=fl8) (N:=300) (t:= .leaf) (tree_of trivial) (fun x b=>by kernel_rfl)
def req8_tab(m:Nat):List (FuncId×Ent):= []
theorem req8_tabok(m:Nat):CallOk Try.prog (tabK Try.prog fl8 300 (req8_tab m) 6):=tabK_ok ty_mixed (tabok_nil) 6
def req8_D(m:Nat)(x0:Int×Int×Int×Int×Int×Unit)(x1:List Int)(x2:Int)(x3:List Int)(x4:List ClT):Option ((List Int×Bool×Unit)×q141×List ClT×Unit):=
 (bif growOb (1:Nat) ((0:Nat)+List.length x1)&&decide ((16:Nat)<nat_lit 38)then(bif growOb (32:Nat) (List.length x4+List.length [(x0.1,x0.2.1,x0.2.2.1,x0.2.2.2.1,x0.2.2.2.2.1,[]++x1,())])&&decide ((19:Nat)<nat_lit 38)then(bif decide ((0:Int)≤Int.tmod x0.2.1 (8:Int))then(bif decide (Go.bits .and .u8 (Int.fdiv x2 ((2:Int) ^ Min.min (Int.toNat (Int.tmod x0.2.1 (8:Int))) (Go.IntKind.bits .u8))) (1:Int)=(1:Int))then some ((([],false,()),(x2,x3,()),x4++ [(x0.1,x0.2.1,x0.2.2.1,x0.2.2.2.1,x0.2.2.2.2.1,[]++x1,())],()))else some (((x3,true,()),(x2,x3,()),x4++ [(x0.1,x0.2.1,x0.2.2.1,x0.2.2.2.1,x0.2.2.2.2.1,[]++x1,())],())))else none)else none)else none)
def req8_con(m:Nat):Con:=⟨_,_,_,(vcon0 (ptrp 0 0) (vcons q114 (vcons q54 vnil))),(bcons (boxp 89 (vcons q65 (vcons q54 (vcon0 (ownp 1) vnil)))) (bcons q34 bnil)),2,fun _=>rfl,(rfz 2 (tupp (vcons q54 q81)) (bcons (boxp 89 (vcons q65 (vcons q54 (vcon0 (ownp 1) vnil)))) (bcons q34 bnil))),fun x b=>req8_D m x.1 x.2.1 b.1.1 b.1.2.1 b.2.1⟩
theorem req8_ok(m:Nat):ConOk Try.prog 134 (req8_con m):=
 con_ok ty_mixed (req8_tabok m) (fl:=fl8) (N:=300) (t:= .leaf) (tree_of trivial) (fun x b=>by kernel_rfl)
end Go.Proofs.Ytngghkoghbpceaa
