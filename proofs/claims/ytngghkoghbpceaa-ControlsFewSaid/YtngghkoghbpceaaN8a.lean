/-
  Plain functions that the code reckons out to, with the proofs.
  Conditions: none.
-/
import Derived.Test.YtngghkoghbpceaaN8F
namespace Go.Proofs.Ytngghkoghbpceaa
set_option linter.unusedVariables false
set_option maxRecDepth 100000
def reads_tab(m:Nat):List (FuncId×Ent):= []
theorem reads_tabok(m:Nat):CallOk Try.prog (tabK Try.prog fl8 300 (reads_tab m) 6):=tabK_ok tyx (tbn) 6
def reads_J0{R:Type}(m:Nat)(a:Int×Int×Int×Int×Int×Unit)(k0:Bool→Option R):Option R:=
 (bif !decide (Go.bits .and .u8 a.1 (128:Int)=(0:Int))then k0 (decide ((0:Int)<a.2.2.2.2.1))else k0 (false))
def reads_J0i:=(spat 12 (tcon0 1 (ptrp 17 0) tnil) q133)
def reads_J0o:=(one .normal [] (spat 12 (tcons 2 (shp .b) tnil) hnil))
def reads_J0f(m:Nat):(R:Type)→(Unit×q146×Unit)→(q153→Option R)→Option R:=fun R x K=>q1 x (reads_J0 m) (fun a=>K ((a,()),()))
theorem reads_J0k(m:Nat):CutOk Try.prog _ _ reads_J0i reads_J0o (reads_J0f m) (bdA Try.prog 77 [true,false]):=
 cut_ok tyx (reads_tabok m) (fl:=fl8) (N:=300) (t:= .leaf) trivial (fun R x K=>by kernel_rfl)
def reads_D(m:Nat)(a:Int×Int×Int×Int×Int×Unit):Option (Bool×Unit):=
 (reads_J0 m a (fun b=>some ((b,()))))
def reads_con(m:Nat):Con:=⟨_,_,_,(vcons q114 vnil),bnil,0,fun _=>rfl,q132,fun x b=>reads_D m x.1⟩
theorem reads_ok(m:Nat):ConOk Try.prog 77 (reads_con m):=
 con_ok tyx (reads_tabok m) (fl:=fl8) (N:=300) (t:=(.node .leaf (.node (.cut _ _ reads_J0i [] reads_J0o (reads_J0f m) .leaf) .leaf))) (trO (tmk (by kernel_rfl) (ai trivial (ai (ai (reads_J0k m) trivial) trivial)))) (fun x b=>by kernel_rfl)
def writes_tab(m:Nat):List (FuncId×Ent):= []
theorem writes_tabok(m:Nat):CallOk Try.prog (tabK Try.prog fl8 300 (writes_tab m) 6):=tabK_ok tyx (tbn) 6
def writes_J0{R:Type}(m:Nat)(a:Int×Int×Int×Int×Int×Unit)(k0:Bool→Option R):Option R:=
 (bif decide (Go.bits .and .u8 a.1 (128:Int)=(0:Int))then k0 (decide ((0:Int)<a.2.2.2.2.1))else k0 (false))
def writes_J0i:=(spat 12 (tcon0 1 (ptrp 17 0) tnil) q133)
def writes_J0o:=(one .normal [] (spat 12 (tcons 2 (shp .b) tnil) hnil))
def writes_J0f(m:Nat):(R:Type)→(Unit×q146×Unit)→(q153→Option R)→Option R:=fun R x K=>q1 x (writes_J0 m) (fun a=>K ((a,()),()))
theorem writes_J0k(m:Nat):CutOk Try.prog _ _ writes_J0i writes_J0o (writes_J0f m) (bdA Try.prog 59 [true,false]):=
 cut_ok tyx (writes_tabok m) (fl:=fl8) (N:=300) (t:= .leaf) trivial (fun R x K=>by kernel_rfl)
def writes_D(m:Nat)(a:Int×Int×Int×Int×Int×Unit):Option (Bool×Unit):=
 (writes_J0 m a (fun b=>some ((b,()))))
def writes_con(m:Nat):Con:=⟨_,_,_,(vcons q114 vnil),bnil,0,fun _=>rfl,q132,fun x b=>writes_D m x.1⟩
theorem writes_ok(m:Nat):ConOk Try.prog 59 (writes_con m):=
 con_ok tyx (writes_tabok m) (fl:=fl8) (N:=300) (t:=(.node .leaf (.node (.cut _ _ writes_J0i [] writes_J0o (writes_J0f m) .leaf) .leaf))) (trO (tmk (by kernel_rfl) (ai trivial (ai (ai (writes_J0k m) trivial) trivial)))) (fun x b=>by kernel_rfl)
def fits8_tab(m:Nat):List (FuncId×Ent):= []
theorem fits8_tabok(m:Nat):CallOk Try.prog (tabK Try.prog fl8 300 (fits8_tab m) 6):=tabK_ok tyx (tbn) 6
def fits8_J0{R:Type}(m:Nat)(a:Int)(k0:Bool→Option R):Option R:=
 (bif decide (a=(8:Int))then k0 (true)else(bif decide (a=(16:Int))then k0 (true)else(bif decide (a=(32:Int))then k0 (true)else k0 (decide (a=(64:Int))))))
def fits8_J0i:=(spat 17 (tcons 0 q71 tnil) hnil)
def fits8_J0o:=(one .normal [] (spat 17 (tcons 2 (shp .b) tnil) hnil))
def fits8_J0f(m:Nat):(R:Type)→((Int×Unit)×Unit)→(q153→Option R)→Option R:=fun R x K=>q2 x (fits8_J0 m) (fun a=>K ((a,()),()))
theorem fits8_J0k(m:Nat):CutOk Try.prog _ _ fits8_J0i fits8_J0o (fits8_J0f m) (bdA Try.prog 58 [true,false]):=
 cut_ok tyx (fits8_tabok m) (fl:=fl8) (N:=300) (t:= .leaf) trivial (fun R x K=>by kernel_rfl)
def fits8_D(m:Nat)(a:Int):Option (Bool×Unit):=
 (fits8_J0 m a (fun b=>some ((b,()))))
def fits8_con(m:Nat):Con:=⟨_,_,_,(vcons q71 vnil),bnil,0,fun _=>rfl,q132,fun x b=>fits8_D m x.1⟩
theorem fits8_ok(m:Nat):ConOk Try.prog 58 (fits8_con m):=
 con_ok tyx (fits8_tabok m) (fl:=fl8) (N:=300) (t:=(.node .leaf (.node (.cut _ _ fits8_J0i [] fits8_J0o (fits8_J0f m) .leaf) .leaf))) (trO (tmk (by kernel_rfl) (ai trivial (ai (ai (fits8_J0k m) trivial) trivial)))) (fun x b=>by kernel_rfl)
def rwrites_tab(m:Nat):List (FuncId×Ent):= []
theorem rwrites_tabok(m:Nat):CallOk Try.prog (tabK Try.prog fl8 300 (rwrites_tab m) 6):=tabK_ok tyx (tbn) 6
def rwrites_J0{R:Type}(m:Nat)(a:Int×Int×Int×Int×Int×Unit)(k0:Bool→Option R):Option R:=
 (bif decide (a.1<(128:Int))then k0 (decide ((0:Int)<a.2.2.2.2.1))else k0 (false))
def rwrites_J0i:=(spat 11 (tcon0 1 (ptrp 17 0) tnil) q133)
def rwrites_J0o:=(one .normal [] (spat 11 (tcons 2 (shp .b) tnil) hnil))
def rwrites_J0f(m:Nat):(R:Type)→(Unit×q146×Unit)→(q153→Option R)→Option R:=fun R x K=>q1 x (rwrites_J0 m) (fun a=>K ((a,()),()))
theorem rwrites_J0k(m:Nat):CutOk Try.prog _ _ rwrites_J0i rwrites_J0o (rwrites_J0f m) (bdA Try.prog 61 [true,false]):=
 cut_ok tyx (rwrites_tabok m) (fl:=fl8) (N:=300) (t:= .leaf) trivial (fun R x K=>by kernel_rfl)
def rwrites_D(m:Nat)(a:Int×Int×Int×Int×Int×Unit):Option (Bool×Unit):=
 (rwrites_J0 m a (fun b=>some ((b,()))))
def rwrites_con(m:Nat):Con:=⟨_,_,_,(vcons q114 vnil),bnil,0,fun _=>rfl,q132,fun x b=>rwrites_D m x.1⟩
theorem rwrites_ok(m:Nat):ConOk Try.prog 61 (rwrites_con m):=
 con_ok tyx (rwrites_tabok m) (fl:=fl8) (N:=300) (t:=(.node .leaf (.node (.cut _ _ rwrites_J0i [] rwrites_J0o (rwrites_J0f m) .leaf) .leaf))) (trO (tmk (by kernel_rfl) (ai trivial (ai (ai (rwrites_J0k m) trivial) trivial)))) (fun x b=>by kernel_rfl)
def sizes_tab(m:Nat):List (FuncId×Ent):= []
theorem sizes_tabok(m:Nat):CallOk Try.prog (tabK Try.prog fl8 300 (sizes_tab m) 6):=tabK_ok tyx (tbn) 6
def sizes_D(m:Nat)(a:Int):Option (Int×Unit):=
 (bif decide ((0:Int)≤Int.tmod a (4:Int))then some ((IntKind.wrap .i64 ((8:Int)*(2:Int) ^ Min.min (Int.toNat (Int.tmod a (4:Int))) (IntKind.bits .i64)),()))else none)
def sizes_con(m:Nat):Con:=⟨_,_,_,(vcons q65 vnil),bnil,0,fun _=>rfl,(rfz 0 q71 bnil),fun x b=>sizes_D m x.1⟩
theorem sizes_ok(m:Nat):ConOk Try.prog 26 (sizes_con m):=
 con_ok tyx (sizes_tabok m) (fl:=fl8) (N:=300) (t:= .leaf) (trO trivial) (fun x b=>by kernel_rfl)
def split8_tab(m:Nat):List (FuncId×Ent):= []
theorem split8_tabok(m:Nat):CallOk Try.prog (tabK Try.prog fl8 300 (split8_tab m) 6):=tabK_ok tyx (tbn) 6
def split8_D(m:Nat)(a:Int×Int×Int×Int×Int×Unit):Option q145:=
 some (([a.1,a.2.1,IntKind.wrap .u8 (List.getD [a.2.2.1,a.2.2.2.1,a.2.2.2.2.1] (Int.toNat (0:Int)) (0:Int)),IntKind.wrap .u8 (Int.fdiv (List.getD [a.2.2.1,a.2.2.2.1,a.2.2.2.2.1] (Int.toNat (0:Int)) (0:Int)) ((2:Int) ^ Min.min (Int.toNat (8:Int)) (IntKind.bits .u16))),IntKind.wrap .u8 (List.getD [a.2.2.1,a.2.2.2.1,a.2.2.2.2.1] (Int.toNat (IntKind.wrap .i64 ((0:Int)+(1:Int)))) (0:Int)),IntKind.wrap .u8 (Int.fdiv (List.getD [a.2.2.1,a.2.2.2.1,a.2.2.2.2.1] (Int.toNat (IntKind.wrap .i64 ((0:Int)+(1:Int)))) (0:Int)) ((2:Int) ^ Min.min (Int.toNat (8:Int)) (IntKind.bits .u16))),IntKind.wrap .u8 (List.getD [a.2.2.1,a.2.2.2.1,a.2.2.2.2.1] (Int.toNat (IntKind.wrap .i64 (IntKind.wrap .i64 ((0:Int)+(1:Int))+(1:Int)))) (0:Int)),IntKind.wrap .u8 (Int.fdiv (List.getD [a.2.2.1,a.2.2.2.1,a.2.2.2.2.1] (Int.toNat (IntKind.wrap .i64 (IntKind.wrap .i64 ((0:Int)+(1:Int))+(1:Int)))) (0:Int)) ((2:Int) ^ Min.min (Int.toNat (8:Int)) (IntKind.bits .u16)))],()))
def split8_con(m:Nat):Con:=⟨_,_,_,(vcons q114 vnil),bnil,0,fun _=>rfl,(rfz 0 q54 bnil),fun x b=>split8_D m x.1⟩
theorem split8_ok(m:Nat):ConOk Try.prog 67 (split8_con m):=
 con_ok tyx (split8_tabok m) (fl:=fl8) (N:=300) (t:= .leaf) (trO trivial) (fun x b=>by kernel_rfl)
def join8_tab(m:Nat):List (FuncId×Ent):= []
theorem join8_tabok(m:Nat):CallOk Try.prog (tabK Try.prog fl8 300 (join8_tab m) 6):=tabK_ok tyx (tbn) 6
def join8_D(m:Nat)(a:List Int):Option ((q146×Int×Unit)×Unit):=
 (bif !decide ((↑(List.length a):Int)=(8:Int))then some (((((0:Int),(0:Int),(0:Int),(0:Int),(0:Int),()),(5:Int),()),()))else(bif inB (IntKind.wrap .i64 (IntKind.wrap .i64 ((2:Int)*(0:Int))+(2:Int))) (List.length a)then(bif inB (IntKind.wrap .i64 (IntKind.wrap .i64 ((2:Int)*(0:Int))+(3:Int))) (List.length a)then(bif inB (IntKind.wrap .i64 (IntKind.wrap .i64 ((2:Int)*IntKind.wrap .i64 ((0:Int)+(1:Int)))+(2:Int))) (List.length a)then(bif inB (IntKind.wrap .i64 (IntKind.wrap .i64 ((2:Int)*IntKind.wrap .i64 ((0:Int)+(1:Int)))+(3:Int))) (List.length a)then(bif inB (IntKind.wrap .i64 (IntKind.wrap .i64 ((2:Int)*IntKind.wrap .i64 (IntKind.wrap .i64 ((0:Int)+(1:Int))+(1:Int)))+(2:Int))) (List.length a)then(bif inB (IntKind.wrap .i64 (IntKind.wrap .i64 ((2:Int)*IntKind.wrap .i64 (IntKind.wrap .i64 ((0:Int)+(1:Int))+(1:Int)))+(3:Int))) (List.length a)then(bif inB (0:Int) (List.length a)then(bif inB (1:Int) (List.length a)then some ((((List.getD a (Int.toNat (0:Int)) (0:Int),List.getD a (Int.toNat (1:Int)) (0:Int),Go.bits .or .u16 (IntKind.wrap .u16 (List.getD a (Int.toNat (IntKind.wrap .i64 (IntKind.wrap .i64 ((2:Int)*(0:Int))+(2:Int)))) (0:Int))) (IntKind.wrap .u16 (IntKind.wrap .u16 (List.getD a (Int.toNat (IntKind.wrap .i64 (IntKind.wrap .i64 ((2:Int)*(0:Int))+(3:Int)))) (0:Int))*(2:Int) ^ Min.min (Int.toNat (8:Int)) (IntKind.bits .u16))),Go.bits .or .u16 (IntKind.wrap .u16 (List.getD a (Int.toNat (IntKind.wrap .i64 (IntKind.wrap .i64 ((2:Int)*IntKind.wrap .i64 ((0:Int)+(1:Int)))+(2:Int)))) (0:Int))) (IntKind.wrap .u16 (IntKind.wrap .u16 (List.getD a (Int.toNat (IntKind.wrap .i64 (IntKind.wrap .i64 ((2:Int)*IntKind.wrap .i64 ((0:Int)+(1:Int)))+(3:Int)))) (0:Int))*(2:Int) ^ Min.min (Int.toNat (8:Int)) (IntKind.bits .u16))),Go.bits .or .u16 (IntKind.wrap .u16 (List.getD a (Int.toNat (IntKind.wrap .i64 (IntKind.wrap .i64 ((2:Int)*IntKind.wrap .i64 (IntKind.wrap .i64 ((0:Int)+(1:Int))+(1:Int)))+(2:Int)))) (0:Int))) (IntKind.wrap .u16 (IntKind.wrap .u16 (List.getD a (Int.toNat (IntKind.wrap .i64 (IntKind.wrap .i64 ((2:Int)*IntKind.wrap .i64 (IntKind.wrap .i64 ((0:Int)+(1:Int))+(1:Int)))+(3:Int)))) (0:Int))*(2:Int) ^ Min.min (Int.toNat (8:Int)) (IntKind.bits .u16))),()),(0:Int),()),()))else none)else none)else none)else none)else none)else none)else none)else none))
def join8_con(m:Nat):Con:=⟨_,_,_,(vcons q54 vnil),bnil,0,fun _=>rfl,(rfz 0 (tupp (vcons q114 (vcons q71 vnil))) bnil),fun x b=>join8_D m x.1⟩
theorem join8_ok(m:Nat):ConOk Try.prog 144 (join8_con m):=
 con_ok tyx (join8_tabok m) (fl:=fl8) (N:=300) (t:= .leaf) (trO trivial) (fun x b=>by kernel_rfl)
def clone8_tab(m:Nat):List (FuncId×Ent):= []
theorem clone8_tabok(m:Nat):CallOk Try.prog (tabK Try.prog fl8 300 (clone8_tab m) 6):=tabK_ok tyx (tbn) 6
def clone8_D(m:Nat)(a:List Int):Option q145:=
 (bif makeOb (1:Nat) (0:Int) (↑(List.length a):Int) true then(bif growOb (1:Nat) (List.length (List.replicate (Int.toNat (0:Int)) (0:Int))+List.length a)then some ((List.replicate (Int.toNat (0:Int)) (0:Int)++a,()))else none)else none)
def clone8_con(m:Nat):Con:=⟨_,_,_,(vcons q54 vnil),bnil,0,fun _=>rfl,(rfz 0 q54 bnil),fun x b=>clone8_D m x.1⟩
theorem clone8_ok(m:Nat):ConOk Try.prog 60 (clone8_con m):=
 con_ok tyx (clone8_tabok m) (fl:=fl8) (N:=300) (t:= .leaf) (trO trivial) (fun x b=>by kernel_rfl)
def next8_tab(m:Nat):List (FuncId×Ent):= [(77,.con (reads_con m)),(67,.con (split8_con m)),(60,.con (clone8_con m))]
theorem next8_tabok(m:Nat):CallOk Try.prog (tabK Try.prog fl8 300 (next8_tab m) 6):=tabK_ok tyx ((tbc (reads_ok m) (tbc (split8_ok m) (tbc (clone8_ok m) tbn)))) 6
def next8_D(m:Nat)(a:TrnT):Option ((q144×Bool×Unit)×Unit):=
 (bif decide (a.1=(1:Int))then(bnd (split8_D m (a.2.1,a.2.2.1,a.2.2.2.1,a.2.2.2.2.1,a.2.2.2.2.2.1,())) fun b=>some (((((0:Int),(0:Int),(13:Int),false,false,(0:Int),b),true,()),())))else(bif decide (a.1=(2:Int))then(bnd (reads_D m (a.2.1,a.2.2.1,a.2.2.2.1,a.2.2.2.2.1,a.2.2.2.2.2.1,())) fun c=>(bif c.1 then some (((((0:Int),(0:Int),(9:Int),a.2.2.2.2.2.2.2.2.1,false,a.2.2.2.2.2.2.2.1,[],()),true,()),()))else(bif decide ((0:Int)≤a.2.2.2.2.2.2.2.2.2.1)&&(decide (a.2.2.2.2.2.2.2.2.2.1≤if(↑(List.length a.2.2.2.2.2.2.1):Int)<IntKind.wrap .i64 (a.2.2.2.2.2.2.2.2.2.1+a.2.2.2.2.2.2.2.1)then(↑(List.length a.2.2.2.2.2.2.1):Int)else IntKind.wrap .i64 (a.2.2.2.2.2.2.2.2.2.1+a.2.2.2.2.2.2.2.1))&&decide (Int.toNat (if(↑(List.length a.2.2.2.2.2.2.1):Int)<IntKind.wrap .i64 (a.2.2.2.2.2.2.2.2.2.1+a.2.2.2.2.2.2.2.1)then(↑(List.length a.2.2.2.2.2.2.1):Int)else IntKind.wrap .i64 (a.2.2.2.2.2.2.2.2.2.1+a.2.2.2.2.2.2.2.1))≤List.length a.2.2.2.2.2.2.1))then(bnd (clone8_D m (List.drop (Int.toNat a.2.2.2.2.2.2.2.2.2.1) (List.take (Int.toNat (if(↑(List.length a.2.2.2.2.2.2.1):Int)<IntKind.wrap .i64 (a.2.2.2.2.2.2.2.2.2.1+a.2.2.2.2.2.2.2.1)then(↑(List.length a.2.2.2.2.2.2.1):Int)else IntKind.wrap .i64 (a.2.2.2.2.2.2.2.2.2.1+a.2.2.2.2.2.2.2.1))) a.2.2.2.2.2.2.1))) fun d=>some (((((0:Int),(0:Int),(1:Int),a.2.2.2.2.2.2.2.2.1,false,(0:Int),d),true,()),())))else none)))else(bif decide (a.1=(3:Int))then(bnd (reads_D m (a.2.1,a.2.2.1,a.2.2.2.1,a.2.2.2.2.1,a.2.2.2.2.2.1,())) fun e=>(bif e.1 then some (((((0:Int),(0:Int),(1:Int),true,false,(0:Int),[],()),true,()),()))else some (((((0:Int),(0:Int),(9:Int),true,false,(0:Int),[],()),true,()),()))))else some (((((0:Int),(0:Int),(0:Int),false,false,(0:Int),[],()),false,()),())))))
def next8_con(m:Nat):Con:=⟨_,_,_,(vcons q101 vnil),bnil,0,fun _=>rfl,(rfz 0 (tupp (vcons (shp (.cons (.i .u8) q59)) q81)) bnil),fun x b=>next8_D m x.1⟩
theorem next8_ok(m:Nat):ConOk Try.prog 62 (next8_con m):=
 con_ok tyx (next8_tabok m) (fl:=fl8) (N:=300) (t:= .leaf) (trO trivial) (fun x b=>by kernel_rfl)
def end8_tab(m:Nat):List (FuncId×Ent):= [(60,.con (clone8_con m))]
theorem end8_tabok(m:Nat):CallOk Try.prog (tabK Try.prog fl8 300 (end8_tab m) 6):=tabK_ok tyx ((tbc (clone8_ok m) tbn)) 6
def end8_D(m:Nat)(a:TrnT):Option ((List Int×Int×Unit)×Unit):=
 (bif decide (a.1=(0:Int))then some ((([],(2:Int),()),()))else(bif !decide (a.1=(4:Int))then some ((([],(6:Int),()),()))else(bif !decide (a.2.2.2.2.2.2.2.2.2.2.2.2.1=(0:Int))then some ((([],a.2.2.2.2.2.2.2.2.2.2.2.2),()))else(bnd (clone8_D m a.2.2.2.2.2.2.2.2.2.2.1) fun b=>some (((b.1,(0:Int),()),()))))))
def end8_con(m:Nat):Con:=⟨_,_,_,(vcons q101 vnil),bnil,0,fun _=>rfl,(rfz 0 (tupp (vcons q54 (vcons q71 vnil))) bnil),fun x b=>end8_D m x.1⟩
theorem end8_ok(m:Nat):ConOk Try.prog 64 (end8_con m):=
 con_ok tyx (end8_tabok m) (fl:=fl8) (N:=300) (t:= .leaf) (trO trivial) (fun x b=>by kernel_rfl)
def outL_tab(m:Nat):List (FuncId×Ent):= [(61,.con (rwrites_con m))]
theorem outL_tabok(m:Nat):CallOk Try.prog (tabK Try.prog fl8 300 (outL_tab m) 6):=tabK_ok tyx ((tbc (rwrites_ok m) tbn)) 6
def outL_J0{R:Type}(m:Nat)(a:Int)(c:Int×Int×Int×Int×Int×List Int×Int×Unit)(b:List Int)(k0:Option R)(k1:Option R):Option R:=
 (bif decide (a<(↑(List.length b):Int))then k0 else k1)
def outL_J0i:=(spat 46 (tcon0 1 (ptrp 17 0) (tcon0 3 (ownp 29) (tcons 4 q71 tnil))) q122)
def outL_J0o:=(two (one .normal [] (spat 46 (tcon0 1 (ptrp 17 0) (tcon0 3 (ownp 29) (tcons 4 q71 (tcon0 19 (ptrp 17 5) (tcons 20 q54 (tcons 21 q71 (tcons 22 (shp .b) (tcons 23 (shp .b) tnil)))))))) q122)) (one .normal [] (spat 46 (tcon0 1 (ptrp 17 0) (tcon0 3 (ownp 29) (tcons 4 q71 (tcon0 23 (datp (.v (.bool false))) tnil)))) q122)))
def outL_J0f(m:Nat):(R:Type)→((Int×Unit)×q142×List Int×Unit)→(((Int×List Int×Int×Bool×Bool×Unit)×q142×List Int×Unit ⊕ (Int×Unit)×q142×List Int×Unit)→Option R)→Option R:=fun R x K=>q3 x (outL_J0 m) (K (Sum.inl ((x.1.1,x.2.1.2.2.2.2.2.1,(↑(List.length x.2.1.2.2.2.2.2.1):Int),(decide ((0:Int)<(↑(List.length x.2.1.2.2.2.2.2.1):Int))),(decide ((0:Int)<(↑(List.length x.2.1.2.2.2.2.2.1):Int))),()),x.2))) (K (Sum.inr x))
theorem outL_J0k(m:Nat):CutOk Try.prog _ _ outL_J0i outL_J0o (outL_J0f m) (bdA Try.prog 28 [true,true,true,false,true,false,false,false,false]):=
 cut_ok tyx (outL_tabok m) (fl:=fl8) (N:=300) (t:= .leaf) trivial (fun R x K=>by kernel_rfl)
def outL_L0(m:Nat):Nat→Int→q142→List Int→Option (Unit×List Int×Unit)
 |0,_,_,_=>none
 |n+1,b,a,c=>(outL_J0 m b a c ((bif decide ((0:Int)<(↑(List.length a.2.2.2.2.2.1):Int))then(bif !decide ((↑(List.length a.2.2.2.2.2.1):Int)=(0:Int))then(bif inB (Int.tmod b (↑(List.length a.2.2.2.2.2.1):Int)) (List.length a.2.2.2.2.2.1)then(bif !decide ((↑(List.length a.2.2.2.2.2.1):Int)=(0:Int))then(bif inB b (List.length c)then(bif decide (Int.toNat b<List.length c)then outL_L0 m n (IntKind.wrap .i64 (b+(1:Int))) a (List.set c (Int.toNat b) (IntKind.wrap .u8 (List.getD a.2.2.2.2.2.1 (Int.toNat (Int.tmod b (↑(List.length a.2.2.2.2.2.1):Int))) (0:Int)+IntKind.wrap .u8 (IntKind.wrap .i64 (Int.tdiv b (↑(List.length a.2.2.2.2.2.1):Int))))))else none)else none)else none)else none)else none)else some ((),(c,())))) (some ((),(c,()))))
def outL_L0i:=(spat 46 (tcon0 1 (ptrp 17 0) (tcon0 3 (ownp 29) (tcons 4 q71 tnil))) q122)
def outL_L0o:=(one (.exit 0) [] (spat 46 (tcon0 3 (ownp 29) tnil) (hcons 29 (intsp 5 .u8) hnil)))
def outL_L0g:List Gh:= []
def outL_L0f(m n:Nat):=fun(x:(Int×Unit)×q142×List Int×Unit)=>outL_L0 m n x.1.1 x.2.1 x.2.2.1
theorem outL_L0k(m:Nat): ∀n,LoopOk Try.prog _ _ outL_L0i outL_L0o (outL_L0f m n) (bdA Try.prog 28 [true,true,true,false,true,false,false]):=
 loop_ok tyx (outL_tabok m) (fl:=fl8) (gh:=outL_L0g) (outL_L0f m) (N:=300) (t:=(.node (.node (.cut _ _ outL_J0i [] outL_J0o (outL_J0f m) .leaf) .leaf) .leaf)) (tmk (by kernel_rfl) (ai (ai (ai (outL_J0k m) trivial) trivial) trivial)) (fun _=>rfl) (fun n x=>by kernel_rfl)
def outL_D(m:Nat)(a:Int×Int×Int×Int×Int×List Int×Int×Unit):Option q145:=
 (bnd (rwrites_D m (a.1,a.2.1,a.2.2.1,a.2.2.2.1,a.2.2.2.2.1,())) fun b=>(bif !b.1 then some (([],()))else(bif makeOb (1:Nat) (IntKind.wrap .i64 a.2.2.2.2.1) (IntKind.wrap .i64 a.2.2.2.2.1) true then(bnd (outL_L0 m m ((0:Int)) a (List.replicate (Int.toNat (IntKind.wrap .i64 a.2.2.2.2.1)) (0:Int))) fun c=>some c.2)else none)))
def outL_con(m:Nat):Con:=⟨_,_,_,(vcons q86 vnil),bnil,0,fun _=>rfl,(rfz 0 q54 bnil),fun x b=>outL_D m x.1⟩
theorem outL_ok(m:Nat):ConOk Try.prog 28 (outL_con m):=
 con_ok tyx (outL_tabok m) (fl:=fl8) (N:=300) (t:=(.node .leaf (.node .leaf (.node .leaf (.node (.node .leaf (.node (.loop _ _ outL_L0i outL_L0g outL_L0o (outL_L0f m m)) .leaf)) .leaf))))) (trO (tmk (by kernel_rfl) (ai trivial (ai trivial (ai trivial (ai (ai trivial (outL_L0k m m)) trivial)))))) (fun x b=>by kernel_rfl)
def ans80_tab(m:Nat):List (FuncId×Ent):= [(77,.con (reads_con m))]
theorem ans80_tabok(m:Nat):CallOk Try.prog (tabK Try.prog fl8 300 (ans80_tab m) 6):=tabK_ok tyx ((tbc (reads_ok m) tbn)) 6
def ans80_D(m:Nat)(a b c d e:Int)(f:List Int)(g:Int)(h:Bool)(i:Int)(j:List Int)(l o:Int)(p:Int×List Int×Unit):Option (TrnT×Unit):=
 some ((((0:Int),a,b,c,d,e,f,g,h,i,j,l,o,()),()))
def ans80_con(m:Nat):Con:=⟨_,_,_,(vcons (aggp (vcon0 (datp (D.v (.int .u8 0))) q58)) (vcons q66 vnil)),bnil,0,fun _=>rfl,(rfz 0 q101 bnil),fun x b=>ans80_D m x.1.1 x.1.2.1 x.1.2.2.1 x.1.2.2.2.1 x.1.2.2.2.2.1 x.1.2.2.2.2.2.1 x.1.2.2.2.2.2.2.1 x.1.2.2.2.2.2.2.2.1 x.1.2.2.2.2.2.2.2.2.1 x.1.2.2.2.2.2.2.2.2.2.1 x.1.2.2.2.2.2.2.2.2.2.2.1 x.1.2.2.2.2.2.2.2.2.2.2.2.1 x.2.1⟩
theorem ans80_ok(m:Nat):ConOk Try.prog 63 (ans80_con m):=
 con_ok tyx (ans80_tabok m) (fl:=fl8) (N:=300) (t:= .leaf) (trO trivial) (fun x b=>by kernel_rfl)
def ans81_tab(m:Nat):List (FuncId×Ent):= [(77,.con (reads_con m))]
theorem ans81_tabok(m:Nat):CallOk Try.prog (tabK Try.prog fl8 300 (ans81_tab m) 6):=tabK_ok tyx ((tbc (reads_ok m) tbn)) 6
def ans81_J0{R:Type}(m:Nat)(a:TrnT)(b:Int×List Int×Unit)(c d e f g h i:Int)(j:Bool)(l o p:Int)(k0:Bool→Option R):Option R:=
 (bif decide (a.1=(0:Int))then k0 (true)else(bif decide (a.1=(4:Int))then k0 (true)else(bif decide (b.1=(0:Int))then k0 (true)else k0 (decide ((6:Int)<b.1)))))
def ans81_J0i:=(spat 57 (tcon0 2 (ptrp 18 0) q106) q49)
def ans81_J0o:=q93
def ans81_J0f(m:Nat):(R:Type)→(Unit×TrnT×q141×q147×Unit)→(q177→Option R)→Option R:=fun R x K=>q4 x (ans81_J0 m) (fun a=>K ((a,()),x.2))
theorem ans81_J0k(m:Nat):CutOk Try.prog _ _ ans81_J0i ans81_J0o (ans81_J0f m) (bdA Try.prog 63 [true,false,false]):=
 cut_ok tyx (ans81_tabok m) (fl:=fl8) (N:=300) (t:= .leaf) trivial (fun R x K=>by kernel_rfl)
def ans81_D(m:Nat)(b c d e a:Int)(f:List Int)(g:Int)(h:Bool)(i:Int)(j:List Int)(o l:Int)(p:Int×List Int×Unit):Option (TrnT×Unit):=
 (ans81_J0 m (((1:Int),b,c,d,e,a,f,g,h,i,j,o,l,())) p ((0:Int)) ((0:Int)) ((0:Int)) ((0:Int)) ((0:Int)) ((0:Int)) ((0:Int)) (false) ((0:Int)) ((0:Int)) ((0:Int)) (fun q=>(bif q then some ((((1:Int),b,c,d,e,a,f,g,h,i,j,o,l,()),()))else(bif decide (p.1=(4:Int))then(bif decide (IntKind.wrap .i64 (o+(1:Int))=(3:Int))then some ((((4:Int),b,c,d,e,a,f,g,h,i,j,IntKind.wrap .i64 (o+(1:Int)),(11:Int),()),()))else some ((((1:Int),b,c,d,e,a,f,g,h,i,j,IntKind.wrap .i64 (o+(1:Int)),l,()),())))else(bif decide (p.1=(3:Int))then some ((((4:Int),b,c,d,e,a,f,g,h,i,j,(0:Int),(12:Int),()),()))else(bif decide (p.1=(5:Int))then some ((((4:Int),b,c,d,e,a,f,g,h,i,j,(0:Int),(13:Int),()),()))else(bif decide (p.1=(1:Int))then(bif decide ((0:Int)<a)then some ((((2:Int),b,c,d,e,a,f,g,h,i,j,(0:Int),l,()),()))else some ((((3:Int),b,c,d,e,a,f,g,h,i,j,(0:Int),l,()),())))else some ((((1:Int),b,c,d,e,a,f,g,h,i,j,(0:Int),l,()),())))))))))
def ans81_con(m:Nat):Con:=⟨_,_,_,(vcons (aggp (vcon0 (datp (D.v (.int .u8 1))) q58)) (vcons q66 vnil)),bnil,0,fun _=>rfl,(rfz 0 q101 bnil),fun x b=>ans81_D m x.1.1 x.1.2.1 x.1.2.2.1 x.1.2.2.2.1 x.1.2.2.2.2.1 x.1.2.2.2.2.2.1 x.1.2.2.2.2.2.2.1 x.1.2.2.2.2.2.2.2.1 x.1.2.2.2.2.2.2.2.2.1 x.1.2.2.2.2.2.2.2.2.2.1 x.1.2.2.2.2.2.2.2.2.2.2.1 x.1.2.2.2.2.2.2.2.2.2.2.2.1 x.2.1⟩
theorem ans81_ok(m:Nat):ConOk Try.prog 63 (ans81_con m):=
 con_ok tyx (ans81_tabok m) (fl:=fl8) (N:=300) (t:=(.node .leaf (.node (.node (.cut _ _ ans81_J0i [] ans81_J0o (ans81_J0f m) .leaf) .leaf) .leaf))) (trO (tmk (by kernel_rfl) (ai trivial (ai (ai (ai (ans81_J0k m) trivial) trivial) trivial)))) (fun x b=>by kernel_rfl)
def ans82_tab(m:Nat):List (FuncId×Ent):= [(77,.con (reads_con m))]
theorem ans82_tabok(m:Nat):CallOk Try.prog (tabK Try.prog fl8 300 (ans82_tab m) 6):=tabK_ok tyx ((tbc (reads_ok m) tbn)) 6
def ans82_J0{R:Type}(m:Nat)(a:TrnT)(b:Int×List Int×Unit)(c d e f g h i:Int)(j:Bool)(l o p:Int)(k0:Bool→Option R):Option R:=
 (bif decide (a.1=(0:Int))then k0 (true)else(bif decide (a.1=(4:Int))then k0 (true)else(bif decide (b.1=(0:Int))then k0 (true)else k0 (decide ((6:Int)<b.1)))))
def ans82_J0i:=(spat 57 (tcon0 2 (ptrp 18 0) q106) q49)
def ans82_J0o:=q93
def ans82_J0f(m:Nat):(R:Type)→(Unit×TrnT×q141×q147×Unit)→(q177→Option R)→Option R:=fun R x K=>q4 x (ans82_J0 m) (fun a=>K ((a,()),x.2))
theorem ans82_J0k(m:Nat):CutOk Try.prog _ _ ans82_J0i ans82_J0o (ans82_J0f m) (bdA Try.prog 63 [true,false,false]):=
 cut_ok tyx (ans82_tabok m) (fl:=fl8) (N:=300) (t:= .leaf) trivial (fun R x K=>by kernel_rfl)
def ans82_D(m:Nat)(f g h i d:Int)(c:List Int)(b:Int)(j:Bool)(e:Int)(a:List Int)(p o:Int)(l:Int×List Int×Unit):Option (TrnT×Unit):=
 (ans82_J0 m (((2:Int),f,g,h,i,d,c,b,j,e,a,p,o,())) l ((0:Int)) ((0:Int)) ((0:Int)) ((0:Int)) ((0:Int)) ((0:Int)) ((0:Int)) (false) ((0:Int)) ((0:Int)) ((0:Int)) (fun q=>(bif q then some ((((2:Int),f,g,h,i,d,c,b,j,e,a,p,o,()),()))else(bif decide (l.1=(4:Int))then(bif decide (IntKind.wrap .i64 (p+(1:Int))=(3:Int))then some ((((4:Int),f,g,h,i,d,c,b,j,e,a,IntKind.wrap .i64 (p+(1:Int)),(11:Int),()),()))else some ((((2:Int),f,g,h,i,d,c,b,j,e,a,IntKind.wrap .i64 (p+(1:Int)),o,()),())))else(bif decide (l.1=(3:Int))then some ((((4:Int),f,g,h,i,d,c,b,j,e,a,(0:Int),(12:Int),()),()))else(bif decide (l.1=(5:Int))then some ((((4:Int),f,g,h,i,d,c,b,j,e,a,(0:Int),(13:Int),()),()))else(bif decide (l.1=(1:Int))then(bnd (reads_D m (f,g,h,i,d,())) fun r=>(bif r.1 then(bif decide (b<(↑(List.length l.2.1):Int))then some ((((4:Int),f,g,h,i,d,c,b,j,e,a,(0:Int),(13:Int),()),()))else(bif decide (IntKind.wrap .i64 d<IntKind.wrap .i64 ((↑(List.length a):Int)+(↑(List.length l.2.1):Int)))then some ((((4:Int),f,g,h,i,d,c,b,j,e,a,(0:Int),(13:Int),()),()))else(bif decide ((0:Int)≤(↑(List.length a):Int))&&(decide ((↑(List.length a):Int)≤(↑(List.length a):Int))&&decide (Int.toNat (↑(List.length a):Int)≤List.length a))then(bif decide (List.length l.2.1=(0:Nat))then(bif decide ((↑(List.length l.2.1):Int)<b)then some ((((3:Int),f,g,h,i,d,c,b,!j,e,List.take (Int.toNat (↑(List.length a):Int)) a,(0:Int),o,()),()))else(bif decide ((↑(List.length (List.take (Int.toNat (↑(List.length a):Int)) a)):Int)=IntKind.wrap .i64 d)then some ((((3:Int),f,g,h,i,d,c,b,!j,e,List.take (Int.toNat (↑(List.length a):Int)) a,(0:Int),o,()),()))else some ((((2:Int),f,g,h,i,d,c,b,!j,e,List.take (Int.toNat (↑(List.length a):Int)) a,(0:Int),o,()),()))))else(bif decide (Int.toNat (↑(List.length a):Int)=List.length (List.take (Int.toNat (↑(List.length a):Int)) a))&&(decide ((0:Nat)<List.length l.2.1)&&growOb (1:Nat) (List.length (List.take (Int.toNat (↑(List.length a):Int)) a)+List.length l.2.1))then(bif decide ((↑(List.length l.2.1):Int)<b)then some ((((3:Int),f,g,h,i,d,c,b,!j,e,List.take (Int.toNat (↑(List.length a):Int)) a++l.2.1,(0:Int),o,()),()))else(bif decide ((↑(List.length (List.take (Int.toNat (↑(List.length a):Int)) a++l.2.1)):Int)=IntKind.wrap .i64 d)then some ((((3:Int),f,g,h,i,d,c,b,!j,e,List.take (Int.toNat (↑(List.length a):Int)) a++l.2.1,(0:Int),o,()),()))else some ((((2:Int),f,g,h,i,d,c,b,!j,e,List.take (Int.toNat (↑(List.length a):Int)) a++l.2.1,(0:Int),o,()),()))))else none))else none)))else(bif decide ((if(↑(List.length c):Int)<IntKind.wrap .i64 (e+b)then(↑(List.length c):Int)else IntKind.wrap .i64 (e+b))=(↑(List.length c):Int))then some ((((3:Int),f,g,h,i,d,c,b,!j,if(↑(List.length c):Int)<IntKind.wrap .i64 (e+b)then(↑(List.length c):Int)else IntKind.wrap .i64 (e+b),a,(0:Int),o,()),()))else some ((((2:Int),f,g,h,i,d,c,b,!j,if(↑(List.length c):Int)<IntKind.wrap .i64 (e+b)then(↑(List.length c):Int)else IntKind.wrap .i64 (e+b),a,(0:Int),o,()),())))))else some ((((2:Int),f,g,h,i,d,c,b,j,e,a,(0:Int),o,()),())))))))))
def ans82_con(m:Nat):Con:=⟨_,_,_,(vcons (aggp (vcon0 (datp (D.v (.int .u8 2))) q58)) (vcons q66 vnil)),bnil,0,fun _=>rfl,(rfz 0 q101 bnil),fun x b=>ans82_D m x.1.1 x.1.2.1 x.1.2.2.1 x.1.2.2.2.1 x.1.2.2.2.2.1 x.1.2.2.2.2.2.1 x.1.2.2.2.2.2.2.1 x.1.2.2.2.2.2.2.2.1 x.1.2.2.2.2.2.2.2.2.1 x.1.2.2.2.2.2.2.2.2.2.1 x.1.2.2.2.2.2.2.2.2.2.2.1 x.1.2.2.2.2.2.2.2.2.2.2.2.1 x.2.1⟩
theorem ans82_ok(m:Nat):ConOk Try.prog 63 (ans82_con m):=
 con_ok tyx (ans82_tabok m) (fl:=fl8) (N:=300) (t:=(.node .leaf (.node (.node (.cut _ _ ans82_J0i [] ans82_J0o (ans82_J0f m) .leaf) .leaf) .leaf))) (trO (tmk (by kernel_rfl) (ai trivial (ai (ai (ai (ans82_J0k m) trivial) trivial) trivial)))) (fun x b=>by kernel_rfl)
def ans83_tab(m:Nat):List (FuncId×Ent):= [(77,.con (reads_con m))]
theorem ans83_tabok(m:Nat):CallOk Try.prog (tabK Try.prog fl8 300 (ans83_tab m) 6):=tabK_ok tyx ((tbc (reads_ok m) tbn)) 6
def ans83_J0{R:Type}(m:Nat)(a:TrnT)(b:Int×List Int×Unit)(c d e f g h i:Int)(j:Bool)(l o p:Int)(k0:Bool→Option R):Option R:=
 (bif decide (a.1=(0:Int))then k0 (true)else(bif decide (a.1=(4:Int))then k0 (true)else(bif decide (b.1=(0:Int))then k0 (true)else k0 (decide ((6:Int)<b.1)))))
def ans83_J0i:=(spat 57 (tcon0 2 (ptrp 18 0) q106) q49)
def ans83_J0o:=q93
def ans83_J0f(m:Nat):(R:Type)→(Unit×TrnT×q141×q147×Unit)→(q177→Option R)→Option R:=fun R x K=>q4 x (ans83_J0 m) (fun a=>K ((a,()),x.2))
theorem ans83_J0k(m:Nat):CutOk Try.prog _ _ ans83_J0i ans83_J0o (ans83_J0f m) (bdA Try.prog 63 [true,false,false]):=
 cut_ok tyx (ans83_tabok m) (fl:=fl8) (N:=300) (t:= .leaf) trivial (fun R x K=>by kernel_rfl)
def ans83_D(m:Nat)(a b c d e:Int)(f:List Int)(g:Int)(h:Bool)(i:Int)(j:List Int)(o p:Int)(l:Int×List Int×Unit):Option (TrnT×Unit):=
 (ans83_J0 m (((3:Int),a,b,c,d,e,f,g,h,i,j,o,p,())) l ((0:Int)) ((0:Int)) ((0:Int)) ((0:Int)) ((0:Int)) ((0:Int)) ((0:Int)) (false) ((0:Int)) ((0:Int)) ((0:Int)) (fun q=>(bif q then some ((((3:Int),a,b,c,d,e,f,g,h,i,j,o,p,()),()))else(bif decide (l.1=(4:Int))then(bif decide (IntKind.wrap .i64 (o+(1:Int))=(3:Int))then some ((((4:Int),a,b,c,d,e,f,g,h,i,j,IntKind.wrap .i64 (o+(1:Int)),(11:Int),()),()))else some ((((3:Int),a,b,c,d,e,f,g,h,i,j,IntKind.wrap .i64 (o+(1:Int)),p,()),())))else(bif decide (l.1=(3:Int))then some ((((4:Int),a,b,c,d,e,f,g,h,i,j,(0:Int),(12:Int),()),()))else(bif decide (l.1=(5:Int))then some ((((4:Int),a,b,c,d,e,f,g,h,i,j,(0:Int),(13:Int),()),()))else(bif decide (l.1=(1:Int))then(bnd (reads_D m (a,b,c,d,e,())) fun r=>(bif !r.1 then(bif decide ((0:Int)<(↑(List.length l.2.1):Int))then some ((((4:Int),a,b,c,d,e,f,g,h,i,j,(0:Int),(13:Int),()),()))else some ((((4:Int),a,b,c,d,e,f,g,h,i,j,(0:Int),(0:Int),()),())))else some ((((4:Int),a,b,c,d,e,f,g,h,i,j,(0:Int),(0:Int),()),()))))else some ((((3:Int),a,b,c,d,e,f,g,h,i,j,(0:Int),p,()),())))))))))
def ans83_con(m:Nat):Con:=⟨_,_,_,(vcons (aggp (vcon0 (datp (D.v (.int .u8 3))) q58)) (vcons q66 vnil)),bnil,0,fun _=>rfl,(rfz 0 q101 bnil),fun x b=>ans83_D m x.1.1 x.1.2.1 x.1.2.2.1 x.1.2.2.2.1 x.1.2.2.2.2.1 x.1.2.2.2.2.2.1 x.1.2.2.2.2.2.2.1 x.1.2.2.2.2.2.2.2.1 x.1.2.2.2.2.2.2.2.2.1 x.1.2.2.2.2.2.2.2.2.2.1 x.1.2.2.2.2.2.2.2.2.2.2.1 x.1.2.2.2.2.2.2.2.2.2.2.2.1 x.2.1⟩
theorem ans83_ok(m:Nat):ConOk Try.prog 63 (ans83_con m):=
 con_ok tyx (ans83_tabok m) (fl:=fl8) (N:=300) (t:=(.node .leaf (.node (.node (.cut _ _ ans83_J0i [] ans83_J0o (ans83_J0f m) .leaf) .leaf) .leaf))) (trO (tmk (by kernel_rfl) (ai trivial (ai (ai (ai (ans83_J0k m) trivial) trivial) trivial)))) (fun x b=>by kernel_rfl)
def ans84_tab(m:Nat):List (FuncId×Ent):= [(77,.con (reads_con m))]
theorem ans84_tabok(m:Nat):CallOk Try.prog (tabK Try.prog fl8 300 (ans84_tab m) 6):=tabK_ok tyx ((tbc (reads_ok m) tbn)) 6
def ans84_D(m:Nat)(a b c d e:Int)(f:List Int)(g:Int)(h:Bool)(i:Int)(j:List Int)(l o:Int)(p:Int×List Int×Unit):Option (TrnT×Unit):=
 some ((((4:Int),a,b,c,d,e,f,g,h,i,j,l,o,()),()))
def ans84_con(m:Nat):Con:=⟨_,_,_,(vcons (aggp (vcon0 (datp (D.v (.int .u8 4))) q58)) (vcons q66 vnil)),bnil,0,fun _=>rfl,(rfz 0 q101 bnil),fun x b=>ans84_D m x.1.1 x.1.2.1 x.1.2.2.1 x.1.2.2.2.1 x.1.2.2.2.2.1 x.1.2.2.2.2.2.1 x.1.2.2.2.2.2.2.1 x.1.2.2.2.2.2.2.2.1 x.1.2.2.2.2.2.2.2.2.1 x.1.2.2.2.2.2.2.2.2.2.1 x.1.2.2.2.2.2.2.2.2.2.2.1 x.1.2.2.2.2.2.2.2.2.2.2.2.1 x.2.1⟩
theorem ans84_ok(m:Nat):ConOk Try.prog 63 (ans84_con m):=
 con_ok tyx (ans84_tabok m) (fl:=fl8) (N:=300) (t:= .leaf) (trO trivial) (fun x b=>by kernel_rfl)
def req8_tab(m:Nat):List (FuncId×Ent):= []
theorem req8_tabok(m:Nat):CallOk Try.prog (tabK Try.prog fl8 300 (req8_tab m) 6):=tabK_ok tyx (tbn) 6
def req8_D(m:Nat)(a:Int×Int×Int×Int×Int×Unit)(b:List Int)(c:Int)(d:List Int)(e:List ClT):Option ((List Int×Bool×Unit)×q141×List ClT×Unit):=
 (bif growOb (1:Nat) ((0:Nat)+List.length b)&&decide ((16:Nat)<nat_lit 38)then(bif growOb (32:Nat) (List.length e+List.length [(a.1,a.2.1,a.2.2.1,a.2.2.2.1,a.2.2.2.2.1,[]++b,())])&&decide ((19:Nat)<nat_lit 38)then(bif decide ((0:Int)≤Int.tmod a.2.1 (8:Int))then(bif decide (Go.bits .and .u8 (Int.fdiv c ((2:Int) ^ Min.min (Int.toNat (Int.tmod a.2.1 (8:Int))) (IntKind.bits .u8))) (1:Int)=(1:Int))then some ((([],false,()),(c,d,()),e++ [(a.1,a.2.1,a.2.2.1,a.2.2.2.1,a.2.2.2.2.1,[]++b,())],()))else some (((d,true,()),(c,d,()),e++ [(a.1,a.2.1,a.2.2.1,a.2.2.2.1,a.2.2.2.2.1,[]++b,())],())))else none)else none)else none)
def req8_con(m:Nat):Con:=⟨_,_,_,(vcon0 (ptrp 0 0) (vcons q114 (vcons q54 vnil))),(bcons (boxp 89 (vcons q65 (vcons q54 (vcon0 (ownp 1) vnil)))) (bcons q34 bnil)),2,fun _=>rfl,(rfz 2 (tupp (vcons q54 q81)) (bcons (boxp 89 (vcons q65 (vcons q54 (vcon0 (ownp 1) vnil)))) (bcons q34 bnil))),fun x b=>req8_D m x.1 x.2.1 b.1.1 b.1.2.1 b.2.1⟩
theorem req8_ok(m:Nat):ConOk Try.prog 134 (req8_con m):=
 con_ok tyx (req8_tabok m) (fl:=fl8) (N:=300) (t:= .leaf) (trO trivial) (fun x b=>by kernel_rfl)
end Go.Proofs.Ytngghkoghbpceaa
