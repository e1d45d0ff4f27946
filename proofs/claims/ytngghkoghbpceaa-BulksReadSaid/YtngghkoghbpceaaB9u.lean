/-
  The loop over pieces of bulks.Cut: its round, and what the loop comes to.
  Conditions: none.
-/
import Derived.Test.YtngghkoghbpceaaB9s
import Derived.Test.YtngghkoghbpceaaRF9
namespace Go.Proofs.Ytngghkoghbpceaa
open Go.RowKit
set_option linter.unusedVariables false
set_option linter.unusedSimpArgs false
set_option maxRecDepth 100000
def cutB_tab(m:Nat):List (FuncId×Ent):= []
theorem cutB_tabok(m:Nat):CallOk Try.prog (tabK Try.prog flT 300 (cutB_tab m) 6):=tabK_ok ty_mixed (tabok_nil) 6
def cutB_J1{R:Type}(m:Nat)(x35:List Int)(x36:List (List Int))(k0:Option R):Option R:=
 (bif makeOb (1:Nat) (0:Int) (↑(List.length x35):Int) true then(bif growOb (1:Nat) (List.length (List.replicate (Int.toNat (0:Int)) (0:Int))+List.length x35)then(bif growOb (24:Nat) (List.length x36+List.length [List.replicate (Int.toNat (0:Int)) (0:Int)++x35])then k0 else none)else none)else none)
def cutB_J1i:=(spat 38 (tcon0 8 (ptrp 0 0) (tcons 26 (shp (.ints .u8)) tnil)) (hcon0 0 (boxp 22 (vcon0 (ownp 1) vnil)) (hcons 1 (rowp 23 (.ints .u8)) hnil)))
def cutB_J1o:=(one .normal [] (spat 38 (tcon0 8 (ptrp 0 0) tnil) (hcon0 0 (boxp 22 (vcon0 (ownp 1) vnil)) (hcons 1 (rowp 23 (.ints .u8)) hnil))))
def cutB_J1f(m:Nat):(R:Type)→((List Int×Unit)×List (List Int)×Unit)→((Unit×List (List Int)×Unit)→Option R)→Option R:=fun R x K=>let x35:=x.1.1;let x36:=x.2.1;cutB_J1 m x35 x36 (K (((),((x36++ [List.replicate (Int.toNat (0:Int)) (0:Int)++x35]),()))))
theorem cutB_J1k(m:Nat):CutR Try.prog _ _ cutB_J1i cutB_J1o (cutB_J1f m) (rfA (bodyAt Try.prog 38 [true,true,true,false,true,false])) (rfB (bodyAt Try.prog 38 [true,true,true,false,true,false])):=
 cutR_ok ty_mixed (cutB_tabok m) (fl:=flT) (N:=300) (by kernel_rfl) (by kernel_rfl) (fun R x K=>by kernel_rfl)
def bcutRFi:=(spat 38 (tcons 0 (shp (.ints .u8)) (tcons 1 (shp (.i .i64)) (tcons 2 (shp .b) (tcon0 8 (ptrp 24 0) tnil)))) (hcon0 24 (boxp 22 (vcon0 (ownp 37) vnil)) (hcons 37 (rowp 23 (.ints .u8)) hnil)))
def bcutRFs:=(spat 38 (tcon0 8 (ptrp 24 0) (tcon0 25 (closp 82 (vcon0 (ptrp 54 0) (vcon0 (ptrp 55 0) (vcon0 (ptrp 56 0) vnil)))) tnil)) (hcon0 24 (boxp 22 (vcon0 (ownp 37) vnil)) (hcons 37 (rowp 23 (.ints .u8)) (hcons 54 (boxp 23 (vcons (shp (.ints .u8)) vnil)) (hcons 55 (boxp 3 (vcons (shp (.i .i64)) vnil)) (hcons 56 (boxp 4 (vcons (shp .b) vnil)) hnil))))))
def bcutRFo:=(one .normal [] (spat 38 (tcon0 8 (ptrp 24 0) tnil) (hcon0 24 (boxp 22 (vcon0 (ownp 37) vnil)) (hcons 37 (rowp 23 (.ints .u8)) hnil))))
def bcutB(m:Nat)(acc:List (List Int))(x:List Int×Unit):Option (List (List Int)):=cutB_J1 m x.1 acc (some (acc++ [List.replicate (Int.toNat (0:Int)) (0:Int)++x.1]))
def bcutP:=(vcons (shp (.ints .u8)) vnil)
def V00:Value:= .func (.yield 0) #[] #[]
def bcutRF{R:Type}(m:Nat)(b:List Int)(mx:Int)(zero:Bool)(acc:List (List Int))(k0:List (List Int)→Option R):Option R:=bnd (pcs_Y (ykF (bcutB m) bcutP) m V00 b mx zero acc) k0
theorem pcsL_eq(m:Nat)(V W:Value){α X:Type}(B:α→X→Option α)(p:VsPat X): ∀(n:Nat) (full:Bool) (b:List Int) (mx:Int) (zero:Bool) (g:α),
  pcs_L0 (ykB V B p) m n V full b mx zero g=(pcs_L0 (ykF B p) m n W full b mx zero g).map fun y=>(((V,y.1.1.2),y.1.2),y.2):=by
 intro n
 induction n with
 |zero=>intros;rfl
 |succ n ih=>
  intro full b mx zero g
  rw[pcs_L0,pcs_L0]
  simp only[ykB_self,ih]
  unfold ykF
  cases decide (mx<(b.length:Int))with
  |false=>simp only[cond_false];rfl
  |true=>
   simp only[cond_true]
   cases decide ((0:Int)≤mx)&&(decide (mx≤mx)&&decide (Int.toNat mx≤b.length))with
   |false=>rfl
   |true=>
    simp only[cond_true]
    cases VsPat.get p [SV.ints Go.IntKind.u8 (List.take (Int.toNat mx) b) (Option.some (Int.toNat mx))]with
    |none=>rfl
    |some x=>
     simp only[bnd]
     cases B g x with
     |none=>rfl
     |some g'=>
      simp only[Option.bind_some]
      cases decide ((0:Int)≤mx)&&decide (Int.toNat mx≤b.length)<;>rfl
theorem pcsY_eq(m:Nat)(V W:Value){α X:Type}(B:α→X→Option α)(p:VsPat X)(b:List Int)(mx:Int)(zero:Bool)(g:α):pcs_Y (ykB V B p) m V b mx zero g=pcs_Y (ykF B p) m W b mx zero g:=by
 unfold pcs_Y
 simp only[pcsL_eq m V W B p]
 cases decide ((0:Int)<(b.length:Int))with
 |true=>
  simp only[cond_true]
  cases(!decide (mx=(0:Int)))with
  |false=>rfl
  |true=>
   simp only[cond_true,bnd]
   cases pcs_L0 (ykF B p) m m W (decide (Int.tmod (↑(List.length b):Int) mx=(0:Int))) b mx zero g with
   |none=>rfl
   |some y=>simp only[Option.map_some,Option.bind_some,ykB_self];rfl
 |false=>
  simp only[cond_false,bnd]
  cases pcs_L0 (ykF B p) m m W false b mx zero g with
  |none=>rfl
  |some y=>simp only[Option.map_some,Option.bind_some,ykB_self];rfl
def bcutRFf(m:Nat):(R:Type)→((List Int×Int×Bool×Unit)×List (List Int)×Unit)→((Unit×List (List Int)×Unit)→Option R)→Option R:=fun R x K=>bcutRF m x.1.1 x.1.2.1 x.1.2.2.1 x.2.1 (fun d=>K ((),d,()))
noncomputable def bcutC:Code:=bodyAt Try.prog 38 [true,true,true,false]
def sq1:Code→Code
 | .seq a _=>a
 |c=>c
def sq2:Code→Code
 | .seq _ b=>b
 |c=>c
theorem bcutC_eq:bodyAt Try.prog 38 [true,true,true,false]= .seq (sq1 bcutC) (.block 0 (.rangeFunc (.tmp 25) #[26] (rfA (sq2 bcutC)) (rfB (sq2 bcutC)))):=by kernel_rfl
theorem bcut_fn: ∃fn,IsFn Try.prog 82 fn:=by
 have h:(match Try.prog.funcs[82]? with|some fn=>fn.body.isSome&& !(fn.name== "runtime.NumGoroutine")|none=>false)=true:=by kernel_rfl
 split at h
 ·rename_i fn hfn
  simp only[Bool.and_eq_true,Bool.not_eq_true']at h
  exact⟨fn,hfn,h.1,h.2⟩
 ·cases h
theorem bcut_reg(m:Nat):CutOk Try.prog _ _ bcutRFi (one .normal [] bcutRFs) (fun(R:Type) (x:(List Int×Int×Bool×Unit)×List (List Int)×Unit) (K:(Unit×List (List Int)×(List Int×Unit)×(Int×Unit)×(Bool×Unit)×Unit)→Option R)=>K ((),x.2.1,(x.1.1,()),(x.1.2.1,()),(x.1.2.2.1,()),())) (sq1 bcutC):=
 cut_ok ty_mixed (cutB_tabok m) (fl:=flT) (N:=300) (t:= .leaf) trivial (fun R x K=>by kernel_rfl)
def bcutBlks(acc:List (List Int)):List Blk:= [SB.box 22 [SV.own 1],SB.row 23 (.ints .u8) acc none].map SB.toB
theorem bcutA_eq:rfA (sq2 bcutC)=rfA (bodyAt Try.prog 38 [true,true,true,false,true,false]):=by kernel_rfl
theorem bcutB_eq:rfB (sq2 bcutC)=rfB (bodyAt Try.prog 38 [true,true,true,false,true,false]):=by kernel_rfl
theorem bcut_round(m:Nat)(z:RC)(e1:z.ps= #[26])(e2:z.assign=rfA (sq2 bcutC))(e3:z.body=rfB (sq2 bcutC))(e4:z.tm= [(8,.ptr 0 0)])(e5:z.a0.tmps.size=38)(g:List (List Int))(x:List Int×Unit)(g':List (List Int))(hB:bcutB m g x=some g'):
  RoundOk Try.prog z [.ints .u8 x.1 none] (hpFrom 0 (bcutBlks g)) (hpFrom 0 (bcutBlks g')):=by
 obtain⟨y,hy,h5⟩:=cutB_J1k m _ ((x.1,()),(g,())) (fun y=>some y.2.1) g' hB
 obtain⟨e,s',h6,h7⟩:=h5 (Exit×SSt) (fun e s=>some (e,s)) _ rfl
 cases h6
 obtain⟨yu,yr,yu'⟩:=y
 simp only[Option.some.injEq]at hy
 subst hy
 refine roundOk_of (s:=(cutB_J1i.put ((x.1,()),(g,()))).toSt) (by rw[e1];rfl) (fun t ht=> ?_) rfl ?_ (fun l Q hQ=> ?_)
 ·rw[e1]at ht
  have:t=26:=by simpa using ht
  rw[e5,this];decide
 ·unfold RC.st
  rw[e1,e4,e5]
  rfl
 ·rw[e2,e3,bcutA_eq,bcutB_eq]
  exact h7 l Q (hQ _ rfl)
theorem bcutRFk(m:Nat):CutOk Try.prog _ _ bcutRFi bcutRFo (bcutRFf m) (bodyAt Try.prog 38 [true,true,true,false]):=by
 intro R x K r h
 obtain⟨⟨b,mx,zero,u⟩,acc,u'⟩:=x
 obtain⟨acc',hacc,hK⟩:=Option.bind_eq_some_iff.1 (show(pcs_Y (ykF (bcutB m) bcutP) m V00 b mx zero acc).bind (fun d=>K ((),d,()))=some r from h)
 refine⟨((),acc',()),hK,fun R' k r' hk=>⟨.normal,_,hk,fun Q hq=> ?_⟩⟩
 rw[bcutC_eq]
 obtain⟨y,hy,h2⟩:=bcut_reg m _ ((b,mx,zero,u),acc,u') some _ rfl
 cases hy
 obtain⟨e,s',h3,h4⟩:=h2 (Exit×SSt) (fun e s=>some (e,s)) _ rfl
 cases h3
 refine awp_seq (h4 _ ?_)
 show AWp Try.prog (.block 0 _) Q _
 refine awp_block ?_
 obtain⟨fn,hfn⟩:=bcut_fn
 refine awp_rangeFunc (f:=82) (caps:= [.ptr 54 0,.ptr 55 0,.ptr 56 0]) rfl hfn [54,55,56] (by decide) rfl (by decide) [24,37] (bs0:=bcutBlks acc) (by decide) rfl (by decide) (by decide) rfl [(8,.ptr 24 0)] ?_ (fun bs'=>bs'=bcutBlks acc') ?_ ?_
 ·intro t v ht
  simp only[gt]at ht
  split at ht
  ·rename_i e
   cases ht
   subst e
   exact⟨rfl,by decide,_,_,rfl⟩
  ·cases ht
 ·intro z e1 e2 e3 e4 e5
  exact ICall.to (blks:=bcutBlks) (g':=acc') (pcs_ok (ykB_ok (P:=Try.prog) (z:=z) (blks:=bcutBlks) (B:=bcutB m) (p:=bcutP) (fun x=> [.ints .u8 x.1 none]) (fun x=>rfl) (fun g x g' hB=>bcut_round m z e1 e2 e3 e4 e5 g x g' hB)) m _ b mx zero acc acc' ((pcsY_eq m _ V00 _ _ b mx zero acc).trans hacc)) ⟨bcutBlks acc',rfl,rfl,rfl⟩
 ·rintro bs' rfl _
  exact hq
end Go.Proofs.Ytngghkoghbpceaa
