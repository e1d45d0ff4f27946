/-
  A copy of bytes.
  Conditions: none.
-/
import Derived.Test.YtngghkoghbpceaaAMTy
import Derived.Test.YtngghkoghbpceaaKC2
namespace Go.Proofs.Ytngghkoghbpceaa
open Go.RowKit
set_option linter.unusedVariables false
set_option linter.unusedSimpArgs false
theorem awpl_wide{P:Program}{ops:Array Oper}{l:List Oper}{R:St→Prop}{s:St}(κ:Nat)(h: ∀s',s.wide κ=s'→AWpL P ops l R s'):AWpL P ops l R s:=fun cx m a w K hr hK=>h _ rfl cx m a w K (hr.wide κ) hK
set_option maxRecDepth 100000 in
theorem cloneB_a(xs:List Int)(c:Option Nat)(hl:xs.length≤1000000):ARow Try.prog 89 [.ints .u8 xs c] (.ints 5 .u8 xs none):=by
 refine arow_body (n:=8) Try.func89 rfl Try.ntmps89 rfl (by simp) ?_
 have hov:=tab_nil (P:=Try.prog)
 (repeat (first|((first|refine x_seqX hov ?_|refine x_regX hov ?_|refine x_condB ?_);intro r hr;simp (maxSteps:=2000000) (disch:=omega) only[push_cast,Nat.reduceAdd,Nat.reduceSub,Nat.reduceMul,Nat.reduceMod,Nat.reduceDiv,Int.reduceToNat,Int.reduceNeg,reduceCtorEq,↓reduceIte,↓Int.cast_ofNat_Int,Int.reduceAdd,Int.reduceSub,Int.reduceMul,Int.reduceDiv,Int.reduceMod,↓Nat.reduceEqDiff,↓Nat.reduceLT,↓Nat.reduceLeDiff,↓Nat.reduceBEq,↓Int.reduceLT,↓Int.reduceLE,↓Int.reduceEq]at hr;subst hr;(first|refine⟨_,by with_reducible rfl,?_⟩|refine .inl ⟨by with_reducible rfl,?_⟩|refine .inr ⟨by with_reducible rfl,?_⟩);try simp only[xthen_n,xthen_x,xthen_r,xthen_g,xblock_n,xblock_r,xblock_g,xblock_x,xscope_n,xscope_r,xscope_x,↓reduceIte,Nat.reduceEqDiff])|refine awp_seq ?_|refine awp_block ?_|refine awp_scope ?_|((first|refine awp_skip ?_|refine awp_exit ?_|refine awp_ret ?_|refine awp_label ?_);try simp only[xthen_n,xthen_x,xthen_r,xthen_g,xblock_n,xblock_r,xblock_g,xblock_x,xscope_n,xscope_r,xscope_x,↓reduceIte,Nat.reduceEqDiff])))
 refine awp_region ?_
 (refine x_op ?_;intro r hr;simp (maxSteps:=2000000) (disch:=omega) only[push_cast,Nat.reduceAdd,Nat.reduceSub,Nat.reduceMul,Nat.reduceMod,Nat.reduceDiv,Int.reduceToNat,Int.reduceNeg,reduceCtorEq,↓reduceIte,↓Int.cast_ofNat_Int,Int.reduceAdd,Int.reduceSub,Int.reduceMul,Int.reduceDiv,Int.reduceMod,↓Nat.reduceEqDiff,↓Nat.reduceLT,↓Nat.reduceLeDiff,↓Nat.reduceBEq,↓Int.reduceLT,↓Int.reduceLE,↓Int.reduceEq]at hr;subst hr;refine⟨_,by with_reducible rfl,?_⟩)
 refine awpl_nilq (d:= .ints .u8 xs c) (n:=xs.length) rfl rfl (by kernel_rfl) rfl rfl rfl ?_
 intro b hb
 cases b with
 |true=>
  have hx:xs= []:=List.length_eq_zero_iff.1 (hb rfl)
  subst hx
  refine awpl_nil ?_
  simp only[xthen_n,St.put,ins,Nat.reduceEqDiff,Nat.reduceLT,↓reduceIte]
  refine awp_cond_true rfl ?_
  (refine x_seq ?_;intro r hr;simp (maxSteps:=2000000) (disch:=omega) only[push_cast,Nat.reduceAdd,Nat.reduceSub,Nat.reduceMul,Nat.reduceMod,Nat.reduceDiv,Int.reduceToNat,Int.reduceNeg,reduceCtorEq,↓reduceIte,↓Int.cast_ofNat_Int,Int.reduceAdd,Int.reduceSub,Int.reduceMul,Int.reduceDiv,Int.reduceMod,↓Nat.reduceEqDiff,↓Nat.reduceLT,↓Nat.reduceLeDiff,↓Nat.reduceBEq,↓Int.reduceLT,↓Int.reduceLE,↓Int.reduceEq]at hr;subst hr;refine⟨_,by with_reducible rfl,?_⟩)
  (refine x_mat 2 1000 (.ints 5 .u8 [] (some 0)) (by intro r hr;simp (maxSteps:=2000000) (disch:=omega) only[push_cast,Nat.reduceAdd,Nat.reduceSub,Nat.reduceMul,Nat.reduceMod,Nat.reduceDiv,Int.reduceToNat,Int.reduceNeg,reduceCtorEq,↓reduceIte,↓Int.cast_ofNat_Int,Int.reduceAdd,Int.reduceSub,Int.reduceMul,Int.reduceDiv,Int.reduceMod,↓Nat.reduceEqDiff,↓Nat.reduceLT,↓Nat.reduceLeDiff,↓Nat.reduceBEq,↓Int.reduceLT,↓Int.reduceLE,↓Int.reduceEq]at hr;subst hr;exact⟨_,rfl,rfl⟩) (by omega) (by simp) (by first|exact .inl ⟨_,_,rfl⟩|exact .inr ⟨_,_,rfl⟩) ?_;intro s' hs;simp (maxSteps:=2000000) (disch:=omega) only[push_cast,Nat.reduceAdd,Nat.reduceSub,Nat.reduceMul,Nat.reduceMod,Nat.reduceDiv,Int.reduceToNat,Int.reduceNeg,reduceCtorEq,↓reduceIte,↓Int.cast_ofNat_Int,Int.reduceAdd,Int.reduceSub,Int.reduceMul,Int.reduceDiv,Int.reduceMod,↓Nat.reduceEqDiff,↓Nat.reduceLT,↓Nat.reduceLeDiff,↓Nat.reduceBEq,↓Int.reduceLT,↓Int.reduceLE,↓Int.reduceEq,Bool.true_eq_false,St.mat]at hs;subst hs)
  (refine awp_wide 1000 ?_;intro s' hs;simp (maxSteps:=2000000) (disch:=omega) only[push_cast,Nat.reduceAdd,Nat.reduceSub,Nat.reduceMul,Nat.reduceMod,Nat.reduceDiv,Int.reduceToNat,Int.reduceNeg,reduceCtorEq,↓reduceIte,↓Int.cast_ofNat_Int,Int.reduceAdd,Int.reduceSub,Int.reduceMul,Int.reduceDiv,Int.reduceMod,↓Nat.reduceEqDiff,↓Nat.reduceLT,↓Nat.reduceLeDiff,↓Nat.reduceBEq,↓Int.reduceLT,↓Int.reduceLE,↓Int.reduceEq,Bool.true_eq_false,St.wide]at hs;subst hs)
  refine awp_ret ?_
  simp only[xthen_r]
  (refine x_ret [1000] (by first|exact .inl rfl|exact .inr rfl) rfl (by simp) (by simp) ?_;intro r hr;simp (maxSteps:=2000000) (disch:=omega) only[push_cast,Nat.reduceAdd,Nat.reduceSub,Nat.reduceMul,Nat.reduceMod,Nat.reduceDiv,Int.reduceToNat,Int.reduceNeg,reduceCtorEq,↓reduceIte,↓Int.cast_ofNat_Int,Int.reduceAdd,Int.reduceSub,Int.reduceMul,Int.reduceDiv,Int.reduceMod,↓Nat.reduceEqDiff,↓Nat.reduceLT,↓Nat.reduceLeDiff,↓Nat.reduceBEq,↓Int.reduceLT,↓Int.reduceLE,↓Int.reduceEq,Try.results89]at hr;subst hr;refine⟨_,by with_reducible rfl,?_⟩;intro r hr;simp (maxSteps:=2000000) (disch:=omega) only[push_cast,Nat.reduceAdd,Nat.reduceSub,Nat.reduceMul,Nat.reduceMod,Nat.reduceDiv,Int.reduceToNat,Int.reduceNeg,reduceCtorEq,↓reduceIte,↓Int.cast_ofNat_Int,Int.reduceAdd,Int.reduceSub,Int.reduceMul,Int.reduceDiv,Int.reduceMod,↓Nat.reduceEqDiff,↓Nat.reduceLT,↓Nat.reduceLeDiff,↓Nat.reduceBEq,↓Int.reduceLT,↓Int.reduceLE,↓Int.reduceEq]at hr;subst hr;refine⟨_,by with_reducible rfl,?_⟩;simp only[renV,renVs,renB,posOf,↓reduceIte])
  (first|exact⟨trivial,trivial⟩|exact⟨trivial,rfl⟩|exact⟨rfl,trivial⟩|exact⟨rfl,rfl⟩)
 |false=>
  refine awpl_nil ?_
  simp only[xthen_n,St.put,ins,Nat.reduceEqDiff,Nat.reduceLT,↓reduceIte]
  refine awp_cond_false rfl ?_
  refine awp_skip ?_
  simp only[xthen_n]
  refine awp_seq ?_
  refine awp_region ?_
  (refine x_op ?_;intro r hr;simp (maxSteps:=2000000) (disch:=omega) only[push_cast,Nat.reduceAdd,Nat.reduceSub,Nat.reduceMul,Nat.reduceMod,Nat.reduceDiv,Int.reduceToNat,Int.reduceNeg,reduceCtorEq,↓reduceIte,↓Int.cast_ofNat_Int,Int.reduceAdd,Int.reduceSub,Int.reduceMul,Int.reduceDiv,Int.reduceMod,↓Nat.reduceEqDiff,↓Nat.reduceLT,↓Nat.reduceLeDiff,↓Nat.reduceBEq,↓Int.reduceLT,↓Int.reduceLE,↓Int.reduceEq]at hr;subst hr;refine⟨_,by with_reducible rfl,?_⟩)
  (refine awpl_wide 21 ?_;intro s' hs;simp (maxSteps:=2000000) (disch:=omega) only[push_cast,Nat.reduceAdd,Nat.reduceSub,Nat.reduceMul,Nat.reduceMod,Nat.reduceDiv,Int.reduceToNat,Int.reduceNeg,reduceCtorEq,↓reduceIte,↓Int.cast_ofNat_Int,Int.reduceAdd,Int.reduceSub,Int.reduceMul,Int.reduceDiv,Int.reduceMod,↓Nat.reduceEqDiff,↓Nat.reduceLT,↓Nat.reduceLeDiff,↓Nat.reduceBEq,↓Int.reduceLT,↓Int.reduceLE,↓Int.reduceEq,Bool.true_eq_false,St.wide]at hs;subst hs)
  (refine x_op ?_;intro r hr;simp (maxSteps:=2000000) (disch:=omega) only[push_cast,Nat.reduceAdd,Nat.reduceSub,Nat.reduceMul,Nat.reduceMod,Nat.reduceDiv,Int.reduceToNat,Int.reduceNeg,reduceCtorEq,↓reduceIte,↓Int.cast_ofNat_Int,Int.reduceAdd,Int.reduceSub,Int.reduceMul,Int.reduceDiv,Int.reduceMod,↓Nat.reduceEqDiff,↓Nat.reduceLT,↓Nat.reduceLeDiff,↓Nat.reduceBEq,↓Int.reduceLT,↓Int.reduceLE,↓Int.reduceEq]at hr;subst hr;refine⟨_,by with_reducible rfl,?_⟩)
  (refine x_op ?_;intro r hr;simp (maxSteps:=2000000) (disch:=omega) only[push_cast,Nat.reduceAdd,Nat.reduceSub,Nat.reduceMul,Nat.reduceMod,Nat.reduceDiv,Int.reduceToNat,Int.reduceNeg,reduceCtorEq,↓reduceIte,↓Int.cast_ofNat_Int,Int.reduceAdd,Int.reduceSub,Int.reduceMul,Int.reduceDiv,Int.reduceMod,↓Nat.reduceEqDiff,↓Nat.reduceLT,↓Nat.reduceLeDiff,↓Nat.reduceBEq,↓Int.reduceLT,↓Int.reduceLE,↓Int.reduceEq,List.nil_append]at hr;subst hr;refine⟨_,by with_reducible rfl,?_⟩)
  (refine x_op ?_;intro r hr;simp (maxSteps:=2000000) (disch:=omega) only[push_cast,Nat.reduceAdd,Nat.reduceSub,Nat.reduceMul,Nat.reduceMod,Nat.reduceDiv,Int.reduceToNat,Int.reduceNeg,reduceCtorEq,↓reduceIte,↓Int.cast_ofNat_Int,Int.reduceAdd,Int.reduceSub,Int.reduceMul,Int.reduceDiv,Int.reduceMod,↓Nat.reduceEqDiff,↓Nat.reduceLT,↓Nat.reduceLeDiff,↓Nat.reduceBEq,↓Int.reduceLT,↓Int.reduceLE,↓Int.reduceEq]at hr;subst hr;refine⟨_,by with_reducible rfl,?_⟩)
  refine awpl_nil ?_
  simp only[xthen_n]
  (repeat (first|((first|refine x_seqX hov ?_|refine x_regX hov ?_|refine x_condB ?_);intro r hr;simp (maxSteps:=2000000) (disch:=omega) only[push_cast,Nat.reduceAdd,Nat.reduceSub,Nat.reduceMul,Nat.reduceMod,Nat.reduceDiv,Int.reduceToNat,Int.reduceNeg,reduceCtorEq,↓reduceIte,↓Int.cast_ofNat_Int,Int.reduceAdd,Int.reduceSub,Int.reduceMul,Int.reduceDiv,Int.reduceMod,↓Nat.reduceEqDiff,↓Nat.reduceLT,↓Nat.reduceLeDiff,↓Nat.reduceBEq,↓Int.reduceLT,↓Int.reduceLE,↓Int.reduceEq]at hr;subst hr;(first|refine⟨_,by with_reducible rfl,?_⟩|refine .inl ⟨by with_reducible rfl,?_⟩|refine .inr ⟨by with_reducible rfl,?_⟩);try simp only[xthen_n,xthen_x,xthen_r,xthen_g,xblock_n,xblock_r,xblock_g,xblock_x,xscope_n,xscope_r,xscope_x,↓reduceIte,Nat.reduceEqDiff])|refine awp_seq ?_|refine awp_block ?_|refine awp_scope ?_|((first|refine awp_skip ?_|refine awp_exit ?_|refine awp_ret ?_|refine awp_label ?_);try simp only[xthen_n,xthen_x,xthen_r,xthen_g,xblock_n,xblock_r,xblock_g,xblock_x,xscope_n,xscope_r,xscope_x,↓reduceIte,Nat.reduceEqDiff])))
  (refine x_ret [21] (by first|exact .inl rfl|exact .inr rfl) rfl (by simp) (by simp) ?_;intro r hr;simp (maxSteps:=2000000) (disch:=omega) only[push_cast,Nat.reduceAdd,Nat.reduceSub,Nat.reduceMul,Nat.reduceMod,Nat.reduceDiv,Int.reduceToNat,Int.reduceNeg,reduceCtorEq,↓reduceIte,↓Int.cast_ofNat_Int,Int.reduceAdd,Int.reduceSub,Int.reduceMul,Int.reduceDiv,Int.reduceMod,↓Nat.reduceEqDiff,↓Nat.reduceLT,↓Nat.reduceLeDiff,↓Nat.reduceBEq,↓Int.reduceLT,↓Int.reduceLE,↓Int.reduceEq,Try.results89]at hr;subst hr;refine⟨_,by with_reducible rfl,?_⟩;intro r hr;simp (maxSteps:=2000000) (disch:=omega) only[push_cast,Nat.reduceAdd,Nat.reduceSub,Nat.reduceMul,Nat.reduceMod,Nat.reduceDiv,Int.reduceToNat,Int.reduceNeg,reduceCtorEq,↓reduceIte,↓Int.cast_ofNat_Int,Int.reduceAdd,Int.reduceSub,Int.reduceMul,Int.reduceDiv,Int.reduceMod,↓Nat.reduceEqDiff,↓Nat.reduceLT,↓Nat.reduceLeDiff,↓Nat.reduceBEq,↓Int.reduceLT,↓Int.reduceLE,↓Int.reduceEq]at hr;subst hr;refine⟨_,by with_reducible rfl,?_⟩;simp only[renV,renVs,renB,posOf,↓reduceIte])
  (first|exact⟨trivial,trivial⟩|exact⟨trivial,rfl⟩|exact⟨rfl,trivial⟩|exact⟨rfl,rfl⟩)
def cloneB_F(us:List AV):Option (AV×List Blk):=match us with
 | [.d (.ints .u8 xs c)]=>if xs.length≤100000 then some (.own 0,[.ints 5 .u8 xs none])else none
 |_=>none
attribute [push_cast] cloneB_F
end Go.Proofs.Ytngghkoghbpceaa
