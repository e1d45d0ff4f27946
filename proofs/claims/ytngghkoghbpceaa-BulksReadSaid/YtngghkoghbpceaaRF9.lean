/-
  Yield, as the loop's round answers it.
  Conditions: none.
-/
import Derived.Test.YtngghkoghbpceaaRF8
namespace Go.Proofs.Ytngghkoghbpceaa
open Go.RowKit
set_option linter.unusedVariables false
set_option linter.unusedSimpArgs false
def ykF{α X:Type}(B:α→X→Option α)(p:VsPat X):YK α:=fun R V g vs K=>match p.get vs with
 |some x=>bnd (B g x) K
 |none=>none
open Classical in
noncomputable def ykB {α X:Type} (V0:Value) (B:α→X→Option α) (p:VsPat X):YK α:=fun R V g vs K=>if V=V0 then ykF B p R V g vs K else none
theorem ykB_self{α X:Type}{V0:Value}{B:α→X→Option α}{p:VsPat X}{R:Type}{g:α}{vs:List SV}{K:α→Option R}:ykB V0 B p R V0 g vs K=ykF B p R V0 g vs K:=if_pos rfl
theorem ykB_ok{P:Program}{z:RC}{α X:Type}{blks:α→List Blk}{B:α→X→Option α}{p:VsPat X}(dsOf:X→List D)(hds: ∀x,SV.toAVs (p.put x)=(dsOf x).map .d)
  (hround: ∀g x g',B g x=some g'→RoundOk P z (dsOf x) (hpFrom 0 (blks g)) (hpFrom 0 (blks g'))):YKOk P (fun g=>z.C (hpFrom 0 (blks g))) (ykB (.func (.yield z.l) #[] #[]) B p):=by
 intro R V g vs K r h
 unfold ykB at h
 split at h
 ·rename_i hV
  unfold ykF at h
  split at h
  ·rename_i x hx
   unfold bnd at h
   obtain⟨g',hg,hK⟩:=Option.bind_eq_some_iff.1 h
   refine⟨z.l,g',dsOf x,fun g ds g'=>RoundOk P z ds (hpFrom 0 (blks g)) (hpFrom 0 (blks g')),hV,?_,hround g x g' hg,hK,?_⟩
   ·intro g ds g' cI mI sI aI w us h1 h2 h3 h4
    exact yieldC _ _ _ cI mI sI aI w us h1 h2 h3 h4
   ·rw[←hds];exact p.le _ _ hx
  ·cases h
 ·cases h
theorem ICall.to{P:Program}{f:FuncId}{vs:List AV}{hs:List Blk}{z:RC}{α:Type}{blks:α→List Blk}{g g':α}{Post:List (Nat×Blk)→Prop}(h:ICall P f vs hs (fun g=>z.C (hpFrom 0 (blks g))) g (fun g2=>g2=g'))(hp:Post (hpFrom 0 (blks g'))):ICall P f vs hs z.C (hpFrom 0 (blks g)) Post:=by
 intro cx m us w hc hr hv
 refine CallsIn.mono (h cx m us w hc hr hv) ?_
 rintro e w' ⟨h1,g2,cx',m',s',a',rfl,h3,h4⟩
 exact⟨h1,_,cx',m',s',a',hp,h3,h4⟩
end Go.Proofs.Ytngghkoghbpceaa
