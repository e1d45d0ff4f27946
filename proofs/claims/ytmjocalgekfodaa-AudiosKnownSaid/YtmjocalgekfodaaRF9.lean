/-
  Yield, as the loop's round answers it.
  Conditions: none.
-/
import Derived.Test.YtmjocalgekfodaaRF8
namespace Go.Proofs.Ytmjocalgekfodaa
open Go.RowKit
set_option linter.unusedVariables false
set_option linter.unusedSimpArgs false

def ykF {α X : Type} (B : α → X → Option α) (p : VsPat X) : YK α := fun R V g vs K => match p.get vs with
  | some x => bnd (B g x) K
  | none => none
open Classical in
noncomputable def ykB {α X : Type} (V0 : Value) (B : α → X → Option α) (p : VsPat X) : YK α := fun R V g vs K => if V = V0 then ykF B p R V g vs K else none
theorem ykB_self {α X : Type} {V0 : Value} {B : α → X → Option α} {p : VsPat X} {R : Type} {g : α} {vs : List SV} {K : α → Option R} : ykB V0 B p R V0 g vs K = ykF B p R V0 g vs K := if_pos rfl
theorem ICall.to {P : Program} {f : FuncId} {vs : List AV} {hs : List Blk} {z : RC} {α : Type} {blks : α → List Blk} {g g' : α} {Post : List (Nat × Blk) → Prop} (h : ICall P f vs hs (fun g => z.C (hpFrom 0 (blks g))) g (fun g2 => g2 = g')) (hp : Post (hpFrom 0 (blks g'))) : ICall P f vs hs z.C (hpFrom 0 (blks g)) Post := by
  intro cx m us w hc hr hv
  refine CallsIn.mono (h cx m us w hc hr hv) ?_
  rintro e w' ⟨h1, g2, cx', m', s', a', rfl, h3, h4⟩
  exact ⟨h1, _, cx', m', s', a', hp, h3, h4⟩
end Go.Proofs.Ytmjocalgekfodaa

