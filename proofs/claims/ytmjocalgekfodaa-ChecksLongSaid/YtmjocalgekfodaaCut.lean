/-
  Slices of slices 'l[k:]', 'l[:k]', as run equations for the walk.
  Conditions: none; nothing here speaks of one program.
-/
import Derived.Test.YtmjocalgekfodaaKA
namespace Go.Proofs.Ytmjocalgekfodaa
open Go.RowKit
set_option linter.unusedVariables false

theorem run_sizeOf {P : Program} {w : World} {t e : TypeId} {z : Value} {size bytes : Nat} (ST : SliceTy P t e z size bytes) : (sizeOf e).run P w = .ok size w := by
  obtain ⟨i, hi, hz0, hz1, hz2⟩ := info_parts ST.info
  simp [sizeOf, typeInfo, hi, hz1]


theorem cutHigh {P : Program} {w : World} {t e : TypeId} {z : Value} {bytes : Nat} (ST : SliceTy P t e z 1 bytes) {a : Option Addr} {n cap : Nat} {xs : List Value} (hc : Cells w a xs) (hn : n = xs.length) (hcap : n ≤ cap) (h0 : a = none → cap = 0) (k : Nat) (hk : k ≤ n) :
    ∃ a2, (∀ w', (Instr.slice t (.slice a n cap) none (some (.int .i64 (k : Int))) none).run P w' = .ok (.slice a2 k cap) w') ∧ Cells w a2 (xs.take k) ∧ (a2 = none → cap = 0) := by
  refine ⟨if cap = 0 then a else a.map (·.add (0 * 1)), fun w' => ?_, ?_, ?_⟩
  · have h1 : (0 : Int) ≤ k ∧ (k : Int) ≤ cap := by omega
    have h2 : k ≤ cap := by omega
    simp [Instr.slice, run_underlying ST.und, Instr.sliceBounds, Instr.sliceBound, asIntOf, run_sizeOf ST, h1.1, h2]
  · intro hne
    obtain ⟨b, off, rfl, hcc⟩ := hc (by intro e; rw [e] at hne; simp at hne)
    refine ⟨b, off, ?_, fun i v hv => ?_⟩
    · split
      · rfl
      · simp [Addr.add]
    · refine hcc i v ?_
      rw [List.getElem?_take] at hv
      split at hv
      · exact hv
      · cases hv
  · intro ha
    split at ha
    · assumption
    · exact h0 (by simpa using ha)
end Go.Proofs.Ytmjocalgekfodaa

