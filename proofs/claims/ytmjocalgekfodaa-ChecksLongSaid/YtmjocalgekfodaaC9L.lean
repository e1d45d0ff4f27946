/-
  The examples of the chapter hold (law 02), as a contract.
  Conditions: none.
-/
import Derived.Test.YtmjocalgekfodaaChk8
import Derived.Test.YtmjocalgekfodaaL9T
namespace Go.Proofs.Ytmjocalgekfodaa
open Go.RowKit
set_option linter.unusedVariables false
set_option maxRecDepth 100000

theorem afun_below {P : Program} {f : FuncId} (h : ∀ w : World, Calls P f #[] w fun e w' => e = .returned (.bool true) ∧ Below w.heap.size w w') : AFun P f [] (.v (.bool true)) := by
  intro cx m us w hr hu hp
  have hus : us = [] := by
    cases us with
    | nil => rfl
    | cons u l => simp [RepVs] at hu
  subst hus
  refine (h w).mono ?_
  rintro e w' ⟨rfl, hb⟩
  refine ⟨.bool true, m, .d (.v (.bool true)), [], rfl, ⟨rfl, rfl⟩, Nat.le_refl _, ?_, ?_⟩
  · refine ⟨hr.defers, hr.nt, ?_, ?_, hr.sep, hr.nox, hr.old, hr.fr.trans (Fr.ofBelow hb), hr.xlt, hr.pin, hr.pinp⟩
    · intro t v hv; simp [St.bare, gt] at hv
    · intro κ B hB; simp [St.bare, hpFrom, gt] at hB
  · exact repV_v.2 ⟨rfl, rfl⟩
theorem lives02 : AFun Try.prog 14 [] (.v (.bool true)) := afun_below lives_ok
def lives2_D (m : Nat) : Option (Bool × Unit) := some (true, ())
def lives2_con (m : Nat) : Con := ⟨_, _, _, vnil, bnil, 0, fun _ => rfl, rfz 0 (shp .b) bnil, fun x b => lives2_D m⟩
theorem lives2_ok (m : Nat) : ConOk Try.prog 14 (lives2_con m) := con_bool0 lives02
end Go.Proofs.Ytmjocalgekfodaa

