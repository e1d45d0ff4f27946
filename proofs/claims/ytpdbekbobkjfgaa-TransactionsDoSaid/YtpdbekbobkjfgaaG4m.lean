/-
  Contracts typed by hand: copies of lists, the examples of the chapter.
  Conditions: none.
-/
import Derived.Test.YtpdbekbobkjfgaaFnP
import Derived.Test.YtpdbekbobkjfgaaTrT
namespace Go.Proofs.Ytpdbekbobkjfgaa
open Go.RowKit
set_option linter.unusedVariables false

theorem con_row1 {P : Program} {f : FuncId} {e : TypeId} {k : IntKind} (h : ∀ xs : List Int, xs.length ≤ 1000000 → ARow P f [.ints k xs none] (.ints e k xs none)) :
    ConOk P f ⟨_, _, _, vcons (shp (.ints k)) vnil, bnil, 0, fun _ => rfl, rone 0 (ownp 0) (bcons (intsp e k) bnil), fun x b => bif decide (x.1.length ≤ 1000000) then some ((), x.1, ()) else none⟩ := by
  intro x b y hF R kk r hk
  obtain ⟨xs, u⟩ := x
  simp only at hF
  cases hd : decide (xs.length ≤ 1000000) with
  | false => rw [hd] at hF; cases hF
  | true =>
    rw [hd] at hF
    simp only [cond_true, Option.some.injEq] at hF
    subst hF
    refine ⟨_, _, ?_, ?_, hk⟩
    · simp [bnil]
    · exact h xs (by simpa using hd)
theorem con_bool0 {P : Program} {f : FuncId} (h : AFun P f [] (.v (.bool true))) : ConOk P f ⟨_, _, _, vnil, bnil, 0, fun _ => rfl, rfz 0 (shp .b) bnil, fun _ _ => some (true, ())⟩ := by
  intro x b y hF R kk r hk
  simp only [Option.some.injEq] at hF
  subst hF
  refine ⟨_, _, ?_, ?_, hk⟩
  · simp [bnil]
  · exact h

def cloneF_D (m : Nat) (xs : List Int) : Option (Unit × List Int × Unit) := bif decide (xs.length ≤ 1000000) then some ((), xs, ()) else none
def cloneF_con (m : Nat) : Con := ⟨_, _, _, vcons (shp (.ints .u8)) vnil, bnil, 0, fun _ => rfl, rone 0 (ownp 0) (bcons (intsp 77 .u8) bnil), fun x b => cloneF_D m x.1⟩
theorem cloneF_ok (m : Nat) : ConOk Try.prog 56 (cloneF_con m) := con_row1 (fun xs h => cloneF_a xs none h)
def cloneB_D (m : Nat) (xs : List Int) : Option (Unit × List Int × Unit) := bif decide (xs.length ≤ 1000000) then some ((), xs, ()) else none
def cloneB_con (m : Nat) : Con := ⟨_, _, _, vcons (shp (.ints .u8)) vnil, bnil, 0, fun _ => rfl, rone 0 (ownp 0) (bcons (intsp 5 .u8) bnil), fun x b => cloneB_D m x.1⟩
theorem cloneB_ok (m : Nat) : ConOk Try.prog 74 (cloneB_con m) := con_row1 (fun xs h => cloneB_a xs none h)
def lives6_D (m : Nat) : Option (Bool × Unit) := some (true, ())
def lives6_con (m : Nat) : Con := ⟨_, _, _, vnil, bnil, 0, fun _ => rfl, rfz 0 (shp .b) bnil, fun x b => lives6_D m⟩
theorem lives6_ok (m : Nat) : ConOk Try.prog 21 (lives6_con m) := con_bool0 lives06
end Go.Proofs.Ytpdbekbobkjfgaa

