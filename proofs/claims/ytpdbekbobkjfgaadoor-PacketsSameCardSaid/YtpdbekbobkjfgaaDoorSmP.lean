/-
  The statement PacketsSame: the law's plain function is true.
  Conditions: none.
-/
import Derived.Test.YtpdbekbobkjfgaaDoorD3s
import Derived.Test.YtpdbekbobkjfgaaDoorKF
namespace Go.Proofs.YtpdbekbobkjfgaaDoor
set_option linter.unusedVariables false
set_option linter.unusedSimpArgs false
set_option maxRecDepth 100000

theorem bifb (b c : Bool) : (bif b then some (c, ()) else some (false, ())) = some (b && c, ()) := by cases b <;> rfl
theorem bifn (b : Bool) (c : Int) : (bif !b then some ((1 : Int), ()) else some (c, ())) = some (bif b then c else 1, ()) := by cases b <;> rfl
theorem bifd (b : Bool) (c : Int) : decide ((bif b then c else (1 : Int)) = 0) = (b && decide (c = 0)) := by cases b <;> simp
theorem dsym {α : Type} [DecidableEq α] (a b : α) : decide (a = b) = decide (b = a) := decide_eq_decide.2 ⟨Eq.symm, Eq.symm⟩
def sm (x y : Pkt) : Bool := decide (x.1 = y.1) && (decide (x.2.1 = y.2.1) && (decide (x.2.2.1 = y.2.2.1) && (decide (x.2.2.2.1 = y.2.2.2.1) && ((decide (x.2.2.2.2.1 = y.2.2.2.2.1) && (decide (x.2.2.2.2.2.1 = y.2.2.2.2.2.1) && (decide (x.2.2.2.2.2.2.1 = y.2.2.2.2.2.2.1) && (decide (x.2.2.2.2.2.2.2.1 = y.2.2.2.2.2.2.2.1) && (decide (x.2.2.2.2.2.2.2.2.1 = y.2.2.2.2.2.2.2.2.1) && true))))) && decide (ByteArray.toList (Go.strOfNums x.2.2.2.2.2.2.2.2.2.1) = ByteArray.toList (Go.strOfNums y.2.2.2.2.2.2.2.2.2.1))))))
theorem same_eq (m : Nat) (x y : Pkt) : same_D m x y = some (sm x y, ()) := by
  unfold same_D sm
  simp only [bifb]
theorem df3_eq (m : Nat) (x y : Pkt) : ∃ c, df3_D m x y = some (c, ()) ∧ decide (c = 0) = sm x y := by
  unfold df3_D sm
  simp only [bifn]
  refine ⟨_, rfl, ?_⟩
  simp only [bifd, decide_true, Bool.and_true]
theorem sm_sym (x y : Pkt) : sm y x = sm x y := by
  unfold sm
  rw [dsym y.1, dsym y.2.1, dsym y.2.2.1, dsym y.2.2.2.1, dsym y.2.2.2.2.1, dsym y.2.2.2.2.2.1, dsym y.2.2.2.2.2.2.1, dsym y.2.2.2.2.2.2.2.1, dsym y.2.2.2.2.2.2.2.2.1, dsym (ByteArray.toList (Go.strOfNums y.2.2.2.2.2.2.2.2.2.1))]
theorem sm_refl (x : Pkt) : sm x x = true := by
  unfold sm
  simp
theorem smLaw_true (x y : Pkt) : smLaw_D 1000 x y = some (true, ()) := by
  obtain ⟨c, h1, h2⟩ := df3_eq 1000 x y
  unfold smLaw_D
  simp only [same_eq, h1, bnd_some, h2, sm_sym x y, sm_refl, decide_true, cond_true, lives3_D]
  cases decide ((400 : Int) < (x.2.2.2.2.2.2.2.2.2.1.length : Int))
  · cases decide ((400 : Int) < (y.2.2.2.2.2.2.2.2.2.1.length : Int))
    · rfl
    · rfl
  · rfl
end Go.Proofs.YtpdbekbobkjfgaaDoor
