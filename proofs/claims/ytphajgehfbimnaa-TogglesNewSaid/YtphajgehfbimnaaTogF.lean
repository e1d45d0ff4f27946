/-
  Lists of packets as arguments of a law.
-/
import Derived.Test.YtphajgehfbimnaaFrame
import Derived.Test.YtphajgehfbimnaaTog9
namespace Go.Proofs.Ytphajgehfbimnaa
open Go.ChangeShapes Go.WideShapes Go.ChangeAt Go.RowKit
set_option linter.unusedVariables false

theorem Tr.rowIs {P : Program} {W : World} {t e : TypeId} {k : IntKind} {v : Value} (hu : P.underlying t = some (.slice e)) (he : P.underlying e = some (.int k)) (hc : P.cellsOf e = 1) (h : Tr P W t [v]) : ∃ l, RowIs k W v l := by
  obtain ⟨a, zs, cap, hv, h1, h2, h3, h4, _⟩ := h.ints hu he hc
  simp only [List.cons.injEq, and_true] at hv
  exact ⟨zs, a, cap, hv, h1, h2, h3, h4⟩

theorem Tr.rowsOf {P : Program} {W : World} {t e : TypeId} {k : IntKind} (hu : P.underlying t = some (.slice e)) (he : P.underlying e = some (.int k)) (hc : P.cellsOf e = 1) : ∀ xs : List Value, (∀ v ∈ xs, Tr P W t [v]) → ∃ ll, Rows k W xs ll
  | [], _ => ⟨[], trivial⟩
  | v :: xs, h => by
    obtain ⟨l, hl⟩ := Tr.rowIs hu he hc (h v (by simp))
    obtain ⟨ll, hr⟩ := Tr.rowsOf hu he hc xs (fun u hm => h u (by simp [hm]))
    exact ⟨l :: ll, hl, hr⟩

/-- A list of packets. -/
theorem Tr.lists {W : World} {cs : List Value} (h : Tr Try.prog W 53 cs) : ∃ a n cap ll, cs = [.slice a n cap] ∧ LL W a n cap ll := by
  obtain ⟨a, xs, cap, rfl, h1, h2, h3, h4, h5⟩ := h.slice1 Try.underlying53 (by kernel_rfl)
  obtain ⟨ll, hr⟩ := Tr.rowsOf Try.underlying32 Try.underlying5 (by kernel_rfl) xs h5
  exact ⟨a, _, cap, ll, rfl, xs, rfl, h1, h2, h3, h4, hr⟩

end Go.Proofs.Ytphajgehfbimnaa
