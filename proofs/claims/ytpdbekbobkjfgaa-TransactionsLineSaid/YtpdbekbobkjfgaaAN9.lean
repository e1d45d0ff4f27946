/-
  Walks that the kernel reckons out, part 9: from a plain function to a law's contract.
  Conditions: none; nothing here speaks of one program.
-/
import Derived.Test.YtpdbekbobkjfgaaAN8
namespace Go.Proofs.Ytpdbekbobkjfgaa
open Go.RowKit
set_option linter.unusedVariables false
set_option linter.constructorNameAsVariable false

/-- Data of shapes. -/
def argD (l : List ((s : Sh) × s.T)) : List D := l.map fun a => a.1.toD a.2
def argSV (l : List ((s : Sh) × s.T)) : List SV := l.map fun a => a.1.sv a.2
theorem args_le : ∀ {l : List ((s : Sh) × s.T)}, l.all (fun a => a.1.ok) = true → RepsLe ((argD l).map .d) (SV.toAVs (argSV l))
  | [], _ => fun w F m us hr => hr
  | a :: l, h => by
    simp only [List.all_cons, Bool.and_eq_true] at h
    intro w F m us hr
    simp only [argD, argSV, List.map_cons, SV.toAVs, RepVs] at hr ⊢
    obtain ⟨u, rest, e, r1, r2⟩ := hr
    exact ⟨u, rest, e, a.1.sv_le a.2 h.1 w F m u r1, args_le h.2 w F m rest r2⟩
/-- A law that answers true. -/
theorem afun_con {P : Program} {f : FuncId} {A : Con} (h : ConOk P f A) (l : List ((s : Sh) × s.T)) (hk : l.all (fun a => a.1.ok) = true) (x : A.X) (b : A.B) (y : A.Y) (hx : A.inV.put x = argSV l) (hb : A.inB.put b = []) (hF : A.F x b = some y)
    (ho : A.outs.put (SV × List SB) y (fun v BS => some (v, BS)) = some (.b true, [])) : AFun P f (argD l) (.v (.bool true)) := by
  obtain ⟨v, BS, h1, h2, h3⟩ := h x b y hF (SV × List SB) (fun v BS => some (v, BS)) _ ho
  simp only [Option.some.injEq, Prod.mk.injEq] at h3
  obtain ⟨rfl, rfl⟩ := h3
  rw [hx, hb] at h2
  have := h2.le (args_le hk) (BsLe.refl _)
  exact this
end Go.Proofs.Ytpdbekbobkjfgaa
