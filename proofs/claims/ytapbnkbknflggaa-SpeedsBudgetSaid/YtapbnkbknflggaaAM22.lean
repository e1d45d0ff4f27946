/-
  An abstract view of the machine, part 22: regions with calls, reckoned out by what the callees are known to answer.
  Conditions: none; nothing here speaks of one program.
-/
import Derived.Test.YtapbnkbknflggaaAM21
namespace Go.Proofs.Ytapbnkbknflggaa
open Go.RowKit
set_option linter.unusedVariables false

/-- What a function that is handed no block answers, as far as it is known. -/
abbrev TellF := List AV → Option (AV × List Blk)
def TellOk (P : Program) (f : FuncId) (F : TellF) : Prop := ∀ us R BS, F us = some (R, BS) → ACall P f us [] fun r hs' => r = R ∧ hs' = BS
def tabRun : List (FuncId × TellF) → RunF
  | [], _, _, _ => none
  | (f, F) :: l, g, us, bs => if g = f then (if bs.isEmpty then F us else none) else tabRun l g us bs
theorem tab_nil {P : Program} : RunOk P (tabRun []) := fun f vs hs R BS h => by simp [tabRun] at h
theorem tab_cons {P : Program} {f : FuncId} {F : TellF} {l : List (FuncId × TellF)} (h : TellOk P f F) (hl : RunOk P (tabRun l)) : RunOk P (tabRun ((f, F) :: l)) := by
  intro g us bs R BS hr
  simp only [tabRun] at hr
  split at hr
  · rename_i e
    subst e
    split at hr
    · rename_i hb
      have : bs = [] := List.isEmpty_iff.1 hb
      subst this
      exact ⟨by simp, h us R BS hr⟩
    · cases hr
  · exact hl _ _ _ _ _ hr

/-! ### Rules -/
theorem x_regX {P : Program} {ov : RunF} (hov : RunOk P ov) {Q : Exit → St → Prop} {s : St} {id : Nat} {l : List Oper} (h : ∀ r, opsX P ov l.toArray l s = r → ∃ s', r = some s' ∧ Q .normal s') : AWp P (.region id l.toArray false) Q s := by
  obtain ⟨s', h1, h2⟩ := h _ rfl
  exact awp_region_lit (opsX_sound hov h1 h2)
theorem x_seqX {P : Program} {ov : RunF} (hov : RunOk P ov) {Q : Exit → St → Prop} {s : St} {id : Nat} {l : List Oper} {y : Code} (h : ∀ r, opsX P ov l.toArray l s = r → ∃ s', r = some s' ∧ AWp P y Q s') : AWp P (.seq (.region id l.toArray false) y) Q s :=
  awp_seq (x_regX hov h)
theorem x_drawX {P : Program} (hm : P.follows .mixedOrders = true) {ov : RunF} (hov : RunOk P ov) {Q : Exit → St → Prop} {s : St} {id : Nat} {l : List Oper} (p : Nat) (hok : drawOk l p = true)
    (h : ∀ r, valsX P ov l.toArray p l (preFix s l) = r → ∃ l' s', r = some (l', s') ∧ ∀ r2, opsX P ov l.toArray l' s' = r2 → ∃ s2, r2 = some s2 ∧ Q .normal s2) : AWp P (.region id l.toArray true) Q s := by
  obtain ⟨l', s', h1, h2⟩ := h _ rfl
  obtain ⟨s2, h3, h4⟩ := h2 _ rfl
  intro cx m a w hr
  exact awp_drawq p hm hok (valsX_sound hov h1 (opsX_sound hov h3 h4)) cx m a w (preFix_sound hr)
theorem x_condT {P : Program} {Q : Exit → St → Prop} {s : St} {c : Operand} {x y : Code} (h : ∀ r, s.ev c = r → r = some (.d (.v (.bool true))) ∧ AWp P x Q s) : AWp P (.cond c x y) Q s :=
  awp_cond_true (h _ rfl).1 (h _ rfl).2
theorem x_condF {P : Program} {Q : Exit → St → Prop} {s : St} {c : Operand} {x y : Code} (h : ∀ r, s.ev c = r → r = some (.d (.v (.bool false))) ∧ AWp P y Q s) : AWp P (.cond c x y) Q s :=
  awp_cond_false (h _ rfl).1 (h _ rfl).2
/-- A step that no code makes: a row is data from now on. -/
theorem x_frz {P : Program} {Q : Exit → St → Prop} {s : St} {c : Code} (L : List Nat) (h : ∀ r, freezeL s L = r → ∃ s', r = some s' ∧ AWp P c Q s') : AWp P c Q s := by
  obtain ⟨s', h1, h2⟩ := h _ rfl
  exact fun cx m a w hr => h2 cx m a w (freezeL_sound h1 hr)

attribute [push_cast] tabRun keysV keysVs keysB reachK nodupB maxK notOwn isOwn isRowK freezeL callS opX opG opsX preFix evK takenK stepX callD valX valsX List.filter_cons List.filter_nil List.isEmpty_nil List.isEmpty_cons
end Go.Proofs.Ytapbnkbknflggaa
