/-
  The plain laws of the toggles: what exchanges do to the packets, told without any program.
-/
import Derived.Test.YtphajgehfbimnaaTog5
namespace Go.Proofs.Ytphajgehfbimnaa
set_option linter.unusedVariables false

/-- Behind exchanges d packets are acknowledged; those have been taken, and one more where the toggles differ. -/
def TInv {α : Type} (l : List α) (d : Nat) : Bool × List α × Bool × List α → Prop
  | (st, left, rt, got) => left = l.drop d ∧ d ≤ l.length ∧ ((st = rt ∧ got = l.take d) ∨ (st ≠ rt ∧ d < l.length ∧ got = l.take (d + 1)))

theorem TInv.step {α : Type} {l : List α} {d : Nat} {s : Bool × List α × Bool × List α} (h : TInv l d s) (a b : Bool) : ∃ d', TInv l d' (tstep a b s) := by
  obtain ⟨st, left, rt, got⟩ := s
  obtain ⟨h1, h2, h3⟩ := h
  cases left with
  | nil => exact ⟨d, h1, h2, h3⟩
  | cons x left =>
    have hd : d < l.length := by
      rcases Nat.lt_or_ge d l.length with h | h
      · exact h
      · rw [List.drop_eq_nil_of_le h] at h1; cases h1
    have hx : l.drop d = l[d] :: l.drop (d + 1) := List.drop_eq_getElem_cons hd
    rw [hx] at h1
    simp only [List.cons.injEq] at h1
    obtain ⟨rfl, rfl⟩ := h1
    have ht : l.take (d + 1) = l.take d ++ [l[d]] := by rw [List.take_add_one]; simp [hd]
    cases a with
    | true => exact ⟨d, hx.symm, h2, h3⟩
    | false =>
      rcases h3 with ⟨rfl, rfl⟩ | ⟨hne, _, rfl⟩
      · have e : ∀ b, tstep false b (st, l[d] :: l.drop (d + 1), st, l.take d) = if b then (st, l[d] :: l.drop (d + 1), !st, l.take d ++ [l[d]]) else (!st, l.drop (d + 1), !st, l.take d ++ [l[d]]) := by intro b; simp [tstep]
        rw [e, ← ht]
        cases b with
        | true => exact ⟨d, hx.symm, h2, .inr ⟨by cases st <;> decide, hd, rfl⟩⟩
        | false => exact ⟨d + 1, rfl, hd, .inl ⟨rfl, rfl⟩⟩
      · have e : ∀ b, tstep false b (st, l[d] :: l.drop (d + 1), rt, l.take (d + 1)) = if b then (st, l[d] :: l.drop (d + 1), rt, l.take (d + 1)) else (!st, l.drop (d + 1), rt, l.take (d + 1)) := by
          intro b; simp only [tstep]; rw [if_neg hne]; rfl
        rw [e]
        cases b with
        | true => exact ⟨d, hx.symm, h2, .inr ⟨hne, hd, rfl⟩⟩
        | false => exact ⟨d + 1, rfl, hd, .inl ⟨by cases st <;> cases rt <;> simp_all, rfl⟩⟩

theorem TInv.run {α : Type} {l : List α} (xs : List (Bool × Bool)) : ∀ {s : Bool × List α × Bool × List α} {d : Nat}, TInv l d s → ∃ d', TInv l d' (trun xs s) := by
  induction xs with
  | nil => intro s d h; exact ⟨d, h⟩
  | cons x xs ih =>
    intro s d h
    obtain ⟨d', h'⟩ := h.step x.1 x.2
    exact ih h'

theorem TInv.start {α : Type} (l : List α) : TInv l 0 (false, l, false, []) := ⟨by simp, by omega, .inl ⟨rfl, by simp⟩⟩

/-- Exchanges without any loss. -/
def clean (n : Nat) : List (Bool × Bool) := List.replicate n (false, false)

theorem run_clean {α : Type} : ∀ (left : List α) (n : Nat) (st : Bool) (got : List α), left.length ≤ n → ∃ st' rt', trun (clean n) (st, left, st, got) = (st', [], rt', got ++ left) := by
  intro left
  induction left with
  | nil => intro n st got _; rw [trun_empty]; exact ⟨st, st, by simp⟩
  | cons x left ih =>
    intro n st got hn
    cases n with
    | zero => simp at hn
    | succ n =>
      have e : trun (clean (n + 1)) (st, x :: left, st, got) = trun (clean n) (!st, left, !st, got ++ [x]) := by
        simp [clean, List.replicate_succ, trun, tstep]
      rw [e]
      obtain ⟨st', rt', h⟩ := ih n (!st) (got ++ [x]) (by simpa using hn)
      exact ⟨st', rt', by rw [h]; simp⟩

/-- Behind any exchanges, as many further ones without loss as packets are left: all are taken, in their order. -/
theorem run_all {α : Type} {l : List α} {d : Nat} {st rt : Bool} {left got : List α} (h : TInv l d (st, left, rt, got)) (n : Nat) (hn : left.length ≤ n) : ∃ st' rt', trun (clean n) (st, left, rt, got) = (st', [], rt', l) := by
  obtain ⟨rfl, h2, h3⟩ := h
  rcases h3 with ⟨rfl, rfl⟩ | ⟨hne, hd, rfl⟩
  · obtain ⟨st', rt', h⟩ := run_clean (l.drop d) n st (l.take d) hn
    exact ⟨st', rt', by rw [h, List.take_append_drop]⟩
  · have hx : l.drop d = l[d] :: l.drop (d + 1) := List.drop_eq_getElem_cons hd
    cases n with
    | zero => simp at hn; omega
    | succ n =>
      have e : trun (clean (n + 1)) (st, l.drop d, rt, l.take (d + 1)) = trun (clean n) (!st, l.drop (d + 1), !st, l.take (d + 1)) := by
        have er : rt = !st := by cases st <;> cases rt <;> simp_all
        subst er
        rw [hx]
        generalize l.drop (d + 1) = left
        generalize l.take (d + 1) = got
        cases st <;> simp [clean, List.replicate_succ, trun, tstep]
      rw [e]
      obtain ⟨st', rt', h⟩ := run_clean (l.drop (d + 1)) n (!st) (l.take (d + 1)) (by simp at hn ⊢; omega)
      exact ⟨st', rt', by rw [h, List.take_append_drop]⟩

theorem TInv.counts {α : Type} {l : List α} {d : Nat} {st rt : Bool} {left got : List α} (h : TInv l d (st, left, rt, got)) :
    left.length = l.length - d ∧ d ≤ l.length ∧ d ≤ got.length ∧ got.length ≤ d + 1 ∧ got.length ≤ l.length ∧ got = l.take got.length := by
  obtain ⟨rfl, h2, h3⟩ := h
  rcases h3 with ⟨rfl, rfl⟩ | ⟨hne, hd, rfl⟩
  · have : min d l.length = d := by omega
    simp [this]; omega
  · have : min (d + 1) l.length = d + 1 := by omega
    simp [this]; omega
end Go.Proofs.Ytphajgehfbimnaa
