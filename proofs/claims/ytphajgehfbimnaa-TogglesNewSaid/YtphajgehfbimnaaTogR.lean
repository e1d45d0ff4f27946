/-
  Lists of packets: cut, and appended one to another.
-/
import Derived.Test.YtphajgehfbimnaaTogQ
import Derived.Test.YtphajgehfbimnaaCut
namespace Go.Proofs.Ytphajgehfbimnaa
open Go.RowKit
set_option linter.unusedVariables false

theorem LL.take {w : World} {a : Option Addr} {n cap : Nat} {ll : List (List Int)} (h : LL w a n cap ll) (k : Nat) (hk : k ≤ n) : LL w a k cap (ll.take k) := by
  obtain ⟨vs, h1, h2, h3, h4, h5, h6⟩ := h
  refine ⟨vs.take k, by simp; omega, by omega, h3, h4, ?_, Rows.take h6 k⟩
  exact Cells.front (ys := vs.drop k) (by rw [List.take_append_drop]; exact h5)

theorem LL.cutLow {w : World} {a : Option Addr} {n cap : Nat} {ll : List (List Int)} (h : LL w a n cap ll) (k : Nat) (hk : k ≤ n) :
    ∃ a2, (∀ w', (Instr.slice 53 (.slice a n cap) (some (.int .i64 (k : Int))) none none).run Try.prog w' = .ok (.slice a2 (n - k) (cap - k)) w') ∧ LL w a2 (n - k) (cap - k) (ll.drop k) := by
  obtain ⟨vs, h1, h2, h3, h4, h5, h6⟩ := h
  obtain ⟨a2, hr, hc, h0⟩ := Go.Proofs.Ytphajgehfbimnaa.cutLow st88 h5 h1 h2 h4 k hk
  exact ⟨a2, hr, vs.drop k, by simp [h1], by omega, by omega, h0, hc, Rows.drop h6 k⟩

theorem LL.cutHigh {w : World} {a : Option Addr} {n cap : Nat} {ll : List (List Int)} (h : LL w a n cap ll) (k : Nat) (hk : k ≤ n) :
    ∃ a2, (∀ w', (Instr.slice 53 (.slice a n cap) none (some (.int .i64 (k : Int))) none).run Try.prog w' = .ok (.slice a2 k cap) w') ∧ LL w a2 k cap (ll.take k) := by
  obtain ⟨vs, h1, h2, h3, h4, h5, h6⟩ := h
  obtain ⟨a2, hr, hc, h0⟩ := Go.Proofs.Ytphajgehfbimnaa.cutHigh st88 h5 h1 h2 h4 k hk
  exact ⟨a2, hr, vs.take k, by simp; omega, by omega, h3, h0, hc, Rows.take h6 k⟩

theorem NewLL.cat {B n c' n' : Nat} {w w' : World} {v : Value} {ll mm : List (List Int)} {us vs : List Value} {a' : Option Addr} (hu : w.ownsRow B 32 1 v n us) (hr : OwnRows .u8 5 B w us ll) (ho : w'.ownsRow B 32 1 (.slice a' n' c') n' (us ++ vs)) (hg : w.grownBy w' v.ownBlock) (hv : Rows .u8 w' vs mm) : LL w' a' n' c' (ll ++ mm) := by
  obtain ⟨a2, c2, hv2, hc, hn1, hn2, hn3⟩ := own_val ho
  simp only [Value.slice.injEq, true_and] at hv2
  obtain ⟨rfl, rfl⟩ := hv2
  exact ⟨us ++ vs, own_len ho, hn1, hn2, hn3, hc, Rows.append (OwnRows.rows (OwnRows.kept hg hr (OwnRows.sep hu (by decide) hr))) hv⟩

section
variable {w : World} {ops : Array Oper} {o : Oper} {a : Act} {Q : Exit → Act → World → Prop} {K : Act → World → Prop} {E : Prop}
/-- 'append(l, m...)', the packets of m in memory that was there ahead of l's. -/
theorem step_catLL (hgd : o.guard = none) (s x : Operand) (ho : o.op = .call { callee := .builtin .append, args := #[s, x], argTypes := #[53, 53] })
    (B : Nat) (W0 : World) (a5 a3 : Option Addr) (n m c5 c3 : Nat) (ll mm : List (List Int)) (hs : a.eval s = .slice a5 n c5) (hx : a.eval x = .slice a3 m c3) (hN : NewLL B w (.slice a5 n c5) ll) (hL : LL W0 a3 m c3 mm) (hW : Below W0.heap.size W0 w) (hB : W0.heap.size ≤ B) (hBw : B ≤ w.heap.size)
    (hnm : n + m ≤ 1000000)
    (h : ∀ a' c' w', LL w' a' (n + m) c' (ll ++ mm) → Below B w w' → K (a.put o.dst (.slice a' (n + m) c')) w') :
    if Region.wanted o (yielded ops a.tmps) = true then Oper.wp Try.prog o a w K Q else E := by
  have hln := hN.ll.len
  obtain ⟨us, hu, hr⟩ := hN
  obtain ⟨vs, h1, h2, h3, h4, h5, h6⟩ := hL.below hW
  obtain ⟨vs', g1, g2, g3, g4, g5, g6⟩ := hL
  have hlen := own_len hu
  rw [← hln] at hu hlen
  refine step_cat hgd s x ho st88 B _ n us hs hu a3 m c3 vs hx (by omega) h5 h4 (Rows.oneCell h6) (by unfold maxLen; omega) (by omega) hBw ?_
  intro a' cap' w' o5 g5' hb hn1 hn2
  refine h a' cap' w' ?_ hb
  have hW' : Below W0.heap.size W0 w' := hW.trans (hb.mono hB)
  by_cases hm0 : m = 0
  · subst hm0
    have : vs = [] := List.eq_nil_of_length_eq_zero h1.symm
    subst this
    have h6' := Rows.length h6
    have : mm = [] := List.eq_nil_of_length_eq_zero (by simpa using h6'.symm)
    subst this
    exact NewLL.cat hu hr o5 g5' trivial
  · have hvv : vs' = vs := by
      obtain ⟨b, off, hh, hc⟩ := h5 (by intro e; subst e; simp at h1; omega)
      obtain ⟨b', off', hh', hc'⟩ := g5 (by intro e; subst e; simp at g1; omega)
      rw [hh] at hh'
      simp only [Option.some.injEq, Addr.mk.injEq, and_true] at hh'
      obtain ⟨rfl, rfl⟩ := hh'
      apply List.ext_getElem?
      intro i
      by_cases hi : i < m
      · have e1 := hc i vs[i] (by simp [show i < vs.length by omega])
        have e2 := kc hW (hc' i vs'[i] (by simp [show i < vs'.length by omega]))
        rw [e1] at e2
        simp [show i < vs.length by omega, show i < vs'.length by omega, (Option.some.inj e2)]
      · simp [show ¬ i < vs.length by omega, show ¬ i < vs'.length by omega]
    subst hvv
    exact NewLL.cat hu hr o5 g5' (Rows.below hW' g6)
end
end Go.Proofs.Ytphajgehfbimnaa
