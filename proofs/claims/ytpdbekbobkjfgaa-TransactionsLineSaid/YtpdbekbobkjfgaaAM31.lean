/-
  An abstract view of the machine, part 31: a slice that is compared with nil: both answers, and true only if it has no elements.
  Conditions: none; nothing here speaks of one program.
-/
import Derived.Test.YtpdbekbobkjfgaaAM26
namespace Go.Proofs.Ytpdbekbobkjfgaa
open Go.RowKit
set_option linter.unusedVariables false

def dlen : D → Option Nat
  | .ints _ xs _ => some xs.length
  | .sl _ xs _ => some xs.length
  | _ => none
def sliceT (P : Program) (t : TypeId) : Bool := match P.underlying t with | some (.slice _) => true | _ => false
theorem repD_len {w : World} {F : Nat → Prop} {d : D} {u : Value} {n : Nat} (hn : dlen d = some n) (h : RepD w F d u) : ∃ a cap, u = .slice a n cap ∧ n ≤ cap ∧ (a = none → cap = 0) := by
  cases d with
  | ints k xs c =>
    simp only [dlen, Option.some.injEq] at hn
    subst hn
    simp only [RepD] at h
    obtain ⟨a, cap, h1, h2, _, h4, _⟩ := h
    exact ⟨a, cap, h1, h2, h4⟩
  | sl m xs c =>
    simp only [dlen, Option.some.injEq] at hn
    subst hn
    simp only [RepD] at h
    obtain ⟨a, cap, vals, h1, h2, _, h4, _⟩ := h
    exact ⟨a, cap, h1, h2, h4⟩
  | _ => simp [dlen] at hn
theorem equalIn_nilS {P : Program} (w : World) (d : Nat) (t e : TypeId) (a : Option Addr) (l c : Nat) (h : P.underlying t = some (.slice e)) : (Op.equalIn (d + 1) t (.slice a l c) (.slice none 0 0)).run P w = .ok a.isNone w := by
  cases a <;> simp [Op.equalIn, run_underlying h]
theorem run_eql_nilS {P : Program} (w : World) (t : TypeId) (a : Option Addr) (l c : Nat) (h : sliceT P t = true) : (binOp .eql t (.slice a l c) (.slice none 0 0)).run P w = .ok (.bool a.isNone) w := by
  unfold sliceT at h
  split at h
  · rename_i e hu
    have : (Op.equal t (.slice a l c) (.slice none 0 0)).run P w = .ok a.isNone w := equalIn_nilS w 9999 t e a l c hu
    simp [binOp, this]
  · cases h
theorem eqGuard_slice {P : Program} {w : World} (t : TypeId) (x y : Operand) (p : Option Addr) (l c : Nat) (v : Value) : (eqGuard .eql t x y (.slice p l c) v).run P w = .ok () w := by
  unfold eqGuard
  split <;> simp_all
theorem awpl_nilq {P : Program} {ops : Array Oper} {o : Oper} {l : List Oper} {Q : St → Prop} {s : St} {t t' : TypeId} {x : Operand} {d : D} {n : Nat} (hg : o.guard = none) (ho : o.op = .binOp .eql t x (.const (.slice none 0 0)) t') (hu : sliceT P t = true)
    (hx : s.ev x = some (.d d)) (hn : dlen d = some n) (hok : s.okDst o.dst = true) (h : ∀ b : Bool, (b = true → n = 0) → AWpL P ops l Q (s.put o.dst (.d (.v (.bool b))))) : AWpL P ops (o :: l) Q s := by
  intro cx m a w K hr hk
  have rx := hr.ev hx
  simp only [RepV] at rx
  obtain ⟨p, cap, h1, h2, h3⟩ := repD_len hn rx
  have hy : Yld P o a w (.bool p.isNone) := by
    have hyv : a.eval (.const (.slice none 0 0)) = .slice none 0 0 := rfl
    unfold Yld
    simp only [execOp, ho, h1, hyv, Sem.run_bind, eqGuard_slice, Result.andThen_ok, run_eql_nilS _ t _ _ _ hu]; rfl
  unfold wpList
  rw [if_pos (wanted_none hg _)]
  refine .inl ?_
  unfold Yld at hy
  unfold Oper.wp
  rw [hy]
  exact h p.isNone (fun hb => by
    cases p with
    | none => have := h3 rfl; omega
    | some p => cases hb) cx m _ _ K (hr.put hok (repV_v.2 ⟨rfl, rfl⟩)) hk
end Go.Proofs.Ytpdbekbobkjfgaa
