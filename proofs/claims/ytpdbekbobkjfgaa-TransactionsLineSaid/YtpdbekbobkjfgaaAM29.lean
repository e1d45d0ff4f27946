/-
  An abstract view of the machine, part 29: 'append(s, make([]T, k)...)' onto an own row of integers.
  Conditions: none; nothing here speaks of one program.
-/
import Derived.Test.YtpdbekbobkjfgaaAM10
import Derived.Lib.AppendZerosOnto
namespace Go.Proofs.Ytpdbekbobkjfgaa
open Go.RowKit
set_option linter.unusedVariables false

theorem zeroCells_one (z0 : Value) (k : Nat) : Builtin.zeroCells #[z0] k = (List.replicate k z0).toArray := by
  apply Array.ext'
  apply List.ext_getElem
  · simp [Builtin.zeroCells]
  · intro i h1 h2
    simp [Builtin.zeroCells]
    rw [Nat.mod_one]; rfl

theorem run_appendZ {P : Program} {w : World} {t tn ty e by' : Nat} {kn kq : IntKind} (hT : appT P t = some (e, 1, by')) (htn : P.underlying tn = some (.int kn)) {i0 : TypeInfo} {z : Value} {z0 : Value} (hi0 : P.info? e = some i0) (hz0 : i0.zero = some z) (hzc : z.cells = #[z0]) (h1 : z0.oneCell' = true)
    {v : Value} {l : Nat} {xs : List Value} (hown : OwnRow w e 1 v l xs) (k : Nat) (hm : l + k ≤ maxLen) (hb : (l + k) * by' ≤ 140737488355328) :
    ∃ v' w', (Builtin.append_ #[t, tn] ty #[v, .int kq k]).run P w = .ok v' w' ∧ OwnRow w' e 1 v' (l + k) (xs ++ List.replicate k z0) ∧ Fr (fun b => blkOf v = some b) w w' ∧ (∀ b, blkOf v' = some b → blkOf v = some b ∨ w.heap.size ≤ b) ∧
      (∀ a0 l0 cap, v = .slice a0 l0 cap → l + k ≤ cap → ∃ a1, v' = .slice a1 (l + k) cap) := by
  obtain ⟨i, z', hu, hi, hz, hzs, hs, hby, hn⟩ := appT_parts hT
  rw [hi0] at hi; cases hi
  rw [hz0] at hz; cases hz
  have hkm : k ≤ 9223372036854775807 := by unfold maxLen at hm; omega
  have hw : IntKind.i64.wrap (k : Int) = k := by rw [IntKind.wrap_i64]; omega
  have hneg : ¬ ((k : Int) < 0) := by omega
  have hkb : k * by' ≤ 140737488355328 := Nat.le_trans (Nat.mul_le_mul_right _ (by omega)) hb
  have h48i : ¬ (281474976710656 < (k : Int) * (i0.bytes : Int)) := by
    rw [← Int.natCast_mul, hby]; omega
  by_cases hk : k = 0
  · subst hk
    obtain ⟨a0, cap, rfl, hcap, _⟩ := hown.cells
    refine ⟨.slice a0 l cap, w, ?_, by simpa using hown, Fr.refl _ _, fun b hb => .inl hb, fun a1 l0 cap' h _ => ?_⟩
    · have hw0 : IntKind.i64.wrap 0 = 0 := by decide
      cases a0 <;> simp [Builtin.append_, run_underlying hu, run_underlying htn, sizeOf, typeInfo, hi0, asInt, asIntOf, hw0, hcap, storeCells]
    · simp at h
      obtain ⟨rfl, _, rfl⟩ := h
      exact ⟨a0, by simp⟩
  · have hns : ¬ (k * i0.size = 0) := Nat.mul_ne_zero hk (by omega)
    have hzk : Builtin.zeroCells z.cells k = (List.replicate k z0).toArray := by rw [hzc]; exact zeroCells_one z0 k
    have hrl : (List.replicate k z0).length = k := by simp
    have hr1 : ∀ u ∈ List.replicate k z0, u.oneCell' = true := fun u hu => by rw [List.eq_of_mem_replicate hu]; exact h1
    have key : ∀ (base : Option Addr) (cap : Nat) (olds : List Value), olds.length = l * 1 → (olds ≠ [] → ∃ g, base = some g ∧ ∀ j u, olds[j]? = some u → w.cell? (g.add j) = some u) → cap < l + k →
        ∃ v' w', (Builtin.append_ #[t, tn] ty #[.slice base l cap, .int kq k]).run P w = .ok v' w' ∧ OwnRow w' e 1 v' (l + k) (olds ++ List.replicate k z0) ∧ Fr (fun _ => False) w w' ∧ (∀ b, blkOf v' = some b → w.heap.size ≤ b) := by
      intro base cap olds hol holds hlt
      have hold : (Builtin.firstCells i0.size l (.slice base l cap)).run P w.drew = .ok olds.toArray w.drew := by
        rw [hs]
        cases hol0 : olds with
        | nil =>
          have : l = 0 := by rw [hol0] at hol; simp at hol; omega
          subst this
          cases base with
          | none => exact run_firstCells_none w.drew 1 0 0 cap
          | some a => exact run_firstCells_some w.drew 1 0 a 0 cap [] (by simp) (by simp)
        | cons x xs =>
          obtain ⟨g, rfl, hc⟩ := holds (by rw [hol0]; simp)
          rw [hol0] at hol hc
          exact run_firstCells_some w.drew 1 l g l cap (x :: xs) hol (by simpa using hc)
      have hr := Lib.run_append_grow_zeros (P := P) w t tn ty e i0 z kq kn hu htn hi0 hz0 base l cap olds hold k (by omega) (by omega) hlt (by unfold maxLen at hm; omega) (by rw [hby]; omega) (by rw [hby]; exact growslice_fits (by omega) hb)
      have hge := grownCap_ge w (l + k) cap e
      have hcm := grownCap_le_maxLen w (l + k) cap e hm
      rw [hzk] at hr
      refine ⟨_, _, hr, ⟨by rw [List.length_append, hol, hrl, Nat.add_mul]; omega, .inr ⟨w.heap.size, _, _, rfl, by omega, heap_alloc_new w.drew _, hge, hcm, ?_, ?_⟩⟩, ⟨rfl, rfl, rfl, by simp, fun j hj _ => Below.heap_alloc w.drew _ j hj⟩, fun b' hb' => ?_⟩
      · simp only [Array.size_append, List.size_toArray, size_zeroCells, hzs, hol, hrl, Nat.mul_one]
        try omega
      · simp only [Array.toList_append]
        rw [show (l + k) * 1 = (olds ++ List.replicate k z0).length by simp only [List.length_append, hol, hrl, Nat.mul_one]]
        exact List.take_left
      · simp only [blkOf] at hb'
        split at hb'
        · cases hb'
        · simp at hb'; omega
    rcases hown.2 with ⟨rfl, a0, rfl⟩ | ⟨g, cap, cur, rfl, h0, hg, hnc, hcm, hcs, ht⟩
    · have hxs : xs = [] := List.eq_nil_of_length_eq_zero (by have := hown.1; omega)
      subst hxs
      obtain ⟨v', w', r1, r2, r3, r4⟩ := key a0 0 [] (by simp) (by simp) (by omega)
      refine ⟨v', w', r1, r2, r3.mono (fun _ _ h => h.elim), fun b hb => .inr (r4 b hb), fun a1 l0 cap h hh => ?_⟩
      simp at h
      obtain ⟨_, _, rfl⟩ := h
      omega
    · have hown' : w.ownsRow 0 e 1 (.slice (some ⟨g, 0, none⟩) l cap) l xs := ⟨hown.1, .inr ⟨g, cap, cur, rfl, Nat.zero_le _, hg, hnc, hcm, hcs, ht⟩⟩
      have hc0 : cap ≠ 0 := by omega
      by_cases hroom : l + k ≤ cap
      · have hfit : l * i0.size + (List.replicate k z0).length ≤ cur.size := by rw [hrl, hs, hcs]; omega
        have hst := run_storeCells_at P g (l * i0.size) e (List.replicate k z0) 0 cur w hg (by simpa using hfit) hr1
        simp only [Nat.add_zero] at hst
        have hr : (Builtin.append_ #[t, tn] ty #[.slice (some ⟨g, 0, none⟩) l cap, .int kq k]).run P w = .ok (.slice (some ⟨g, 0, none⟩) (l + k) cap) (w.setRow g (cur.toList.take (l * i0.size) ++ List.replicate k z0 ++ cur.toList.drop (l * i0.size + (List.replicate k z0).length)).toArray) := by
          simp only [List.length_replicate] at hst ⊢
          simp [Builtin.append_, run_underlying hu, run_underlying htn, sizeOf, typeInfo, zeroValue, hi0, hz0, asInt, asIntOf, hw, hneg, hns, h48i, hroom, hzk, Addr.add_lit, hst]
        refine ⟨_, _, hr, ⟨by rw [List.length_append, hown.1, hrl]; omega, .inr ⟨g, cap, _, rfl, h0, setRow_heap w g cur _ e _ hg, hroom, hcm, ?_, ?_⟩⟩, ?_, fun b' hb' => .inl hb', ?_⟩
        · simp only [List.size_toArray, List.length_append, List.length_take, List.length_drop, Array.length_toList]
          rw [hs] at hfit ⊢
          omega
        · have e1 : (xs ++ List.replicate k z0).length = (l + k) * 1 := by rw [List.length_append, hown.1, hrl]; omega
          rw [hs, ht, ← e1]
          exact List.take_left
        · exact ⟨rfl, rfl, rfl, by simp, fun j _ hj => setRow_other w g j _ (fun e => hj (by rw [e]; simp [blkOf, hc0]))⟩
        · intro a1 l0 cap' h _
          simp at h
          obtain ⟨_, _, rfl⟩ := h
          exact ⟨_, rfl⟩
      · have holds : ∀ j u, xs[j]? = some u → w.cell? ((⟨g, 0, none⟩ : Addr).add j) = some u := hown'.cells (g := g) rfl
        obtain ⟨v', w', r1, r2, r3, r4⟩ := key (some ⟨g, 0, none⟩) cap xs hown.1 (fun _ => ⟨_, rfl, holds⟩) (by omega)
        refine ⟨v', w', r1, r2, r3.mono (fun _ _ h => h.elim), fun b hb => .inr (r4 b hb), fun a1 l0 cap' h hh => ?_⟩
        simp at h
        obtain ⟨_, _, rfl⟩ := h
        omega

/-- The zero that an integer type begins with. -/
def zeroI (P : Program) (e : TypeId) (k : IntKind) : Bool := match zeroT P e with
  | some [.int k' z] => decide (k = k' ∧ z = 0)
  | _ => false
/-- An own row of integers, longer by so many zeros. -/
def growZ (P : Program) (bytes : Nat) (B : Blk) (i : Int) : Option Blk :=
  match B with
  | .ints e k xs c => if zeroI P e k = true ∧ 0 ≤ i ∧ (xs.length + i.toNat) * bytes ≤ 140737488355328 ∧ xs.length + i.toNat ≤ maxLen then some (.ints e k (xs ++ List.replicate i.toNat 0) (capA c (xs.length + i.toNat))) else none
  | _ => none
theorem SRep.appendZ {P : Program} {c : Ctx} {m : Nat → Value} {s : St} {a : Act} {w : World} (h : SRep c m s a w) {t tn ty e by' κ : Nat} {kn kq : IntKind} {B B' : Blk} {i : Int} (hT : appT P t = some (e, 1, by')) (htn : intT P tn = some kn) (hB : gt κ s.hp = some B) (he : B.elem = e)
    (hg : growZ P by' B i = some B') :
    ∃ v' w', (Builtin.append_ #[t, tn] ty #[m κ, .int kq i]).run P w = .ok v' w' ∧ SRep c (upm m κ v') (s.setB true κ B') a w' ∧ v'.oneCell' = true := by
  have hself := h.heap κ B hB
  have hpin : c.pin κ = none := by
    cases hp : c.pin κ with
    | none => rfl
    | some v =>
      exfalso
      obtain ⟨_, b, rfl⟩ := h.pinp κ v hp
      have e0 := h.pin κ _ hp
      cases B with
      | box e' cs => simp [growZ] at hg
      | ints e' k xs cc =>
        obtain ⟨ad, cap, h1, _⟩ := hself.1.cells
        rw [h1] at e0; cases e0
      | row e' n' xs cc => simp [growZ] at hg
  cases B with
  | box e' cs => simp [growZ] at hg
  | row e' n' xs cc => simp [growZ] at hg
  | ints e' k xs cc =>
    simp only [Blk.elem] at he
    subst he
    simp only [growZ] at hg
    split at hg
    · rename_i hb
      cases hg
      obtain ⟨hz, h0, hb1, hb2⟩ := hb
      obtain ⟨i0, z, hu, hi, hzz, hzs, _⟩ := appT_parts hT
      have hzc : z.cells = #[.int k 0] := by
        unfold zeroI at hz
        split at hz
        · rename_i k' zz hzt
          simp only [decide_eq_true_eq] at hz
          obtain ⟨rfl, rfl⟩ := hz
          unfold zeroT at hzt
          simp only [hi, Option.bind_some, hzz] at hzt
          split at hzt
          · simp only [Option.some.injEq] at hzt
            apply Array.ext'; simpa using hzt
          · cases hzt
        · cases hz
      have hin : ((i.toNat : Nat) : Int) = i := Int.toNat_of_nonneg h0
      obtain ⟨v', w', h1, h2, h3, h4, h5⟩ := run_appendZ (P := P) (ty := ty) (kq := kq) hT (intT_und htn) hi hzz hzc rfl hself.1 i.toNat hb2 hb1
      rw [hin] at h1
      refine ⟨v', w', h1, ?_, h2.oneCell⟩
      refine (h.setB true κ _ v' (.inl rfl) (.inl hpin) (h3.mono fun b _ hb => ⟨_, hB, hb⟩) (fun b hb => or_map (fun h => ⟨_, hB, h⟩) (h4 b hb)) ?_).1
      simp only [RepB, upm_same]
      exact ⟨by simpa using h2, by simpa using capIs_grow hself.2 h5⟩
    · cases hg
end Go.Proofs.Ytpdbekbobkjfgaa
