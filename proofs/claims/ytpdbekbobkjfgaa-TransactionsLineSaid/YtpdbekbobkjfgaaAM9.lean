/-
  An abstract view of the machine, part 9: operations that make blocks or turn them.
  Conditions: none; nothing here speaks of one program.
-/
import Derived.Test.YtpdbekbobkjfgaaAM8
namespace Go.Proofs.Ytpdbekbobkjfgaa
open Go.RowKit
set_option linter.unusedVariables false

/-- An operation, run: its value, or none. -/
def Did (P : Program) (o : Oper) (a : Act) (w : World) (u : Value) (w' : World) : Prop :=
  (execOp a.eval o).run P w = .ok (.value u) w' ∨ (u = undef ∧ (execOp a.eval o).run P w = .ok .skip w')

/-- The elements of a slice type, as append and make want them. -/
def appT (P : Program) (t : TypeId) : Option (TypeId × Nat × Nat) :=
  match P.underlying t with
  | some (.slice e) => match P.info? e with
    | some i => match i.zero with
      | some z => if z.cells.size = i.size ∧ i.size ≠ 0 then some (e, i.size, i.bytes) else none
      | none => none
    | none => none
  | _ => none
theorem appT_parts {P : Program} {t e n by' : Nat} (h : appT P t = some (e, n, by')) : ∃ i z, P.underlying t = some (.slice e) ∧ P.info? e = some i ∧ i.zero = some z ∧ z.cells.size = n ∧ i.size = n ∧ i.bytes = by' ∧ 0 < n := by
  unfold appT at h
  split at h
  · rename_i e' hu
    split at h
    · rename_i i hi
      split at h
      · rename_i z hz
        split at h
        · rename_i hc
          simp only [Option.some.injEq, Prod.mk.injEq] at h
          obtain ⟨rfl, rfl, rfl⟩ := h
          exact ⟨i, z, hu, hi, hz, hc.1, rfl, rfl, by omega⟩
        · cases h
      · cases h
    · cases h
  · cases h

theorem ownRow_of {w : World} {e : TypeId} {size : Nat} {v : Value} {n : Nat} {xs : List Value} (h : w.ownsRow 0 e size v n xs) : OwnRow w e size v n xs := by
  refine ⟨h.1, ?_⟩
  rcases h.2 with ⟨rfl, rfl⟩ | ⟨g, cap, cur, rfl, _, hg, hn, hm, hs, ht⟩
  · exact .inl ⟨rfl, none, rfl⟩
  · by_cases hc : cap = 0
    · subst hc
      have : n = 0 := by omega
      subst this
      exact .inl ⟨rfl, _, rfl⟩
    · exact .inr ⟨g, cap, cur, rfl, by omega, hg, hn, hm, hs, ht⟩

theorem fr_grown {w w' : World} {v : Value} (h : w.grownBy w' v.ownBlock) (S : Nat → Prop) (hS : ∀ k, v.ownBlock = some k → S k) : Fr S w w' := Fr.ofGrown h (fun k hk => hS k hk)

theorem run_append_zero {P : Program} {w : World} {t ty e n by' : Nat} (hT : appT P t = some (e, n, by')) {base : Option Addr} {len cap : Nat} {a : Option Addr} {c : Nat} (h : len ≤ cap) :
    (Builtin.append_ #[t, t] ty #[.slice base len cap, .slice a 0 c]).run P w = .ok (.slice base len cap) w := by
  obtain ⟨i, z, hu, hi, hz, h1, h2, h3, h4⟩ := appT_parts hT
  cases a <;> cases base <;> simp [Builtin.append_, run_underlying hu, sizeOf, typeInfo, hi, Builtin.lenOf, h, Builtin.firstCells, loadCells, loadCellsFrom, storeCells]

/-- 'append(s, x...)', s the call's own. -/
theorem run_appendA {P : Program} {w : World} {t ty e n by' : Nat} (hT : appT P t = some (e, n, by')) {v : Value} {l : Nat} {xs : List Value} (hown : OwnRow w e n v l xs)
    {a : Option Addr} {k c : Nat} {news : List Value} (hl : news.length = k * n) (ha : news ≠ [] → ∃ b off, a = some ⟨b, off, none⟩ ∧ ∀ (i : Nat) x, news[i]? = some x → w.cell? ⟨b, off + i, none⟩ = some x) (h1 : ∀ u ∈ news, u.oneCell' = true)
    (hm : l + k ≤ maxLen) (hb : (l + k) * by' ≤ 140737488355328) :
    ∃ v' w', (Builtin.append_ #[t, t] ty #[v, .slice a k c]).run P w = .ok v' w' ∧ OwnRow w' e n v' (l + k) (xs ++ news) ∧ Fr (fun b => blkOf v = some b) w w' ∧ (∀ b, blkOf v' = some b → blkOf v = some b ∨ w.heap.size ≤ b) ∧
      (∀ a0 l0 cap, v = .slice a0 l0 cap → l + k ≤ cap → ∃ a1, v' = .slice a1 (l + k) cap) := by
  obtain ⟨i, z, hu, hi, hz, hzs, hs, hby, hn⟩ := appT_parts hT
  by_cases hk : k = 0
  · subst hk
    have hnews : news = [] := List.eq_nil_of_length_eq_zero (by omega)
    subst hnews
    obtain ⟨a0, cap, rfl, hcap, _⟩ := hown.cells
    refine ⟨_, w, run_append_zero hT hcap, by simpa using hown, Fr.refl _ _, fun b hb => .inl hb, fun a1 l0 cap' h _ => ?_⟩
    simp at h
    obtain ⟨rfl, _, rfl⟩ := h
    exact ⟨a0, by simp⟩
  · have hne : news ≠ [] := by
      intro e; rw [e] at hl
      rcases Nat.mul_eq_zero.1 hl.symm with h | h
      · exact hk h
      · omega
    obtain ⟨b, off, rfl, hc⟩ := ha hne
    have hc' : ∀ j u, news[j]? = some u → w.cell? ((⟨b, off, none⟩ : Addr).add j) = some u := fun j u hj => by rw [addr_add]; exact hc j u hj
    rcases hown.2 with ⟨rfl, a0, rfl⟩ | ⟨g, cap, cur, rfl, h0, hg, hnc, hcm, hcs, ht⟩
    · have hxs : xs = [] := List.eq_nil_of_length_eq_zero (by rw [hown.1]; simp)
      subst hxs
      cases a0 with
      | none =>
        obtain ⟨v', w', r1, r2, r3, r4⟩ := run_append_own (P := P) w 0 t ty e i z n by' hu hi hz hs hby hzs hn (.slice none 0 0) 0 [] (World.ownsRow_nil w 0 e n) ⟨b, off, none⟩ k c news hl hc' h1 hm hb (Nat.zero_le _)
        refine ⟨v', w', r1, by simpa using ownRow_of r2, Fr.ofGrown r3 (fun k hk => by cases hk), fun b' hb' => ?_, ?_⟩
        · right
          rcases r2.2 with ⟨rfl, _⟩ | ⟨g, cap, cur, rfl, _, hg, _⟩
          · simp [blkOf] at hb'
          · simp only [blkOf] at hb'
            split at hb'
            · cases hb'
            · simp at hb'; subst hb'
              rcases Nat.lt_or_ge g w.heap.size with hlt | hge
              · exfalso
                have hr := run_append_nil (P := P) w t ty e i z hu hi hz ⟨b, off, none⟩ k c news (by rw [hs]; exact hl) hc' (by omega) (by unfold maxLen at hm; omega) (by rw [hby]; simp only [Nat.zero_add] at hb; omega)
                rw [hr] at r1
                simp at r1
              · exact hge
        · intro a1 l0 cap h hh
          simp at h
          obtain ⟨_, _, rfl⟩ := h
          omega
      | some ad =>
        have hr := run_append_grow (P := P) w t ty e i z hu hi hz ad 0 0 [] (by simp) (by simp) ⟨b, off, none⟩ k c news (by rw [hs]; exact hl) hc' (by omega) (by unfold maxLen at hm; omega) (by rw [hby]; exact growslice_fits (by omega) hb)
        simp only [Nat.zero_add] at hr hm hb ⊢
        have hge := grownCap_ge w k 0 e
        have hcm := grownCap_le_maxLen w k 0 e hm
        refine ⟨_, _, hr, ⟨by simp [hl], .inr ⟨w.heap.size, _, _, rfl, by omega, heap_alloc_new w.drew _, hge, hcm, ?_, ?_⟩⟩, ?_, fun b' hb' => ?_, ?_⟩
        · simp only [Array.size_append, List.size_toArray, size_zeroCells, hzs, hl, List.length_nil, Nat.zero_add, ← Nat.add_mul]
          congr 1; omega
        · simp only [Array.toList_append, List.nil_append]
          rw [← hl]
          exact List.take_left
        · exact ⟨rfl, rfl, rfl, by simp, fun j hj _ => Below.heap_alloc w.drew _ j hj⟩
        · right
          simp only [blkOf] at hb'
          split at hb'
          · cases hb'
          · simp at hb'; omega
        · intro a1 l0 cap h hh
          simp at h
          obtain ⟨_, _, rfl⟩ := h
          omega
    · have hown' : w.ownsRow 0 e n (.slice (some ⟨g, 0, none⟩) l cap) l xs := ⟨hown.1, .inr ⟨g, cap, cur, rfl, Nat.zero_le _, hg, hnc, hcm, hcs, ht⟩⟩
      have hc0 : cap ≠ 0 := by omega
      by_cases hroom : l + k ≤ cap
      · have hfit : l * i.size + news.length ≤ cur.size := by rw [hl, hs, hcs, ← Nat.add_mul]; exact Nat.mul_le_mul_right _ hroom
        have hr := run_append_room (P := P) w t ty e i hu hi g l cap cur hg ⟨b, off, none⟩ k c news (by rw [hs]; exact hl) hc' h1 hroom hfit
        refine ⟨_, _, hr, ⟨by rw [List.length_append, hown.1, hl, Nat.add_mul], .inr ⟨g, cap, _, rfl, h0, setRow_heap w g cur _ e _ hg, hroom, hcm, ?_, ?_⟩⟩, ?_, fun b' hb' => .inl hb', ?_⟩
        · simp only [List.size_toArray, List.length_append, List.length_take, List.length_drop, Array.length_toList]
          rw [hs] at hfit ⊢
          omega
        · have e1 : (xs ++ news).length = (l + k) * n := by rw [List.length_append, hown.1, hl, Nat.add_mul]
          rw [hs, ht, ← e1]
          exact List.take_left
        · exact ⟨rfl, rfl, rfl, by simp, fun j _ hj => setRow_other w g j _ (fun e => hj (by rw [e]; simp [blkOf, hc0]))⟩
        · intro a1 l0 cap' h _
          simp at h
          obtain ⟨_, _, rfl⟩ := h
          exact ⟨_, rfl⟩
      · have holds : ∀ j u, xs[j]? = some u → w.cell? ((⟨g, 0, none⟩ : Addr).add j) = some u := hown'.cells (g := g) rfl
        have hr := run_append_grow (P := P) w t ty e i z hu hi hz ⟨g, 0, none⟩ l cap xs (by rw [hs]; exact hown.1) holds ⟨b, off, none⟩ k c news (by rw [hs]; exact hl) hc' (by omega) (by unfold maxLen at hm; omega) (by rw [hby]; exact growslice_fits (by omega) hb)
        have hge := grownCap_ge w (l + k) cap e
        have hcm := grownCap_le_maxLen w (l + k) cap e hm
        refine ⟨_, _, hr, ⟨by rw [List.length_append, hown.1, hl, Nat.add_mul], .inr ⟨w.heap.size, _, _, rfl, by omega, heap_alloc_new w.drew _, hge, hcm, ?_, ?_⟩⟩, ?_, fun b' hb' => ?_, ?_⟩
        · simp only [Array.size_append, List.size_toArray, size_zeroCells, hzs, hown.1, hl, ← Nat.add_mul]
          congr 1; omega
        · simp only [Array.toList_append, List.append_assoc]
          rw [← List.append_assoc, show (l + k) * n = (xs ++ news).length by rw [List.length_append, hown.1, hl, Nat.add_mul]]
          exact List.take_left
        · exact ⟨rfl, rfl, rfl, by simp, fun j hj _ => Below.heap_alloc w.drew _ j hj⟩
        · right
          simp only [blkOf] at hb'
          split at hb'
          · cases hb'
          · simp at hb'; omega
        · intro a1 l0 cap' h hh
          simp at h
          obtain ⟨_, _, rfl⟩ := h
          omega

/-- 'append(s, x...)', s full: a new block. -/
theorem run_appendD {P : Program} {w : World} {t ty e n by' : Nat} (hT : appT P t = some (e, n, by')) {a0 : Option Addr} {l cap : Nat} {xs : List Value} (hxl : xs.length = l * n) (hxs : xs ≠ [] → ∃ b off, a0 = some ⟨b, off, none⟩ ∧ ∀ (i : Nat) x, xs[i]? = some x → w.cell? ⟨b, off + i, none⟩ = some x) (hl0 : 0 < l)
    {a : Option Addr} {k c : Nat} {news : List Value} (hl : news.length = k * n) (ha : news ≠ [] → ∃ b off, a = some ⟨b, off, none⟩ ∧ ∀ (i : Nat) x, news[i]? = some x → w.cell? ⟨b, off + i, none⟩ = some x)
    (hle : l ≤ cap) (hlt : cap < l + k) (hm : l + k ≤ maxLen) (hb : (l + k) * by' ≤ 140737488355328) :
    ∃ v' w', (Builtin.append_ #[t, t] ty #[.slice a0 l cap, .slice a k c]).run P w = .ok v' w' ∧ OwnRow w' e n v' (l + k) (xs ++ news) ∧ Fr (fun _ => False) w w' ∧ (∀ b, blkOf v' = some b → w.heap.size ≤ b) := by
  obtain ⟨i, z, hu, hi, hz, hzs, hs, hby, hn⟩ := appT_parts hT
  have hne : news ≠ [] := by
    intro e; rw [e] at hl
    rcases Nat.mul_eq_zero.1 hl.symm with h | h
    · omega
    · omega
  have hne0 : xs ≠ [] := by
    intro e; rw [e] at hxl
    rcases Nat.mul_eq_zero.1 hxl.symm with h | h
    · omega
    · omega
  obtain ⟨b, off, rfl, hc⟩ := ha hne
  obtain ⟨g, off0, rfl, hc0⟩ := hxs hne0
  have hc' : ∀ j u, news[j]? = some u → w.cell? ((⟨b, off, none⟩ : Addr).add j) = some u := fun j u hj => by rw [addr_add]; exact hc j u hj
  have holds : ∀ j u, xs[j]? = some u → w.cell? ((⟨g, off0, none⟩ : Addr).add j) = some u := fun j u hj => by rw [addr_add]; exact hc0 j u hj
  have hr := run_append_grow (P := P) w t ty e i z hu hi hz ⟨g, off0, none⟩ l cap xs (by rw [hs]; exact hxl) holds ⟨b, off, none⟩ k c news (by rw [hs]; exact hl) hc' (by omega) (by unfold maxLen at hm; omega) (by rw [hby]; exact growslice_fits (by omega) hb)
  have hge := grownCap_ge w (l + k) cap e
  have hcm := grownCap_le_maxLen w (l + k) cap e hm
  refine ⟨_, _, hr, ⟨by rw [List.length_append, hxl, hl, Nat.add_mul], .inr ⟨w.heap.size, _, _, rfl, by omega, heap_alloc_new w.drew _, hge, hcm, ?_, ?_⟩⟩, ?_, fun b' hb' => ?_⟩
  · simp only [Array.size_append, List.size_toArray, size_zeroCells, hzs, hxl, hl, ← Nat.add_mul]
    congr 1; omega
  · simp only [Array.toList_append, List.append_assoc]
    rw [← List.append_assoc, show (l + k) * n = (xs ++ news).length by rw [List.length_append, hxl, hl, Nat.add_mul]]
    exact List.take_left
  · exact ⟨rfl, rfl, rfl, by simp, fun j hj _ => Below.heap_alloc w.drew _ j hj⟩
  · simp only [blkOf] at hb'
    split at hb'
    · cases hb'
    · simp at hb'; omega

/-! ### A new block -/
def kL (d : Nat) : Nat := d + 16

/-- A block that is laid: its cells stand for cs. -/
theorem SRep.newBox {c : Ctx} {m : Nat → Value} {s : St} {a : Act} {w : World} (h : SRep c m s a w) (κ : Nat) (h16 : 16 ≤ κ) (e : TypeId) {cs : List AV} {us : Array Value} (hr : RepVs w (Forb c m s.hp) m cs us.toList) (h1 : ∀ u ∈ us.toList, u.oneCell' = true) :
    SRep c (upm m κ (.pointer (some ⟨w.heap.size, 0, none⟩))) (s.setB true κ (.box e (killVs κ cs))) a (w.alloc (.cells us e)) := by
  have hfr : Fr (fun b => ∃ B0, gt κ s.hp = some B0 ∧ blkOf (m κ) = some b) w (w.alloc (.cells us e)) := Fr.alloc _ _ _
  have hblk : ∀ b, blkOf (.pointer (some (⟨w.heap.size, 0, none⟩ : Addr))) = some b → (∃ B0, gt κ s.hp = some B0 ∧ blkOf (m κ) = some b) ∨ w.heap.size ≤ b := fun b hb => by
    simp [blkOf] at hb; right; omega
  have hk := h.setB_kept true κ (.box e (killVs κ cs)) _ hfr hblk
  refine (h.setB true κ _ _ (.inl rfl) (.inl (h.nopin h16)) hfr hblk ?_).1
  simp only [RepB, upm_same]
  exact ⟨w.heap.size, us, rfl, heap_alloc_new w _, RepVs.kill (fun j hj => upm_ne _ _ hj) _ _ (RepVs.kept hk hfr.size _ _ hr), by simpa using h1⟩

/-- A row that is laid. -/
theorem SRep.newRow {c : Ctx} {m : Nat → Value} {s : St} {a : Act} {w w' : World} (h : SRep c m s a w) (κ : Nat) (h16 : 16 ≤ κ) (B : Blk) (u : Value) (hfr : Fr (fun _ => False) w w') (hu : ∀ b, blkOf u = some b → w.heap.size ≤ b)
    (hB : (∃ e k xs cc, B = .ints e k xs cc ∧ OwnRow w' e 1 u xs.length (xs.map (.int k)) ∧ CapIs cc u) ∨ (∃ e n xs cc vals, B = .row e n xs cc ∧ OwnRow w' e n u xs.length vals ∧ CapIs cc u ∧ RepRow w (Forb c m s.hp) (fun v => v.cells.size = n) xs vals)) :
    SRep c (upm m κ u) (s.setB true κ B) a w' := by
  have hfr' : Fr (fun b => ∃ B0, gt κ s.hp = some B0 ∧ blkOf (m κ) = some b) w w' := hfr.mono (fun _ _ h => h.elim)
  have hblk : ∀ b, blkOf u = some b → (∃ B0, gt κ s.hp = some B0 ∧ blkOf (m κ) = some b) ∨ w.heap.size ≤ b := fun b hb => .inr (hu b hb)
  have hk := h.setB_kept true κ B u hfr' hblk
  refine (h.setB true κ B u (.inl rfl) (.inl (h.nopin h16)) hfr' hblk ?_).1
  rcases hB with ⟨e, k, xs, cc, rfl, h1, h2⟩ | ⟨e, n, xs, cc, vals, rfl, h1, h2, h3⟩
  · simp only [RepB, upm_same]; exact ⟨h1, h2⟩
  · simp only [RepB, upm_same]; exact ⟨vals, h1, h2, RepRow.kept hk _ _ h3⟩

/-- Data: what can be laid into a row. -/
def AV.toD : AV → Option D
  | .d x => some x
  | .agg cs => match mkAgg cs with | .d x => some x | _ => none
  | _ => none
theorem toD_rep {w : World} {F : Nat → Prop} {m : Nat → Value} {v : AV} {u : Value} {x : D} (h : RepV w F m v u) (hx : v.toD = some x) : RepD w F x u := by
  cases v with
  | d y => simp only [AV.toD, Option.some.injEq] at hx; subst hx; simpa only [RepV] using h
  | agg cs =>
    simp only [AV.toD] at hx
    simp only [RepV] at h
    obtain ⟨us, rfl, hr, h1⟩ := h
    have := mkAgg_rep hr h1
    split at hx
    · rename_i y hy; cases hx; rw [hy] at this; simpa only [RepV] using this
    · cases hx
  | _ => simp [AV.toD] at hx

end Go.Proofs.Ytpdbekbobkjfgaa
