/-
  An abstract view of the machine, part 10: one step, whatever the operation (no call of a function).
  Conditions: none; nothing here speaks of one program.
-/
import Derived.Test.YtpdbekbobkjfgaaAM9
namespace Go.Proofs.Ytpdbekbobkjfgaa
open Go.RowKit
set_option linter.unusedVariables false

/-- What an operand reads as, as a slice of integers. -/
def St.intsA (s : St) (k : IntKind) : AV → Option (List Int)
  | .d (.ints k' xs _) => if k = k' then some xs else none
  | .d (.v (.slice none 0 0)) => some []
  | .own κ => match gt κ s.hp with
    | some (.ints _ k' xs _) => if k = k' then some xs else none
    | _ => none
  | _ => none
def St.rowA (s : St) (n : Nat) : AV → Option (List D)
  | .d (.sl n' xs _) => if n = n' then some xs else none
  | .d (.v (.slice none 0 0)) => some []
  | .own κ => match gt κ s.hp with
    | some (.row _ n' xs _) => if n = n' then some xs else none
    | _ => none
  | _ => none

theorem intsA_rep {c : Ctx} {m : Nat → Value} {s : St} {a : Act} {w : World} (h : SRep c m s a w) {v : AV} {u : Value} {k : IntKind} {xs : List Int} (hv : RepV w (Forb c m s.hp) m v u) (hx : s.intsA k v = some xs) :
    ∃ ad cap, u = .slice ad xs.length cap ∧ xs.length ≤ cap ∧ (xs.map (Value.int k) ≠ [] → ∃ b off, ad = some ⟨b, off, none⟩ ∧ ∀ (i : Nat) x, (xs.map (Value.int k))[i]? = some x → w.cell? ⟨b, off + i, none⟩ = some x) := by
  unfold St.intsA at hx
  split at hx
  · split at hx
    · rename_i k' ys cc hk
      subst hk
      cases hx
      simp only [RepV, RepD] at hv
      obtain ⟨ad, cap, h1, h2, h3, h4, _, h5⟩ := hv
      refine ⟨ad, cap, h1, h2, fun hne => ?_⟩
      obtain ⟨b, off, h6, _, h7⟩ := h5 (by simpa using hne)
      refine ⟨b, off, h6, fun i x hi => ?_⟩
      rw [List.getElem?_map] at hi
      obtain ⟨z, hz, rfl⟩ := Option.map_eq_some_iff.1 hi
      exact h7 i z hz
    · cases hx
  · cases hx
    rw [repV_v] at hv
    exact ⟨none, 0, by simpa using hv.1, Nat.le_refl _, by simp⟩
  · split at hx
    · rename_i hB
      split at hx
      · rename_i hk
        subst hk
        cases hx
        simp only [RepV] at hv
        obtain ⟨ad, cap, h1, h2, _, _, h5⟩ := (h.heap _ _ hB).1.cells
        refine ⟨ad, cap, hv.1.trans h1, h2, fun hne => ?_⟩
        obtain ⟨b, h6, _, _, h7⟩ := h5 hne
        exact ⟨b, 0, h6, h7⟩
      · cases hx
    · cases hx
  · cases hx

theorem rowA_rep {c : Ctx} {m : Nat → Value} {s : St} {a : Act} {w : World} (h : SRep c m s a w) {v : AV} {u : Value} {n : Nat} {xs : List D} (hv : RepV w (Forb c m s.hp) m v u) (hx : s.rowA n v = some xs) :
    ∃ ad cap vals, u = .slice ad xs.length cap ∧ xs.length ≤ cap ∧ RepRow w (Forb c m s.hp) (fun v => v.cells.size = n) xs vals ∧ (vals ≠ [] → ∃ b off, ad = some ⟨b, off, none⟩ ∧ ∀ (i : Nat) x, vals[i]? = some x → w.cell? ⟨b, off + i, none⟩ = some x) := by
  unfold St.rowA at hx
  split at hx
  · split at hx
    · rename_i n' ys cc hk
      subst hk
      cases hx
      simp only [RepV, RepD] at hv
      obtain ⟨ad, cap, vals, h1, h2, h3, h4, _, hr, h5⟩ := hv
      refine ⟨ad, cap, vals, h1, h2, hr, fun hne => ?_⟩
      obtain ⟨b, off, h6, _, h7⟩ := h5 hne
      exact ⟨b, off, h6, h7⟩
    · cases hx
  · cases hx
    rw [repV_v] at hv
    exact ⟨none, 0, [], by simpa using hv.1, Nat.le_refl _, by simp only [RepRow], by simp⟩
  · split at hx
    · rename_i hB
      split at hx
      · rename_i hk
        subst hk
        cases hx
        simp only [RepV] at hv
        obtain ⟨vals, hown, _, hr⟩ := h.heap _ _ hB
        obtain ⟨ad, cap, h1, h2, _, _, h5⟩ := hown.cells
        refine ⟨ad, cap, vals, hv.1.trans h1, h2, hr, fun hne => ?_⟩
        obtain ⟨b, h6, _, _, h7⟩ := h5 hne
        exact ⟨b, 0, h6, h7⟩
      · cases hx
    · cases hx
  · cases hx

theorem repD_cells_one {w : World} {F : Nat → Prop} {d : D} {v : Value} (h : RepD w F d v) : ∀ u ∈ v.cells.toList, u.oneCell' = true := by
  have h' : RepV w F (fun _ => undef) (.d d) v := by simpa only [RepV] using h
  cases d with
  | agg cs => exact (parts_rep h' rfl).2
  | v x => exact (parts_rep h' rfl).2
  | ints k xs c => exact (parts_rep h' rfl).2
  | sl n xs c => exact (parts_rep h' rfl).2
theorem RepRow_one {w : World} {F : Nat → Prop} {n : Nat} : ∀ {xs : List D} {vals : List Value}, RepRow w F (fun v => v.cells.size = n) xs vals → ∀ u ∈ vals, u.oneCell' = true
  | [], vals, h => by simp only [RepRow] at h; subst h; simp
  | d :: ds, vals, h => by
    simp only [RepRow] at h
    obtain ⟨v, rest, rfl, _, h2, h3⟩ := h
    intro u hu
    rcases List.mem_append.1 hu with hu | hu
    · exact repD_cells_one h2 u hu
    · exact RepRow_one h3 u hu
theorem RepRow_append {w : World} {F : Nat → Prop} {c : Value → Prop} : ∀ {xs ys : List D} {us vs : List Value}, RepRow w F c xs us → RepRow w F c ys vs → RepRow w F c (xs ++ ys) (us ++ vs)
  | [], ys, us, vs, h, h' => by simp only [RepRow] at h; subst h; simpa using h'
  | d :: ds, ys, us, vs, h, h' => by
    simp only [RepRow, List.cons_append] at h ⊢
    obtain ⟨v, rest, rfl, h1, h2, h3⟩ := h
    exact ⟨v, rest ++ vs, by simp, h1, h2, RepRow_append h3 h'⟩

/-! ### append -/
def capA (c : Option Nat) (n : Nat) : Option Nat := match c with | some cc => if n ≤ cc then some cc else none | none => none
/-- An own row, longer by what x reads as. -/
def growB (s : St) (bytes : Nat) (B : Blk) (x : AV) : Option Blk :=
  match B with
  | .ints e k xs c => match s.intsA k x with
    | some ys => if (xs.length + ys.length) * bytes ≤ 140737488355328 ∧ xs.length + ys.length ≤ maxLen then some (.ints e k (xs ++ ys) (capA c (xs.length + ys.length))) else none
    | none => none
  | .row e n xs c => match s.rowA n x with
    | some ys => if (xs.length + ys.length) * bytes ≤ 140737488355328 ∧ xs.length + ys.length ≤ maxLen then some (.row e n (xs ++ ys) (capA c (xs.length + ys.length))) else none
    | none => none
  | _ => none
def Blk.elem : Blk → TypeId
  | .box e _ => e
  | .ints e _ _ _ => e
  | .row e _ _ _ => e
def Blk.isRow (n : Nat) : Blk → Bool
  | .ints _ _ _ _ => n == 1
  | .row _ n' _ _ => n == n'
  | _ => false
/-- An empty row of a slice type. -/
def emptyB (P : Program) (t : TypeId) : Option Blk :=
  match appT P t with
  | some (e, n, _) => match intT P e with
    | some k => if n = 1 then some (.ints e k [] (some 0)) else none
    | none => some (.row e n [] (some 0))
  | none => none
def isEmptyA : AV → Bool
  | .d (.v (.slice none 0 0)) => true
  | .d (.ints _ [] (some 0)) => true
  | .d (.sl _ [] (some 0)) => true
  | _ => false

theorem capIs_grow {c : Option Nat} {v v' : Value} {l k : Nat} (hc : CapIs c v) (h : ∀ a0 l0 cap, v = .slice a0 l0 cap → l + k ≤ cap → ∃ a1, v' = .slice a1 (l + k) cap) : CapIs (capA c (l + k)) v' := by
  intro n hn
  unfold capA at hn
  split at hn
  · rename_i cc
    split at hn
    · rename_i hle
      cases hn
      obtain ⟨a, l', hv⟩ := hc n rfl
      obtain ⟨a1, h1⟩ := h a l' n hv hle
      exact ⟨a1, _, h1⟩
    · cases hn
  · cases hn

/-- 'append(s, x)' onto an own row. -/
theorem SRep.append {P : Program} {c : Ctx} {m : Nat → Value} {s : St} {a : Act} {w : World} (h : SRep c m s a w) {t ty e n by' κ : Nat} {B B' : Blk} {x : AV} {u : Value} (hT : appT P t = some (e, n, by')) (hB : gt κ s.hp = some B) (hrow : B.isRow n = true) (he : B.elem = e)
    (hg : growB s by' B x = some B') (hx : RepV w (Forb c m s.hp) m x u) :
    ∃ v' w', (Builtin.append_ #[t, t] ty #[m κ, u]).run P w = .ok v' w' ∧ SRep c (upm m κ v') (s.setB true κ B') a w' ∧ v'.oneCell' = true := by
  have hself := h.heap κ B hB
  have hpin : c.pin κ = none := by
    cases hp : c.pin κ with
    | none => rfl
    | some v =>
      exfalso
      obtain ⟨_, b, rfl⟩ := h.pinp κ v hp
      have e0 := h.pin κ _ hp
      cases B with
      | box e' cs => simp [Blk.isRow] at hrow
      | ints e' k xs cc =>
        obtain ⟨ad, cap, h1, _⟩ := hself.1.cells
        rw [h1] at e0; cases e0
      | row e' n' xs cc =>
        obtain ⟨vals, hown, _⟩ := hself
        obtain ⟨ad, cap, h1, _⟩ := hown.cells
        rw [h1] at e0; cases e0
  cases B with
  | box e' cs => simp [growB] at hg
  | ints e' k xs cc =>
    simp only [Blk.isRow, beq_iff_eq] at hrow
    subst hrow
    simp only [Blk.elem] at he
    subst he
    simp only [growB] at hg
    split at hg
    · rename_i ys hys
      split at hg
      · rename_i hb
        cases hg
        obtain ⟨ad, cap, hu, hle, hc⟩ := intsA_rep h hx hys
        obtain ⟨v', w', h1, h2, h3, h4, h5⟩ := run_appendA (P := P) (ty := ty) hT hself.1 (c := cap) (k := ys.length) (news := ys.map (.int k)) (by simp) hc (by intro z hz; obtain ⟨q, _, rfl⟩ := List.mem_map.1 hz; rfl) hb.2 hb.1
        refine ⟨v', w', by rw [hu]; exact h1, ?_, h2.oneCell⟩
        refine (h.setB true κ _ v' (.inl rfl) (.inl hpin) (h3.mono fun b _ hb => ⟨_, hB, hb⟩) (fun b hb => or_map (fun h => ⟨_, hB, h⟩) (h4 b hb)) ?_).1
        simp only [RepB, upm_same]
        exact ⟨by simpa using h2, by simpa using capIs_grow hself.2 h5⟩
      · cases hg
    · cases hg
  | row e' n' xs cc =>
    simp only [Blk.isRow, beq_iff_eq] at hrow
    subst hrow
    simp only [Blk.elem] at he
    subst he
    obtain ⟨vals, hown, hcap, hr⟩ := hself
    simp only [growB] at hg
    split at hg
    · rename_i ys hys
      split at hg
      · rename_i hb
        cases hg
        obtain ⟨ad, cap, news, hu, hle, hr2, hc⟩ := rowA_rep h hx hys
        obtain ⟨v', w', h1, h2, h3, h4, h5⟩ := run_appendA (P := P) (ty := ty) hT hown (c := cap) (k := ys.length) (news := news) (RepRow_get hr2).1 hc (RepRow_one hr2) hb.2 hb.1
        refine ⟨v', w', by rw [hu]; exact h1, ?_, h2.oneCell⟩
        have hfr := h3.mono (S' := fun b => ∃ B0, gt κ s.hp = some B0 ∧ blkOf (m κ) = some b) fun b _ hb => ⟨_, hB, hb⟩
        have hblk : ∀ b, blkOf v' = some b → (∃ B0, gt κ s.hp = some B0 ∧ blkOf (m κ) = some b) ∨ w.heap.size ≤ b := fun b hb => or_map (fun h => ⟨_, hB, h⟩) (h4 b hb)
        have hk := h.setB_kept true κ (.row e' n (xs ++ ys) (capA cc (xs.length + ys.length))) v' hfr hblk
        refine (h.setB true κ _ v' (.inl rfl) (.inl hpin) hfr hblk ?_).1
        simp only [RepB, upm_same]
        exact ⟨_, by simpa using h2, by simpa using capIs_grow hcap h5, RepRow_append (RepRow.kept hk _ _ hr) (RepRow.kept hk _ _ hr2)⟩
      · cases hg
    · cases hg

/-- 'append(s, x)', s data that is full: a new row. -/
def growD (s : St) (e n bytes : Nat) (x y : AV) : Option Blk :=
  match x with
  | .d (.ints k xs (some c)) => match s.intsA k y with
    | some ys => if n = 1 ∧ 0 < xs.length ∧ c < xs.length + ys.length ∧ (xs.length + ys.length) * bytes ≤ 140737488355328 ∧ xs.length + ys.length ≤ maxLen then some (.ints e k (xs ++ ys) none) else none
    | none => none
  | .d (.sl n' xs (some c)) => match s.rowA n y with
    | some ys => if n' = n ∧ 0 < xs.length ∧ c < xs.length + ys.length ∧ (xs.length + ys.length) * bytes ≤ 140737488355328 ∧ xs.length + ys.length ≤ maxLen then some (.row e n (xs ++ ys) none) else none
    | none => none
  | _ => none
theorem SRep.appendD {P : Program} {c : Ctx} {m : Nat → Value} {s : St} {a : Act} {w : World} (h : SRep c m s a w) {t ty e n by' κ : Nat} {B' : Blk} {x y : AV} {u v : Value} (hT : appT P t = some (e, n, by')) (h16 : 16 ≤ κ)
    (hg : growD s e n by' x y = some B') (hx : RepV w (Forb c m s.hp) m x u) (hy : RepV w (Forb c m s.hp) m y v) :
    ∃ v' w', (Builtin.append_ #[t, t] ty #[u, v]).run P w = .ok v' w' ∧ SRep c (upm m κ v') (s.setB true κ B') a w' ∧ v'.oneCell' = true := by
  have hpin : c.pin κ = none := h.nopin h16
  unfold growD at hg
  split at hg
  · rename_i k xs cc
    split at hg
    · rename_i ys hys
      split at hg
      · rename_i hb
        cases hg
        obtain ⟨rfl, hp0, hlt, hb1, hb2⟩ := hb
        simp only [RepV, RepD] at hx
        obtain ⟨a0, cap0, h1, h2, h3, h4, hcap, h5⟩ := hx
        have hcap := hcap cc rfl
        obtain ⟨ad, cap, hu, hle, hc⟩ := intsA_rep h hy hys
        obtain ⟨v', w', r1, r2, r3, r4⟩ := run_appendD (P := P) (ty := ty) hT (a0 := a0) (l := xs.length) (cap := cap0) (xs := xs.map (.int k)) (by simp) (fun hne => by
          obtain ⟨b, off, h6, _, h7⟩ := h5 (by simpa using hne)
          refine ⟨b, off, h6, fun i x hi => ?_⟩
          rw [List.getElem?_map] at hi
          obtain ⟨z, hz, rfl⟩ := Option.map_eq_some_iff.1 hi
          exact h7 i z hz) hp0 (a := ad) (c := cap) (k := ys.length) (news := ys.map (.int k)) (by simp) hc h2 (by omega) hb2 hb1
        refine ⟨v', w', by rw [hu, h1]; exact r1, ?_, r2.oneCell⟩
        refine (h.setB true κ _ v' (.inl rfl) (.inl hpin) (r3.mono fun b _ hb => hb.elim) (fun b hb => .inr (r4 b hb)) ?_).1
        simp only [RepB, upm_same]
        exact ⟨by simpa using r2, fun q hq => by cases hq⟩
      · cases hg
    · cases hg
  · rename_i n' xs cc
    split at hg
    · rename_i ys hys
      split at hg
      · rename_i hb
        cases hg
        obtain ⟨rfl, hp0, hlt, hb1, hb2⟩ := hb
        simp only [RepV, RepD] at hx
        obtain ⟨a0, cap0, vals, h1, h2, h3, h4, hcap, hr, h5⟩ := hx
        have hcap := hcap cc rfl
        obtain ⟨ad, cap, news, hu, hle, hr2, hc⟩ := rowA_rep h hy hys
        obtain ⟨v', w', r1, r2, r3, r4⟩ := run_appendD (P := P) (ty := ty) hT (a0 := a0) (l := xs.length) (cap := cap0) (xs := vals) (RepRow_get hr).1 (fun hne => by
          obtain ⟨b, off, h6, _, h7⟩ := h5 hne
          exact ⟨b, off, h6, h7⟩) hp0 (a := ad) (c := cap) (k := ys.length) (news := news) (RepRow_get hr2).1 hc h2 (by omega) hb2 hb1
        refine ⟨v', w', by rw [hu, h1]; exact r1, ?_, r2.oneCell⟩
        have hfr := r3.mono (S' := fun b => ∃ B0, gt κ s.hp = some B0 ∧ blkOf (m κ) = some b) fun b _ hb => hb.elim
        have hblk : ∀ b, blkOf v' = some b → (∃ B0, gt κ s.hp = some B0 ∧ blkOf (m κ) = some b) ∨ w.heap.size ≤ b := fun b hb => .inr (r4 b hb)
        have hk := h.setB_kept true κ (.row e n' (xs ++ ys) none) v' hfr hblk
        refine (h.setB true κ _ v' (.inl rfl) (.inl hpin) hfr hblk ?_).1
        simp only [RepB, upm_same]
        exact ⟨_, by simpa using r2, (fun q hq => by cases hq), RepRow_append (RepRow.kept hk _ _ hr) (RepRow.kept hk _ _ hr2)⟩
      · cases hg
    · cases hg
  · cases hg

theorem emptyB_parts {P : Program} {t : TypeId} {B : Blk} (h : emptyB P t = some B) : ∃ e n by', appT P t = some (e, n, by') ∧ B.isRow n = true ∧ B.elem = e ∧ ((∃ e k, B = .ints e k [] (some 0)) ∨ (∃ e n, B = .row e n [] (some 0))) := by
  unfold emptyB at h
  split at h
  · rename_i e n by' hT
    refine ⟨e, n, by', hT, ?_⟩
    split at h
    · rename_i k hk
      split at h
      · rename_i hn
        cases h; subst hn
        exact ⟨rfl, rfl, .inl ⟨e, k, rfl⟩⟩
      · cases h
    · cases h
      exact ⟨by simp [Blk.isRow], rfl, .inr ⟨e, n, rfl⟩⟩
  · cases h

theorem isEmptyA_val {w : World} {F : Nat → Prop} {m : Nat → Value} {x : AV} {u : Value} (h : RepV w F m x u) (hx : isEmptyA x = true) : ∃ ad, u = .slice ad 0 0 := by
  unfold isEmptyA at hx
  split at hx
  · rw [repV_v] at h; exact ⟨none, h.1⟩
  · simp only [RepV, RepD] at h
    obtain ⟨ad, cap, h1, _, _, _, h5, _⟩ := h
    have := h5 0 rfl; subst this
    exact ⟨ad, by simpa using h1⟩
  · simp only [RepV, RepD] at h
    obtain ⟨ad, cap, vals, h1, _, _, _, h5, _⟩ := h
    have := h5 0 rfl; subst this
    exact ⟨ad, by simpa using h1⟩
  · cases hx

/-! ### Blocks that are laid whole -/
def toDs : List AV → Option (List D)
  | [] => some []
  | v :: l => match v.toD, toDs l with
    | some x, some r => some (x :: r)
    | _, _ => none
def idxOk : Nat → List (Nat × AV) → Bool
  | _, [] => true
  | i, (j, _) :: l => i == j && idxOk (i + 1) l
/-- The row that a composite literal lays. -/
def litB (P : Program) (t : TypeId) (n : Nat) (ps : List (Nat × AV)) : Option Blk :=
  match appT P t, elemT P t with
  | some (e, sz, _), some (_, _, g) => if ps.length = n ∧ idxOk 0 ps ∧ n * sz ≤ 16777216 ∧ n ≤ maxLen then
      match toDs (ps.map (·.2)) with
      | some ds => match intT P e with
        | some k => if sz = 1 then omap (intsOf k ds) fun xs => .ints e k xs (some n) else none
        | none => if ds.all (fun d => d.size == sz) then some (.row e sz ds (some n)) else none
      | none => none
    else none
  | _, _ => none

theorem fill_one {size : Nat} {zs : Array Value} {i : Nat} {u : Value} {rest : List (Nat × Value)} (hs : u.cells.size = size) (hb : i * size + size ≤ zs.size) :
    ∃ zs' : Array Value, zs'.toList = zs.toList.take (i * size) ++ u.cells.toList ++ zs.toList.drop (i * size + size) ∧ Instr.fill (fun i => some (i * size, size)) zs ((i, u) :: rest) = Instr.fill (fun i => some (i * size, size)) zs' rest := by
  refine ⟨u.cells.zipIdx.foldl (fun cs (c, j) => cs.setIfInBounds (i * size + j) c) zs, ?_, ?_⟩
  · have e : u.cells.zipIdx.foldl (fun cs (c, j) => cs.setIfInBounds (i * size + j) c) zs = (u.cells.toList.zipIdx 0).foldl (fun (cs : Array Value) (p : Value × Nat) => cs.setIfInBounds (i * size + p.2) p.1) zs := by
      rw [← Array.foldl_toList, Array.toList_zipIdx]
    rw [e, fold_set u.cells.toList 0 (i * size) zs (by simp; omega)]
    simp [hs]
  · rw [Instr.fill]
    have hb' : (u.cells.size ≠ size || decide (i * size + u.cells.size > zs.size)) = false := by
      simp; omega
    simp only [hb']
    rfl

theorem fill_seq {size : Nat} : ∀ (us : List Value) (i0 : Nat) (zs : Array Value), zs.size = (i0 + us.length) * size → (∀ u ∈ us, u.cells.size = size) →
    ∃ zs' : Array Value, Instr.fill (fun i => some (i * size, size)) zs ((us.zipIdx i0).map fun p => (p.2, p.1)) = some zs' ∧ zs'.toList = zs.toList.take (i0 * size) ++ us.flatMap (fun u => u.cells.toList)
  | [], i0, zs, hz, _ => by
    refine ⟨zs, rfl, ?_⟩
    simp only [List.flatMap_nil, List.append_nil]
    rw [List.take_of_length_le (by simp only [Array.length_toList, hz, List.length_nil, Nat.add_zero]; exact Nat.le_refl _)]
  | u :: us, i0, zs, hz, h1 => by
    have hs := h1 u (by simp)
    have hle : i0 * size + size ≤ zs.size := by
      rw [hz, List.length_cons]
      have : (i0 + 1) * size ≤ (i0 + (us.length + 1)) * size := Nat.mul_le_mul_right _ (by omega)
      rw [Nat.add_mul] at this; omega
    obtain ⟨z1, e1, e2⟩ := fill_one (rest := (us.zipIdx (i0 + 1)).map fun p => (p.2, p.1)) hs hle
    rw [List.zipIdx_cons, List.map_cons, e2]
    have hl : z1.toList.length = zs.size := by
      rw [e1]
      simp only [List.length_append, List.length_take, List.length_drop, Array.length_toList, hs]
      omega
    have hl' : z1.size = zs.size := by simpa using hl
    obtain ⟨z2, e3, e4⟩ := fill_seq us (i0 + 1) z1 (by rw [hl', hz, List.length_cons]; congr 1; omega) (fun v hv => h1 v (by simp [hv]))
    refine ⟨z2, e3, ?_⟩
    rw [e4, e1, List.flatMap_cons]
    have e5 : ((i0 + 1) * size) = (zs.toList.take (i0 * size) ++ u.cells.toList).length := by
      simp only [List.length_append, List.length_take, Array.length_toList, hs]
      rw [Nat.add_mul, Nat.one_mul]; omega
    rw [e5, List.take_left]
    simp

theorem toDs_row {w : World} {F : Nat → Prop} {m : Nat → Value} {n : Nat} : ∀ {vs : List AV} {us : List Value} {ds : List D}, toDs vs = some ds → RepVs w F m vs us → (∀ d ∈ ds, d.size = n) → RepRow w F (fun v => v.cells.size = n) ds (us.flatMap fun u => u.cells.toList) ∧ (∀ u ∈ us, u.cells.size = n) ∧ ds.length = us.length
  | [], us, ds, h, hr, _ => by
    simp only [toDs, Option.some.injEq] at h; subst h
    simp only [RepVs] at hr; subst hr
    simp [RepRow]
  | v :: vs, us, ds, h, hr, hn => by
    simp only [toDs] at h
    split at h
    · rename_i x r hx hxr
      cases h
      simp only [RepVs] at hr
      obtain ⟨u, rest, rfl, h1, h2⟩ := hr
      have hd := toD_rep h1 hx
      obtain ⟨i1, i2, i3⟩ := toDs_row hxr h2 (fun d hd => hn d (by simp [hd]))
      have hsz : u.cells.size = n := by
        rw [← hn x (by simp)]
        cases hxa : x.isAgg with
        | true =>
          obtain ⟨us', rfl, hl⟩ := repD_agg hd hxa
          simpa [Value.cells] using hl
        | false =>
          rw [cells_one (repD_notAgg hd hxa)]
          cases x <;> first | rfl | simp [D.isAgg] at hxa
      refine ⟨?_, ?_, by simp [i3]⟩
      · simp only [RepRow, List.flatMap_cons]
        exact ⟨u, _, rfl, hsz, hd, i1⟩
      · intro z hz
        rcases List.mem_cons.1 hz with rfl | hz
        · exact hsz
        · exact i2 z hz
    · cases h

theorem intsOf_vals {w : World} {F : Nat → Prop} {k : IntKind} : ∀ {ds : List D} {xs : List Int} {vals : List Value}, intsOf k ds = some xs → RepRow w F (fun v => v.cells.size = 1) ds vals → vals = xs.map (.int k) ∧ xs.length = ds.length
  | [], xs, vals, h, hr => by
    simp only [intsOf, Option.some.injEq] at h; subst h
    simp only [RepRow] at hr; subst hr; simp
  | d :: ds, xs, vals, h, hr => by
    unfold intsOf at h
    split at h
    · rename_i heq; cases heq
    · rename_i k' x l heq
      cases heq
      split at h
      · rename_i hk
        subst hk
        obtain ⟨r, hr1, rfl⟩ := Option.map_eq_some_iff.1 h
        simp only [RepRow, RepD] at hr
        obtain ⟨v, rest, rfl, _, ⟨rfl, _⟩, h3⟩ := hr
        obtain ⟨e1, e2⟩ := intsOf_vals hr1 h3
        subst e1
        exact ⟨by simp [Value.cells], by simp [e2]⟩
      · cases h
    · cases h

theorem intsOf_size {k : IntKind} : ∀ {ds : List D} {xs : List Int}, intsOf k ds = some xs → ∀ d ∈ ds, d.size = 1
  | [], xs, _ => by simp
  | d :: ds, xs, h => by
    unfold intsOf at h
    split at h
    · rename_i heq; cases heq
    · rename_i k' x l heq
      cases heq
      split at h
      · obtain ⟨r, hr1, rfl⟩ := Option.map_eq_some_iff.1 h
        intro d hd
        rcases List.mem_cons.1 hd with rfl | hd
        · rfl
        · exact intsOf_size hr1 d hd
      · cases h
    · cases h

theorem idx_zip {ps : List (Nat × AV)} : ∀ {i : Nat} {us : List (Nat × Value)}, idxOk i ps = true → ps.length = us.length → (∀ (j : Nat) i v, ps[j]? = some (i, v) → ∃ u, us[j]? = some (i, u)) → us = ((us.map (·.2)).zipIdx i).map fun p => (p.2, p.1) := by
  induction ps with
  | nil =>
    intro i us _ hl _
    have : us = [] := List.eq_nil_of_length_eq_zero hl.symm
    subst this; rfl
  | cons p ps ih =>
    intro i us hi hl h
    obtain ⟨j, v⟩ := p
    simp only [idxOk, Bool.and_eq_true, beq_iff_eq] at hi
    obtain ⟨rfl, hi⟩ := hi
    cases us with
    | nil => simp at hl
    | cons q us =>
      obtain ⟨u, hu⟩ := h 0 i v rfl
      simp at hu; subst hu
      rw [List.map_cons, List.zipIdx_cons, List.map_cons]
      congr 1
      exact ih hi (by simpa using hl) (fun j i' v' hj => by
        obtain ⟨u', hu'⟩ := h (j + 1) i' v' (by simpa using hj)
        exact ⟨u', by simpa using hu'⟩)

theorem SRep.litB {P : Program} {c : Ctx} {m : Nat → Value} {s : St} {a : Act} {w : World} (h : SRep c m s a w) {t n κ : Nat} (h16 : 16 ≤ κ) {l : List (Nat × Operand)} {ps : List (Nat × AV)} {B : Blk} (hp : s.evP l = some ps) (hB : litB P t n ps = some B) :
    ∃ v w', (Instr.buildSlice t n (l.map fun p => (p.1, a.eval p.2)).toArray).run P w = .ok v w' ∧ SRep c (upm m κ v) (s.setB true κ B) a w' ∧ v.oneCell' = true := by
  obtain ⟨e1, e2⟩ := evP_rep h hp
  unfold Go.Proofs.Ytpdbekbobkjfgaa.litB at hB
  split at hB
  · rename_i e sz by' e' n' g hT hE
    obtain ⟨i, z, hu, hi, hz, hzs, hs, hby, hn0⟩ := appT_parts hT
    obtain ⟨hu', hsz, hg, _⟩ := elemT_parts hE
    rw [hu] at hu'; simp at hu'; subst hu'
    have hnn : sz = n' := by unfold szT at hsz; rw [hi] at hsz; simp at hsz; omega
    subst hnn
    split at hB
    · rename_i hcond
      obtain ⟨hlen, hidx, hbig, hmax⟩ := hcond
      split at hB
      · rename_i ds hds
        have hz' := idx_zip hidx e1 (fun j i v hj => by obtain ⟨u, hu, _⟩ := e2 j i v hj; exact ⟨u, hu⟩)
        have hrep : RepVs w (Forb c m s.hp) m (ps.map (·.2)) (l.map fun p => a.eval p.2) := by
          rw [RepVs_iff]
          refine ⟨by simpa using e1, fun j v hj => ?_⟩
          rw [List.getElem?_map] at hj
          obtain ⟨⟨i', v'⟩, h1, rfl⟩ := Option.map_eq_some_iff.1 hj
          obtain ⟨u, h2, h3⟩ := e2 j i' v' h1
          rw [List.getElem?_map] at h2
          obtain ⟨q, h4, h5⟩ := Option.map_eq_some_iff.1 h2
          refine ⟨u, ?_, h3⟩
          rw [List.getElem?_map, h4]
          simp only [Option.map_some, Option.some.injEq]
          simp only [Prod.mk.injEq] at h5
          exact h5.2
        have hvals : ((l.map fun p => (p.1, a.eval p.2)).map (·.2)) = l.map fun p => a.eval p.2 := by simp
        rw [hvals] at hz'
        have hll : (l.map fun p => a.eval p.2).length = n := by rw [← hlen]; simpa using e1.symm
        have run : ∀ (hsize : ∀ d ∈ ds, d.size = sz), ∃ cells : Array Value, cells.toList = (l.map fun p => a.eval p.2).flatMap (fun u => u.cells.toList) ∧ (Instr.buildSlice t n (l.map fun p => (p.1, a.eval p.2)).toArray).run P w = .ok (.slice (some ⟨w.heap.size, 0, none⟩) n n) (w.alloc (.cells cells e)) := by
          intro hsize
          obtain ⟨r1, r2, r3⟩ := toDs_row hds hrep hsize
          obtain ⟨zs', f1, f2⟩ := fill_seq (size := sz) (l.map fun p => a.eval p.2) 0 ((Array.range (n * sz)).map (fun j => z.cells[j % z.cells.size]!)) (by simp [← hll]) r2
          rw [← hz'] at f1
          refine ⟨zs', by simpa using f2, ?_⟩
          have hnz : n * sz = 0 → n = 0 := fun h0 => by
            rcases Nat.mul_eq_zero.1 h0 with h0 | h0
            · exact h0
            · omega
          unfold Instr.buildSlice
          simp only [Sem.run_bind, run_underlying hu, Result.andThen_ok, run_sizeOf' hsz]
          have hnb : ¬ (n * sz > 2 ^ 24) := by omega
          rw [if_neg hnb]
          by_cases h0 : n * sz = 0
          · have hn' := hnz h0
            subst hn'
            have hl0 : l = [] := by simpa using hll
            subst hl0
            have hz0 : zs' = #[] := by apply Array.ext'; simpa using f2
            subst hz0
            have hr0 : Array.range 0 = #[] := rfl
            simp [Instr.fill, Go.newRow, newObj, Sem.run, hr0]
          · rw [if_neg h0]
            simp only [Sem.run_bind]
            have hzv : (zeroValue e).run P w = .ok z w := by simp [zeroValue, typeInfo, hi, hz]
            simp only [hzv, Result.andThen_ok, Sem.run_pure]
            rw [f1]
            simp [Go.newRow, newObj, Sem.run]
        split at hB
        · rename_i k hk
          split at hB
          · rename_i hs1
            subst hs1
            obtain ⟨xs, hxs, rfl⟩ := Option.map_eq_some_iff.1 hB
            obtain ⟨cells, c1, c2⟩ := run (intsOf_size hxs)
            obtain ⟨r1, r2, r3⟩ := toDs_row hds hrep (intsOf_size hxs)
            obtain ⟨v1, v2⟩ := intsOf_vals hxs r1
            refine ⟨_, _, c2, ?_, rfl⟩
            have hxl : xs.length = n := by rw [v2, r3, hll]
            refine h.newRow κ h16 _ _ (Fr.alloc _ _ _) (fun b hb => by simp only [blkOf] at hb; split at hb <;> simp at hb; omega) (.inl ⟨e, k, xs, some n, rfl, ⟨by simp, ?_⟩, fun q hq => by cases hq; exact ⟨_, _, rfl⟩⟩)
            rcases Nat.eq_zero_or_pos n with h0 | h0
            · left; rw [hxl, h0]; exact ⟨rfl, _, rfl⟩
            · right
              refine ⟨w.heap.size, n, cells, by rw [hxl], h0, heap_alloc_new w _, by omega, hmax, ?_, ?_⟩
              · have : cells.toList.length = n * 1 := by rw [c1, v1]; simp [hxl]
                simpa using this
              · rw [c1, v1, List.take_of_length_le (by simp)]
          · cases hB
        · split at hB
          · rename_i hall
            cases hB
            have hsize : ∀ d ∈ ds, d.size = sz := fun d hd => by simpa using List.all_eq_true.1 hall d hd
            obtain ⟨cells, c1, c2⟩ := run hsize
            obtain ⟨r1, r2, r3⟩ := toDs_row hds hrep hsize
            refine ⟨_, _, c2, ?_, rfl⟩
            have hxl : ds.length = n := by rw [r3, hll]
            have hrl := (RepRow_get r1).1
            refine h.newRow κ h16 _ _ (Fr.alloc _ _ _) (fun b hb => by simp only [blkOf] at hb; split at hb <;> simp at hb; omega) (.inr ⟨e, sz, ds, some n, _, rfl, ⟨hrl, ?_⟩, fun q hq => by cases hq; exact ⟨_, _, rfl⟩, r1⟩)
            rcases Nat.eq_zero_or_pos n with h0 | h0
            · left; rw [hxl, h0]; exact ⟨rfl, _, rfl⟩
            · right
              refine ⟨w.heap.size, n, cells, by rw [hxl], h0, heap_alloc_new w _, by omega, hmax, ?_, ?_⟩
              · have : cells.toList.length = n * sz := by rw [c1, hrl, hxl]
                simpa using this
              · rw [c1, List.take_of_length_le (by rw [hrl]; exact Nat.le_refl _)]
          · cases hB
      · cases hB
    · cases hB
  · cases hB

end Go.Proofs.Ytpdbekbobkjfgaa
