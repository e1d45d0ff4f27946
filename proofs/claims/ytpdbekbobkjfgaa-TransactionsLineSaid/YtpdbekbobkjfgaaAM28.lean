/-
  An abstract view of the machine, part 28: new rows that a call hands back, as data; blocks that a call leaves as they were.
  Conditions: none; nothing here speaks of one program.
-/
import Derived.Test.YtpdbekbobkjfgaaAM18
namespace Go.Proofs.Ytpdbekbobkjfgaa
open Go.RowKit
set_option linter.unusedVariables false

theorem forb_gt {c : Ctx} {m : Nat → Value} {hp hp' : List (Nat × Blk)} (h : ∀ j, gt j hp = gt j hp') : Forb c m hp = Forb c m hp' := by
  funext b
  simp only [Forb, Owned, h]
theorem gt_datLast {BS : List Blk} {B : Blk} {d : D} (j : Nat) : gt j (mapv (datB BS.length d) (del BS.length (hpFrom 0 (BS ++ [B])))) = gt j (hpFrom 0 (BS.map (datB BS.length d))) := by
  rw [gt_mapv, gt_del]
  apply Option.ext
  intro x
  rw [gt_hp0]
  by_cases hj : j = BS.length
  · subst hj; simp
  · rw [if_neg hj, Option.map_eq_some_iff]
    constructor
    · rintro ⟨B0, h1, rfl⟩
      rw [gt_hp0] at h1
      have hlt : j < BS.length := by
        have := (List.getElem?_eq_some_iff.1 h1).1
        simp at this; omega
      rw [List.getElem?_append_left hlt] at h1
      rw [List.getElem?_map, h1]; rfl
    · intro h
      rw [List.getElem?_map] at h
      obtain ⟨B0, h1, h2⟩ := Option.map_eq_some_iff.1 h
      refine ⟨B0, ?_, h2⟩
      rw [gt_hp0, List.getElem?_append_left (List.getElem?_eq_some_iff.1 h1).1]; exact h1

theorem acall_datLast1 {P : Program} {f : FuncId} {us : List AV} {hs BS : List Blk} {R : AV} {B : Blk} {d : D} (h : ACall P f us hs fun r hs' => r = R ∧ hs' = BS ++ [B]) (hn : hs.length ≤ BS.length) (hd : B.data = some d) :
    ACall P f us hs fun r hs' => r = datV BS.length d R ∧ hs' = BS.map (datB BS.length d) := by
  intro cx m vs w h1 h2 h3
  refine (h cx m vs w h1 h2 h3).mono ?_
  rintro e w' ⟨u, m', r, hs', rfl, ⟨rfl, rfl⟩, hl, h4, h5⟩
  have hS : SRep cx m' ⟨1, [(0, r)], hpFrom 0 (BS ++ [B])⟩ ⟨#[u], []⟩ w' := by
    refine ⟨rfl, rfl, fun t v ht => ?_, h4.heap, h4.sep, h4.nox, h4.old, h4.fr, h4.xlt, h4.pin, h4.pinp⟩
    simp only [gt] at ht
    split at ht
    · rename_i e; subst e; cases ht; exact h5
    · cases ht
  have hB : gt BS.length (hpFrom 0 (BS ++ [B])) = some B := by rw [gt_hp0]; simp
  have hf := hS.freeze (κ := BS.length) hB hd
  have hgt := gt_datLast (BS := BS) (B := B) (d := d)
  have hF : Forb cx m' (mapv (datB BS.length d) (del BS.length (hpFrom 0 (BS ++ [B])))) = Forb cx m' (hpFrom 0 (BS.map (datB BS.length d))) := forb_gt hgt
  refine ⟨u, m', _, _, rfl, ⟨rfl, rfl⟩, by simpa using hn, ?_, ?_⟩
  · refine ⟨rfl, rfl, by simp [St.bare, gt], ?_, ?_, ?_, ?_, hf.fr, hf.xlt, hf.pin, hf.pinp⟩
    · intro κ B' hB'
      have := hf.heap κ B' (by rw [← hB']; exact hgt κ)
      simp only [St.freeze] at this
      rw [hF] at this
      exact this
    · intro κ κ' B1 B2 b e1 e2
      exact hf.sep κ κ' B1 B2 b ((hgt κ).trans e1) ((hgt κ').trans e2)
    · intro κ B1 b e1
      exact hf.nox κ B1 b ((hgt κ).trans e1)
    · intro κ B1 b e1
      exact hf.old κ B1 b ((hgt κ).trans e1)
  · have := hf.slot 0 (datV BS.length d r) (by simp [St.freeze, mapv, gt])
    simp only [St.freeze] at this
    rw [hF] at this
    simpa using this

/-- The last k blocks, as data. -/
def datLast : Nat → AV → List Blk → Option (AV × List Blk)
  | 0, R, BS => some (R, BS)
  | k + 1, R, BS => match BS.getLast? with
    | some B => match B.data with
      | some d => datLast k (datV (BS.length - 1) d R) (BS.dropLast.map (datB (BS.length - 1) d))
      | none => none
    | none => none
theorem acall_datLast {P : Program} {f : FuncId} {us : List AV} {hs : List Blk} : ∀ {k : Nat} {R R' : AV} {BS BS' : List Blk}, (ACall P f us hs fun r hs' => r = R ∧ hs' = BS) → hs.length + k ≤ BS.length → datLast k R BS = some (R', BS') →
    ACall P f us hs fun r hs' => r = R' ∧ hs' = BS'
  | 0, R, R', BS, BS', h, _, hd => by
    simp only [datLast, Option.some.injEq, Prod.mk.injEq] at hd
    obtain ⟨rfl, rfl⟩ := hd
    exact h
  | k + 1, R, R', BS, BS', h, hn, hd => by
    simp only [datLast] at hd
    split at hd
    · rename_i B hB
      split at hd
      · rename_i d hdB
        have hne : BS ≠ [] := by rintro rfl; simp at hB
        have hspl : BS = BS.dropLast ++ [B] := by
          have h1 := List.dropLast_concat_getLast hne
          rw [List.getLast?_eq_some_getLast hne] at hB
          cases hB
          exact h1.symm
        have hlen : BS.dropLast.length = BS.length - 1 := List.length_dropLast
        rw [← hlen] at hd
        rw [hspl] at h
        refine acall_datLast (acall_datLast1 h (by omega) hdB) (by rw [List.length_map]; omega) hd
      · cases hd
    · cases hd

/-! ### The same again -/
open Classical in
noncomputable def eqAny {α : Type} (x y : α) : Bool := decide (x = y)
noncomputable def eqVal : Value → Value → Bool
  | .bool a, .bool b => a == b
  | .int k a, .int k' b => decide (k = k') && decide (a = b)
  | .slice none 0 0, .slice none 0 0 => true
  | .pointer none, .pointer none => true
  | .nilFunc, .nilFunc => true
  | .nilIface, .nilIface => true
  | x, y => eqAny x y
theorem eqVal_get {x y : Value} (h : eqVal x y = true) : x = y := by
  unfold eqVal at h
  split at h <;> first | (simp only [Bool.and_eq_true, decide_eq_true_eq] at h; rw [h.1, h.2]) | rfl | (simp only [beq_iff_eq] at h; rw [h]) | (simp only [eqAny, decide_eq_true_eq] at h; exact h)
theorem eqVal_self (x : Value) : eqVal x x = true := by
  unfold eqVal
  split <;> simp_all [eqAny]
mutual
noncomputable def eqD : D → D → Bool
  | .v x, .v y => eqVal x y
  | .ints k xs c, .ints k' ys c' => decide (k = k') && (decide (xs = ys) && decide (c = c'))
  | .sl n xs c, .sl n' ys c' => decide (n = n') && (eqAny xs ys && decide (c = c'))
  | .agg cs, .agg ds => eqDs cs ds
  | _, _ => false
termination_by structural x => x
noncomputable def eqDs : List D → List D → Bool
  | [], [] => true
  | x :: xs, y :: ys => eqD x y && eqDs xs ys
  | _, _ => false
termination_by structural x => x
end
mutual
theorem eqD_get : ∀ (x y : D), eqD x y = true → x = y
  | .v x, y, h => by cases y <;> simp only [eqD] at h <;> first | (rw [eqVal_get h]) | cases h
  | .ints k xs c, y, h => by
    cases y <;> simp only [eqD] at h <;> first | (simp only [Bool.and_eq_true, decide_eq_true_eq] at h; rw [h.1, h.2.1, h.2.2]) | cases h
  | .sl n xs c, y, h => by
    cases y <;> simp only [eqD] at h <;> first | (simp only [Bool.and_eq_true, decide_eq_true_eq, eqAny] at h; rw [h.1, h.2.1, h.2.2]) | cases h
  | .agg cs, y, h => by
    cases y <;> simp only [eqD] at h <;> first | (rw [eqDs_get cs _ h]) | cases h
theorem eqDs_get : ∀ (x y : List D), eqDs x y = true → x = y
  | [], y, h => by cases y <;> simp only [eqDs] at h <;> first | rfl | cases h
  | x :: xs, y, h => by
    cases y with
    | nil => simp only [eqDs] at h; cases h
    | cons y ys =>
      simp only [eqDs, Bool.and_eq_true] at h
      rw [eqD_get x y h.1, eqDs_get xs ys h.2]
end
mutual
noncomputable def eqV : AV → AV → Bool
  | .d x, .d y => eqD x y
  | .ptr κ o, .ptr κ' o' => decide (κ = κ') && decide (o = o')
  | .own κ, .own κ' => decide (κ = κ')
  | .pel κ o, .pel κ' o' => decide (κ = κ') && decide (o = o')
  | .eaddr x, .eaddr y => eqD x y
  | .agg cs, .agg ds => eqVs cs ds
  | .tup cs, .tup ds => eqVs cs ds
  | .clos f cs, .clos g ds => decide (f = g) && eqVs cs ds
  | .wrap k v, .wrap k' u => eqAny k k' && eqV v u
  | .bot, .bot => true
  | _, _ => false
termination_by structural x => x
noncomputable def eqVs : List AV → List AV → Bool
  | [], [] => true
  | x :: xs, y :: ys => eqV x y && eqVs xs ys
  | _, _ => false
termination_by structural x => x
end
mutual
theorem eqV_get : ∀ (x y : AV), eqV x y = true → x = y
  | .d x, y, h => by cases y <;> simp only [eqV] at h <;> first | (rw [eqD_get _ _ h]) | cases h
  | .ptr κ o, y, h => by cases y <;> simp only [eqV] at h <;> first | (simp only [Bool.and_eq_true, decide_eq_true_eq] at h; rw [h.1, h.2]) | cases h
  | .own κ, y, h => by cases y <;> simp only [eqV] at h <;> first | (simp only [decide_eq_true_eq] at h; rw [h]) | cases h
  | .pel κ o, y, h => by cases y <;> simp only [eqV] at h <;> first | (simp only [Bool.and_eq_true, decide_eq_true_eq] at h; rw [h.1, h.2]) | cases h
  | .eaddr x, y, h => by cases y <;> simp only [eqV] at h <;> first | (rw [eqD_get _ _ h]) | cases h
  | .agg cs, y, h => by cases y <;> simp only [eqV] at h <;> first | (rw [eqVs_get _ _ h]) | cases h
  | .tup cs, y, h => by cases y <;> simp only [eqV] at h <;> first | (rw [eqVs_get _ _ h]) | cases h
  | .clos f cs, y, h => by cases y <;> simp only [eqV] at h <;> first | (simp only [Bool.and_eq_true, decide_eq_true_eq] at h; rw [h.1, eqVs_get _ _ h.2]) | cases h
  | .wrap k v, y, h => by cases y <;> simp only [eqV] at h <;> first | (simp only [Bool.and_eq_true, decide_eq_true_eq, eqAny] at h; rw [h.1, eqV_get _ _ h.2]) | cases h
  | .bot, y, h => by cases y <;> simp only [eqV] at h <;> first | rfl | cases h
theorem eqVs_get : ∀ (x y : List AV), eqVs x y = true → x = y
  | [], y, h => by cases y <;> simp only [eqVs] at h <;> first | rfl | cases h
  | x :: xs, y, h => by
    cases y with
    | nil => simp only [eqVs] at h; cases h
    | cons y ys =>
      simp only [eqVs, Bool.and_eq_true] at h
      rw [eqV_get x y h.1, eqVs_get xs ys h.2]
end
noncomputable def eqB : Blk → Blk → Bool
  | .box e cs, .box e' ds => decide (e = e') && eqVs cs ds
  | _, _ => false
theorem eqB_get {x y : Blk} (h : eqB x y = true) : x = y := by
  cases x <;> cases y <;> simp only [eqB] at h <;> first | (simp only [Bool.and_eq_true, decide_eq_true_eq] at h; rw [h.1, eqVs_get _ _ h.2]) | cases h
noncomputable def sameB : Option Blk → Blk → Bool
  | some B0, B => eqB B B0
  | none, _ => false
/-- The blocks ks lie as they lay, when BS has come back in their place. -/
noncomputable def sameK (s : St) (ks : List Nat) (f : Nat → Option Nat) : List Nat → List Blk → Bool
  | [], [] => true
  | k :: l, B :: bs => sameB (gt k s.hp) (renB f B) && sameK s ks f l bs
  | _, _ => false
theorem sameK_get {s : St} {ks : List Nat} {f : Nat → Option Nat} : ∀ {l : List Nat} {bs : List Blk}, sameK s ks f l bs = true → bs.length = l.length ∧ ∀ (j κ : Nat) (B : Blk), l[j]? = some κ → bs[j]? = some B → ∃ e cs, gt κ s.hp = some (.box e cs) ∧ renB f B = .box e cs
  | [], [], _ => ⟨rfl, by simp⟩
  | [], _ :: _, h => by simp [sameK] at h
  | _ :: _, [], h => by simp [sameK] at h
  | k :: l, B :: bs, h => by
    simp only [sameK, Bool.and_eq_true] at h
    obtain ⟨h1, h2⟩ := h
    obtain ⟨h3, h4⟩ := sameK_get h2
    refine ⟨by simp [h3], fun j κ B' hj hb => ?_⟩
    cases j with
    | zero =>
      simp at hj hb
      subst hj hb
      unfold sameB at h1
      split at h1
      · rename_i B0 hB0
        have e := eqB_get h1
        cases B0 with
        | box e' cs => exact ⟨e', cs, hB0, e⟩
        | ints e' k' xs c => unfold eqB at h1; split at h1 <;> first | (rename_i heq; cases heq) | cases h1
        | row e' k' xs c => unfold eqB at h1; split at h1 <;> first | (rename_i heq; cases heq) | cases h1
      · cases h1
    | succ j => exact h4 j κ B' (by simpa using hj) (by simpa using hb)

theorem awpl_back {P : Program} {ops : Array Oper} {l : List Oper} {R R' : St → Prop} {s : St} (hR : ∀ s', R s' → ∃ s2, Sub s2 s' ∧ R' s2) (h : AWpL P ops l R s) : AWpL P ops l R' s := fun cx m a w K hr hK => h cx m a w K hr (fun s' m' a' w' h1 h2 => by
  obtain ⟨s2, h3, h4⟩ := hR s' h1
  exact hK s2 m' a' w' h4 (h2.sub h3))
/-- A call that hands over boxes and leaves them as they were. -/
theorem after_same {s : St} {ks : List Nat} {q : Nat} {BS : List Blk} (hn : ks.Nodup) (h : sameK s ks (backF ks q BS.length) ks BS = true) : Sub s (afterS s ks q BS) := by
  obtain ⟨hl, hb⟩ := sameK_get h
  have hbox : ∀ κ, κ ∈ ks → ∃ e cs, gt κ s.hp = some (.box e cs) := by
    intro κ hκ
    obtain ⟨j, hj⟩ := List.getElem?_of_mem hκ
    have hlt := (List.getElem?_eq_some_iff.1 hj).1
    obtain ⟨e, cs, h1, _⟩ := hb j κ BS[j] hj (by simp)
    exact ⟨e, cs, h1⟩
  have hK : rowKeys s.hp ks ++ newKeys ks q BS.length = [] := by
    have h1 : rowKeys s.hp ks = [] := by
      unfold rowKeys
      rw [List.filter_eq_nil_iff]
      intro κ hκ
      obtain ⟨e, cs, h2⟩ := hbox κ hκ
      rw [h2]; simp
    have h2 : newKeys ks q BS.length = [] := by unfold newKeys; rw [hl, Nat.sub_self]; rfl
    rw [h1, h2]; rfl
  have hB0 : ∀ B : Blk, killsB [] B = B := by
    intro B; cases B <;> simp only [killsB]; rw [killsV_nil.2]
  unfold afterS
  simp only [hK]
  refine ⟨rfl, fun t v hv => .inr ?_, fun κ B hB => ?_⟩
  · rw [mapv_id killsV_nil.1]; exact hv
  · rw [gt_insL, mapv_id hB0, gt_delL]
    cases hg : gt κ (backFrom (backK ks q) (backF ks q BS.length) 0 BS) with
    | some B1 =>
      obtain ⟨j, B2, _, h2, h3, h4⟩ := gt_backFrom hg
      have h2' : BS[j]? = some B2 := by simpa using h2
      have hlt := (List.getElem?_eq_some_iff.1 h2').1
      have hkj : ks[j]? = some ks[j] := by simp [hl ▸ hlt]
      have e1 : backK ks q j = ks[j] := by unfold backK; rw [hkj]
      rw [e1] at h3
      obtain ⟨e, cs, h5, h6⟩ := hb j ks[j] B2 hkj h2'
      rw [← h3] at h5
      rw [h5] at hB
      cases hB
      simp only [h4, h6]
    | none =>
      have hnot : κ ∉ ks := by
        intro hκ
        obtain ⟨j, hj⟩ := List.getElem?_of_mem hκ
        have hlt := (List.getElem?_eq_some_iff.1 hj).1
        have := gt_backFrom_none hg j (Nat.zero_le _) (by rw [hl]; simpa using hlt)
        apply this
        unfold backK; rw [hj]
      simp only [if_neg hnot]; exact hB
theorem Sub.trans {a b c : St} (h : Sub a b) (h' : Sub b c) : Sub a c :=
  ⟨h.1.trans h'.1, fun t v hv => by
    rcases h.2.1 t v hv with h1 | h1
    · exact .inl h1
    · exact h'.2.1 t v h1, fun κ B hB => h'.2.2 κ B (h.2.2 κ B hB)⟩
theorem Sub.refl (a : St) : Sub a a := ⟨rfl, fun _ _ h => .inr h, fun _ _ h => h⟩
theorem Sub.put {a b : St} (h : Sub a b) (d : Option Nat) (v : AV) : Sub (a.put d v) (b.put d v) := by
  cases d with
  | none => exact h
  | some d =>
    refine ⟨h.1, fun t u hu => ?_, h.2.2⟩
    simp only [St.put, gt_ins] at hu ⊢
    split
    · rename_i e; rw [if_pos e] at hu; exact .inr hu
    · rename_i e; rw [if_neg e] at hu; exact h.2.1 t u hu
end Go.Proofs.Ytpdbekbobkjfgaa
