/-
  An abstract view of the machine, part 14: calls.
  Conditions: none; nothing here speaks of one program.
-/
import Derived.Test.YtpdbekbobkjfgaaAM13
namespace Go.Proofs.Ytpdbekbobkjfgaa
open Go.RowKit
set_option linter.unusedVariables false

mutual
/-- What names one of the blocks K is forgotten. -/
def killsV (K : List Nat) : AV → AV
  | .d x => .d x
  | .ptr κ off => if K.contains κ then .bot else .ptr κ off
  | .own κ => if K.contains κ then .bot else .own κ
  | .pel κ off => if K.contains κ then .bot else .pel κ off
  | .eaddr x => .eaddr x
  | .agg cs => .agg (killsVs K cs)
  | .tup vs => .tup (killsVs K vs)
  | .clos f caps => .clos f (killsVs K caps)
  | .wrap k v => .wrap k (killsV K v)
  | .bot => .bot
termination_by structural v => v
def killsVs (K : List Nat) : List AV → List AV
  | [] => []
  | v :: vs => killsV K v :: killsVs K vs
termination_by structural vs => vs
end
def killsB (K : List Nat) : Blk → Blk
  | .box e cs => .box e (killsVs K cs)
  | b => b
mutual
theorem RepV.kills {w : World} {F : Nat → Prop} {m m' : Nat → Value} {K : List Nat} (hm : ∀ j, j ∉ K → m' j = m j) : ∀ (v : AV) (u : Value), RepV w F m v u → RepV w F m' (killsV K v) u
  | .d x, u, h => by simpa only [killsV, RepV] using h
  | .ptr κ off, u, h => by
    simp only [killsV]; split
    · simp only [RepV]
    · rename_i hne; simpa only [RepV, hm κ (by simpa using hne)] using h
  | .own κ, u, h => by
    simp only [killsV]; split
    · simp only [RepV]
    · rename_i hne; simpa only [RepV, hm κ (by simpa using hne)] using h
  | .pel κ off, u, h => by
    simp only [killsV]; split
    · simp only [RepV]
    · rename_i hne; simpa only [RepV, hm κ (by simpa using hne)] using h
  | .eaddr x, u, h => by simpa only [killsV, RepV] using h
  | .agg cs, u, h => by
    simp only [killsV, RepV] at h ⊢
    obtain ⟨us, h1, h2, h3⟩ := h
    exact ⟨us, h1, RepVs.kills hm cs us h2, h3⟩
  | .tup vs, u, h => by
    simp only [killsV, RepV] at h ⊢
    obtain ⟨us, h1, h2⟩ := h
    exact ⟨us, h1, RepVs.kills hm vs us h2⟩
  | .clos f caps, u, h => by
    simp only [killsV, RepV] at h ⊢
    obtain ⟨us, h1, h2⟩ := h
    exact ⟨us, h1, RepVs.kills hm caps us h2⟩
  | .wrap k v, u, h => by
    simp only [killsV, RepV] at h ⊢
    obtain ⟨u0, h1, h2⟩ := h
    exact ⟨u0, h1, RepV.kills hm v u0 h2⟩
  | .bot, u, h => by simp only [killsV, RepV]
theorem RepVs.kills {w : World} {F : Nat → Prop} {m m' : Nat → Value} {K : List Nat} (hm : ∀ j, j ∉ K → m' j = m j) : ∀ (vs : List AV) (us : List Value), RepVs w F m vs us → RepVs w F m' (killsVs K vs) us
  | [], us, h => by simpa only [killsVs, RepVs] using h
  | v :: vs, us, h => by
    simp only [killsVs, RepVs] at h ⊢
    obtain ⟨u, rest, h1, h2, h3⟩ := h
    exact ⟨u, rest, h1, RepV.kills hm v u h2, RepVs.kills hm vs rest h3⟩
end
theorem RepB.kills {w : World} {F : Nat → Prop} {m m' : Nat → Value} {K : List Nat} (hm : ∀ j, j ∉ K → m' j = m j) {j : Nat} (hj : m' j = m j) {B : Blk} (h : RepB w F m j B) : RepB w F m' j (killsB K B) := by
  cases B with
  | box e cs =>
    obtain ⟨b', c, h1, h2, h3, h4⟩ := h
    exact ⟨b', c, by rw [hj]; exact h1, h2, RepVs.kills hm _ _ h3, h4⟩
  | ints e k xs c => simp only [killsB, RepB, hj] at h ⊢; exact h
  | row e n xs c => simp only [killsB, RepB, hj] at h ⊢; exact h

/-! ### Values that hold no slice: they stand for the same, whatever is forbidden -/
mutual
def flatD : D → Bool
  | .v _ => true
  | .ints _ _ _ => false
  | .sl _ _ _ => false
  | .agg cs => flatDs cs
termination_by structural d => d
def flatDs : List D → Bool
  | [] => true
  | d :: ds => flatD d && flatDs ds
termination_by structural ds => ds
end
mutual
def flatV : AV → Bool
  | .d x => flatD x
  | .ptr _ _ => true
  | .own _ => true
  | .pel _ _ => true
  | .eaddr _ => false
  | .agg cs => flatVs cs
  | .tup vs => flatVs vs
  | .clos _ caps => flatVs caps
  | .wrap _ v => flatV v
  | .bot => true
termination_by structural v => v
def flatVs : List AV → Bool
  | [] => true
  | v :: vs => flatV v && flatVs vs
termination_by structural vs => vs
end
def flatB : Blk → Bool
  | .box _ cs => flatVs cs
  | .ints _ _ _ _ => true
  | .row _ _ _ _ => false
mutual
theorem RepD.flat {w : World} {F F' : Nat → Prop} : ∀ (d : D) (u : Value), flatD d = true → RepD w F d u → RepD w F' d u
  | .v x, u, _, h => h
  | .ints k xs c, u, hf, _ => by simp [flatD] at hf
  | .sl n xs c, u, hf, _ => by simp [flatD] at hf
  | .agg cs, u, hf, h => by
    simp only [RepD, flatD] at h hf ⊢
    obtain ⟨us, h1, h2⟩ := h
    exact ⟨us, h1, RepRow.flat cs us hf h2⟩
theorem RepRow.flat {w : World} {F F' : Nat → Prop} {c : Value → Prop} : ∀ (ds : List D) (us : List Value), flatDs ds = true → RepRow w F c ds us → RepRow w F' c ds us
  | [], us, _, h => by simpa only [RepRow] using h
  | d :: ds, us, hf, h => by
    simp only [RepRow, flatDs, Bool.and_eq_true] at h hf ⊢
    obtain ⟨v, rest, h1, h2, h3, h4⟩ := h
    exact ⟨v, rest, h1, h2, RepD.flat d v hf.1 h3, RepRow.flat ds rest hf.2 h4⟩
end
mutual
theorem RepV.flat {w : World} {F F' : Nat → Prop} {m : Nat → Value} : ∀ (v : AV) (u : Value), flatV v = true → RepV w F m v u → RepV w F' m v u
  | .d x, u, hf, h => by simp only [RepV, flatV] at h hf ⊢; exact RepD.flat x u hf h
  | .ptr κ off, u, _, h => by simpa only [RepV] using h
  | .own κ, u, _, h => by simpa only [RepV] using h
  | .pel κ off, u, _, h => by simpa only [RepV] using h
  | .eaddr x, u, hf, h => by simp [flatV] at hf
  | .agg cs, u, hf, h => by
    simp only [RepV, flatV] at h hf ⊢
    obtain ⟨us, h1, h2, h3⟩ := h
    exact ⟨us, h1, RepVs.flat cs us hf h2, h3⟩
  | .tup vs, u, hf, h => by
    simp only [RepV, flatV] at h hf ⊢
    obtain ⟨us, h1, h2⟩ := h
    exact ⟨us, h1, RepVs.flat vs us hf h2⟩
  | .clos f caps, u, hf, h => by
    simp only [RepV, flatV] at h hf ⊢
    obtain ⟨us, h1, h2⟩ := h
    exact ⟨us, h1, RepVs.flat caps us hf h2⟩
  | .wrap k v, u, hf, h => by
    simp only [RepV, flatV] at h hf ⊢
    obtain ⟨u0, h1, h2⟩ := h
    exact ⟨u0, h1, RepV.flat v u0 hf h2⟩
  | .bot, u, _, h => by simp only [RepV]
theorem RepVs.flat {w : World} {F F' : Nat → Prop} {m : Nat → Value} : ∀ (vs : List AV) (us : List Value), flatVs vs = true → RepVs w F m vs us → RepVs w F' m vs us
  | [], us, _, h => by simpa only [RepVs] using h
  | v :: vs, us, hf, h => by
    simp only [RepVs, flatVs, Bool.and_eq_true] at h hf ⊢
    obtain ⟨u, rest, h1, h2, h3⟩ := h
    exact ⟨u, rest, h1, RepV.flat v u hf.1 h2, RepVs.flat vs rest hf.2 h3⟩
end
theorem RepB.flat {w : World} {F F' : Nat → Prop} {m : Nat → Value} {κ : Nat} {B : Blk} (hf : flatB B = true) (h : RepB w F m κ B) : RepB w F' m κ B := by
  cases B with
  | box e cs =>
    obtain ⟨b, c, h1, h2, h3, h4⟩ := h
    exact ⟨b, c, h1, h2, RepVs.flat _ _ hf h3, h4⟩
  | ints e k xs c => exact h
  | row e n xs c => simp [flatB] at hf

/-! ### A function, out of its body -/
theorem acall_of {P : Program} {f : FuncId} {fn : Func} {c : Code} {vs : List AV} {hs : List Blk} {Post : AV → List Blk → Prop} (hf : P.funcs[f]? = some fn) (hb : fn.body = some c) (hle : vs.length ≤ fn.ntmps)
    (h : AWp P c (fun e s' => (e = .ret ∨ e = .normal) ∧ ∃ ks r bs, (∀ j, j < hs.length → ks[j]? = some j) ∧ hs.length ≤ ks.length ∧ ks.Nodup ∧ pickB (posOf · ks) s'.hp ks = some bs ∧ resA P s' fn.results.toList = some r ∧ Post (renV (posOf · ks) r) bs)
      ⟨fn.ntmps, tmFrom 0 vs, hpFrom 0 hs⟩) : ACall P f vs hs Post := by
  intro cx m us w h1 h2 h3
  have hul := (RepVs_iff.1 h2).1
  refine calls_of_wp hf hb (Code.wp_mono ?_ (h cx m _ w ⟨rfl, ?_, ?_, h1.heap, h1.sep, h1.nox, h1.old, h1.fr, h1.xlt, h1.pin, h1.pinp⟩))
  · rintro e a' w' ⟨s', m', ⟨he, ks, r, bs, k1, k1', k2, k3, k4, k5⟩, hr⟩
    obtain ⟨u, r1, r2⟩ := resA_run hr k4
    obtain ⟨p1, p2⟩ := pickB_get k3
    have hdom : ∀ κ, κ ∈ ks → ∃ B, gt κ s'.hp = some B := by
      intro κ hκ
      obtain ⟨j, hj⟩ := List.getElem?_of_mem hκ
      obtain ⟨B, h4, _⟩ := p2 j κ hj
      exact ⟨B, h4⟩
    obtain ⟨q1, q2⟩ := hr.hand (c' := cx) ks k2 k3 (fun b hb => .inl hb) (fun κ b hκ hb => by obtain ⟨B, hB⟩ := hdom κ hκ; exact hr.nox κ B b hB hb)
      (fun κ b hκ hb => by obtain ⟨B, hB⟩ := hdom κ hκ; exact hr.old κ B b hB hb) hr.fr hr.xlt (fun j v hj => by rw [mapOf_get (k1 j (h3 j v hj))]; exact hr.pin j v hj) hr.pinp
    have post : ∃ v, (results fn a'.tmps).run P w' = .ok v w' ∧ ∃ u m' r hs', Ending.returned v = .returned u ∧ Post r hs' ∧ hs.length ≤ hs'.length ∧ SRep cx m' (St.bare hs') Act.none0 w' ∧ RepV w' (Forb cx m' (hpFrom 0 hs')) m' r u :=
      ⟨u, r1, u, _, _, bs, rfl, k5, by rw [p1]; exact k1', q1, q2 _ _ r2⟩
    rcases he with rfl | rfl
    · exact ⟨hr.defers, post⟩
    · exact ⟨hr.defers, post⟩
  · simp; omega
  · intro t v ht
    obtain ⟨_, hv⟩ := gt_tmFrom ht
    obtain ⟨u, h4, h5⟩ := (RepVs_iff.1 h2).2 _ v hv
    simp only [Nat.sub_zero] at h4
    have hlt : t < us.length := (List.getElem?_eq_some_iff.1 h4).1
    have : (us.toArray ++ Array.replicate (fn.ntmps - us.toArray.size) undef).getD t undef = u := by
      rw [Array.getD_eq_getD_getElem?, Array.getElem?_append_left (by simpa using hlt)]
      simp [h4]
    rw [this]; exact h5

/-! ### At a call -/
def insL {α : Type} : List (Nat × α) → List (Nat × α) → List (Nat × α)
  | [], l => l
  | (k, v) :: r, l => ins k v (insL r l)
def delL {α : Type} : List Nat → List (Nat × α) → List (Nat × α)
  | [], l => l
  | k :: r, l => del k (delL r l)
theorem gt_delL {α : Type} (j : Nat) (l : List (Nat × α)) : ∀ ks : List Nat, gt j (delL ks l) = if j ∈ ks then none else gt j l
  | [] => by simp [delL]
  | k :: r => by
    simp only [delL, gt_del, gt_delL j l r]
    by_cases h : j = k
    · simp [h]
    · simp [h]
theorem gt_insL {α : Type} (j : Nat) (l : List (Nat × α)) : ∀ r : List (Nat × α), gt j (insL r l) = match gt j r with | some v => some v | none => gt j l
  | [] => by simp [insL, gt]
  | (k, v) :: r => by
    simp only [insL, gt_ins, gt]
    split
    · rfl
    · exact gt_insL j l r

/-- The keys of blocks that come back: those that were handed over, then new ones. -/
def backK (ks : List Nat) (q : Nat) (j : Nat) : Nat := match ks[j]? with | some κ => κ | none => q + (j - ks.length)
def backF (ks : List Nat) (q n : Nat) (j : Nat) : Option Nat := if j < n then some (backK ks q j) else none
def backFrom (g : Nat → Nat) (f : Nat → Option Nat) (i : Nat) : List Blk → List (Nat × Blk)
  | [] => []
  | B :: l => (g i, renB f B) :: backFrom g f (i + 1) l
def rowKeys (hp : List (Nat × Blk)) (ks : List Nat) : List Nat := ks.filter fun κ => match gt κ hp with | some (.box _ _) => false | _ => true
def newKeys (ks : List Nat) (q n : Nat) : List Nat := (List.range (n - ks.length)).map (q + ·)
def afterS (s : St) (ks : List Nat) (q : Nat) (hs' : List Blk) : St :=
  let K := rowKeys s.hp ks ++ newKeys ks q hs'.length
  { s with tm := mapv (killsV K) s.tm, hp := insL (backFrom (backK ks q) (backF ks q hs'.length) 0 hs') (mapv (killsB K) (delL ks s.hp)) }

theorem gt_backFrom {g : Nat → Nat} {f : Nat → Option Nat} : ∀ {bs : List Blk} {i κ : Nat} {B : Blk}, gt κ (backFrom g f i bs) = some B → ∃ j B0, i ≤ j ∧ bs[j - i]? = some B0 ∧ κ = g j ∧ B = renB f B0
  | [], i, κ, B, h => by simp [backFrom, gt] at h
  | b :: bs, i, κ, B, h => by
    simp only [backFrom, gt] at h
    split at h
    · rename_i e; cases h; exact ⟨i, b, Nat.le_refl _, by simp, e, rfl⟩
    · obtain ⟨j, B0, h1, h2, h3, h4⟩ := gt_backFrom h
      exact ⟨j, B0, by omega, by rw [show j - i = (j - (i + 1)) + 1 by omega]; simpa using h2, h3, h4⟩
theorem gt_backFrom_none {g : Nat → Nat} {f : Nat → Option Nat} : ∀ {bs : List Blk} {i κ : Nat}, gt κ (backFrom g f i bs) = none → ∀ j, i ≤ j → j - i < bs.length → κ ≠ g j
  | [], i, κ, h, j, _, hj => by simp at hj
  | b :: bs, i, κ, h, j, hij, hj => by
    simp only [backFrom, gt] at h
    split at h
    · cases h
    · rename_i hne
      by_cases e : j = i
      · subst e; exact hne
      · exact gt_backFrom_none h j (by omega) (by simp at hj; omega)

/-- What a call is handed over, as its own beginning. -/
def callCtx (c : Ctx) (m : Nat → Value) (s : St) (w : World) (ks V : List Nat) : Ctx where
  w0 := w
  S := fun b => ∃ κ, κ ∈ ks ∧ blkOf (m κ) = some b
  X := fun b => Forb c m s.hp b ∧ ¬ ∃ κ, (κ ∈ ks ∨ κ ∈ V) ∧ blkOf (m κ) = some b
  pin := fun j => match ks[j]? with
    | some κ => match gt κ s.hp with | some (.box _ _) => some (m κ) | _ => none
    | none => none

/-- The view behind a call. -/
def newMap (m m' : Nat → Value) (ks : List Nat) (q n : Nat) : Nat → Value := fun κ =>
  match posOf κ ks with
  | some j => m' j
  | none => if q ≤ κ ∧ κ - q < n - ks.length then m' (ks.length + (κ - q)) else m κ

theorem forb_lt {c : Ctx} {m : Nat → Value} {s : St} {a : Act} {w : World} (h : SRep c m s a w) {b : Nat} (hb : Forb c m s.hp b) : b < w.heap.size := by
  rcases hb with hb | ⟨κ, B, h1, h2⟩
  · exact Nat.lt_of_lt_of_le (h.xlt b hb) h.fr.size
  · exact (h.heap κ B h1).lt h2

theorem SRep.after {c : Ctx} {m m' : Nat → Value} {s : St} {a : Act} {w w' : World} (h : SRep c m s a w) {ks V : List Nat} {q : Nat} {bs hs' : List Blk} {r : AV} {u : Value} (hn : ks.Nodup) (hb : pickB (posOf · ks) s.hp ks = some bs)
    (hq : 16 ≤ q) (hqk : ∀ κ, κ ∈ ks → κ < q ∨ q + hs'.length ≤ κ) (hlen : bs.length ≤ hs'.length)
    (hr : SRep (callCtx c m s w ks V) m' (St.bare hs') Act.none0 w') (hu : RepV w' (Forb (callCtx c m s w ks V) m' (hpFrom 0 hs')) m' r u)
    (hflat : V = [] ∨ (flatV r = true ∧ ∀ B, B ∈ hs' → flatB B = true)) :
    SRep c (newMap m m' ks q hs'.length) (afterS s ks q hs') a w' ∧ RepV w' (Forb c (newMap m m' ks q hs'.length) (afterS s ks q hs').hp) (newMap m m' ks q hs'.length) (renV (backF ks q hs'.length) r) u := by
  obtain ⟨hl, hget⟩ := pickB_get hb
  have hdk : ∀ κ, κ ∈ ks → ∃ B, gt κ s.hp = some B := by
    intro κ hκ
    obtain ⟨j, hj⟩ := List.getElem?_of_mem hκ
    obtain ⟨B, h4, _⟩ := hget j κ hj
    exact ⟨B, h4⟩
  generalize hmn : newMap m m' ks q hs'.length = mn
  -- keys that come back
  have mn_ks : ∀ j κ, ks[j]? = some κ → mn κ = m' j := by
    intro j κ hj; rw [← hmn]; simp only [newMap, posOf_self hn hj]
  have mn_new : ∀ i, i < hs'.length - ks.length → mn (q + i) = m' (ks.length + i) := by
    intro i hi
    rw [← hmn]
    unfold newMap
    cases hp : posOf (q + i) ks with
    | some j => have := List.mem_of_getElem? (posOf_get hp); rcases hqk _ this with h' | h' <;> omega
    | none =>
      simp only
      rw [if_pos ⟨by omega, by omega⟩]; congr 2; omega
  have mn_back : ∀ j, j < hs'.length → mn (backK ks q j) = m' j := by
    intro j hj
    unfold backK
    split
    · rename_i κ hκ; exact mn_ks j κ hκ
    · rename_i hκ
      have hge : ks.length ≤ j := by simpa using hκ
      rw [mn_new (j - ks.length) (by omega)]; congr 1; omega
  have mn_old : ∀ κ, κ ∉ ks → κ ∉ newKeys ks q hs'.length → mn κ = m κ := by
    intro κ h1 h2
    rw [← hmn]
    unfold newMap
    cases hp : posOf κ ks with
    | some j => exact absurd (List.mem_of_getElem? (posOf_get hp)) h1
    | none =>
      simp only
      rw [if_neg]
      rintro ⟨h3, h4⟩
      exact h2 (List.mem_map.2 ⟨κ - q, by simp; omega, by omega⟩)
  have back_mem : ∀ j, j < hs'.length → backK ks q j ∈ ks ∨ backK ks q j ∈ newKeys ks q hs'.length := by
    intro j hj
    unfold backK
    split
    · rename_i κ hκ; exact .inl (List.mem_of_getElem? hκ)
    · rename_i hκ
      have hge : ks.length ≤ j := by simpa using hκ
      exact .inr (List.mem_map.2 ⟨j - ks.length, by simp; omega, rfl⟩)
  have back_inj : ∀ i j, i < hs'.length → j < hs'.length → backK ks q i = backK ks q j → i = j := by
    intro i j hi hj e
    unfold backK at e
    split at e
    · rename_i κ hκ
      split at e
      · rename_i κ' hκ'
        subst e
        have e1 := posOf_self hn hκ
        have e2 := posOf_self hn hκ'
        rw [e1] at e2; simpa using e2
      · rename_i hκ'
        have hge : ks.length ≤ j := by simpa using hκ'
        have := hqk κ (List.mem_of_getElem? hκ)
        omega
    · rename_i hκ
      have hge : ks.length ≤ i := by simpa using hκ
      split at e
      · rename_i κ' hκ'
        have := hqk κ' (List.mem_of_getElem? hκ')
        omega
      · rename_i hκ'
        have hge' : ks.length ≤ j := by simpa using hκ'
        omega
  -- what lies under a key behind the call
  have hdom : ∀ κ B, gt κ (afterS s ks q hs').hp = some B → (∃ j B0, hs'[j]? = some B0 ∧ κ = backK ks q j ∧ B = renB (backF ks q hs'.length) B0) ∨ (κ ∉ ks ∧ κ ∉ newKeys ks q hs'.length ∧ ∃ B0, gt κ s.hp = some B0 ∧ B = killsB (rowKeys s.hp ks ++ newKeys ks q hs'.length) B0) := by
    intro κ B hκ
    simp only [afterS, gt_insL] at hκ
    split at hκ
    · rename_i B' hB'
      cases hκ
      obtain ⟨j, B0, h1, h2, h3, h4⟩ := gt_backFrom hB'
      exact .inl ⟨j, B0, by simpa using h2, h3, h4⟩
    · rename_i hno
      right
      obtain ⟨B0, h1, h2⟩ := gt_some_mapv hκ
      rw [gt_delL] at h1
      split at h1
      · cases h1
      · rename_i hk
        refine ⟨hk, fun hin => ?_, B0, h1, h2⟩
        obtain ⟨i, hi, rfl⟩ := List.mem_map.1 hin
        simp at hi
        refine gt_backFrom_none hno (ks.length + i) (by omega) (by omega) ?_
        unfold backK
        have : ks[ks.length + i]? = none := by simp
        rw [this]; simp only; omega
  have hS : ∀ b, (callCtx c m s w ks V).S b → Forb c m s.hp b := by
    rintro b ⟨κ, h1, h2⟩
    obtain ⟨B, hB⟩ := hdk κ h1
    exact .inr ⟨κ, B, hB, h2⟩
  have hold : ∀ j B0 b, hs'[j]? = some B0 → blkOf (m' j) = some b → (∃ κ, κ ∈ ks ∧ blkOf (m κ) = some b) ∨ w.heap.size ≤ b := fun j B0 b h1 h2 => hr.old j B0 b (gt_hp0.2 h1) h2
  have hKept : Kept w (Forb c m s.hp) w' (Forb c mn (afterS s ks q hs').hp) := by
    intro b hb hF
    refine ⟨?_, hr.fr.block b hb (fun hs => hF (hS b hs))⟩
    rintro (hX | ⟨κ, B, hκ, hbb⟩)
    · exact hF (.inl hX)
    · rcases hdom κ B hκ with ⟨j, B0, h1, rfl, rfl⟩ | ⟨h1, h2, B0, h3, rfl⟩
      · rw [mn_back j (List.getElem?_eq_some_iff.1 h1).1] at hbb
        rcases hold j B0 b h1 hbb with ⟨κ', h4, h5⟩ | h4
        · exact hF (hS b ⟨κ', h4, h5⟩)
        · omega
      · rw [mn_old κ h1 h2] at hbb
        exact hF (.inr ⟨κ, B0, h3, hbb⟩)
  -- what the callee's data stay out of, the caller's may stay out of
  have hFn : V = [] → ∀ b, Forb c mn (afterS s ks q hs').hp b → Forb (callCtx c m s w ks V) m' (hpFrom 0 hs') b := by
    intro hV b hb
    subst hV
    rcases hb with hX | ⟨κ, B, hκ, hbb⟩
    · refine .inl ⟨.inl hX, ?_⟩
      rintro ⟨κ, h1, h2⟩
      rcases h1 with h1 | h1
      · obtain ⟨B, hB⟩ := hdk κ h1
        exact h.nox κ B b hB h2 hX
      · simp at h1
    · rcases hdom κ B hκ with ⟨j, B0, h1, rfl, rfl⟩ | ⟨h1, h2, B0, h3, rfl⟩
      · rw [mn_back j (List.getElem?_eq_some_iff.1 h1).1] at hbb
        exact .inr ⟨j, B0, gt_hp0.2 h1, hbb⟩
      · rw [mn_old κ h1 h2] at hbb
        refine .inl ⟨.inr ⟨κ, B0, h3, hbb⟩, ?_⟩
        rintro ⟨κ', h4, h5⟩
        rcases h4 with h4 | h4
        · obtain ⟨B', hB'⟩ := hdk κ' h4
          exact h.sep κ κ' B0 B' b h3 hB' (fun e => h1 (e ▸ h4)) hbb h5
        · simp at h4
  have toV : ∀ (v : AV) (u : Value), (V = [] ∨ flatV v = true) → RepV w' (Forb (callCtx c m s w ks V) m' (hpFrom 0 hs')) m' v u → RepV w' (Forb c mn (afterS s ks q hs').hp) m' v u := by
    intro v u hc hv
    rcases hc with hc | hc
    · exact RepV.kept (fun b _ hb => ⟨fun h' => hb (hFn hc b h'), rfl⟩) (Nat.le_refl _) v u hv
    · exact RepV.flat v u hc hv
  have toB : ∀ (j : Nat) (B : Blk), (V = [] ∨ flatB B = true) → RepB w' (Forb (callCtx c m s w ks V) m' (hpFrom 0 hs')) m' j B → RepB w' (Forb c mn (afterS s ks q hs').hp) m' j B := by
    intro j B hc hv
    rcases hc with hc | hc
    · exact RepB.kept (fun b _ hb => ⟨fun h' => hb (hFn hc b h'), rfl⟩) (Nat.le_refl _) (fun _ _ _ => rfl) hv
    · exact RepB.flat hc hv
  have hmK : ∀ κ, κ ∉ rowKeys s.hp ks ++ newKeys ks q hs'.length → mn κ = m κ := by
    intro κ hκ
    simp only [List.mem_append, not_or] at hκ
    by_cases hks : κ ∈ ks
    · obtain ⟨j, hj⟩ := List.getElem?_of_mem hks
      obtain ⟨B, hB, _⟩ := hget j κ hj
      rw [mn_ks j κ hj]
      have hbox : ∃ e cs, B = .box e cs := by
        cases B with
        | box e cs => exact ⟨e, cs, rfl⟩
        | ints e k xs cc => exact absurd (List.mem_filter.2 ⟨hks, by simp [hB]⟩) hκ.1
        | row e n xs cc => exact absurd (List.mem_filter.2 ⟨hks, by simp [hB]⟩) hκ.1
      obtain ⟨e, cs, rfl⟩ := hbox
      exact hr.pin j (m κ) (by simp only [callCtx, hj, hB])
    · exact mn_old κ hks hκ.2
  -- renamed back
  have hback : ∀ κ j, backF ks q hs'.length κ = some j → mn j = m' κ := by
    intro κ j hj
    unfold backF at hj
    split at hj
    · rename_i hlt; cases hj; exact mn_back κ hlt
    · cases hj
  have hlt' : ∀ j B0, hs'[j]? = some B0 → j < hs'.length := fun j B0 h1 => (List.getElem?_eq_some_iff.1 h1).1
  refine ⟨⟨h.defers, h.nt, ?_, ?_, ?_, ?_, ?_, ?_, h.xlt, ?_, h.pinp⟩, RepV.ren hback r u (toV r u (or_map2 And.left hflat) hu)⟩
  · intro t v ht
    obtain ⟨v0, h1, rfl⟩ := gt_some_mapv ht
    exact RepV.kills hmK v0 _ (RepV.kept hKept hr.fr.size v0 _ (h.slot t v0 h1))
  · intro κ B hκ
    rcases hdom κ B hκ with ⟨j, B0, h1, rfl, rfl⟩ | ⟨h1, h2, B0, h3, rfl⟩
    · exact RepB.ren hback (mn_back j (hlt' j B0 h1)) (toB j B0 (or_map2 (fun hf => hf.2 B0 (List.mem_of_getElem? h1)) hflat) (hr.heap j B0 (gt_hp0.2 h1)))
    · have := RepB.kept hKept hr.fr.size (fun b hb hlt => hr.fr.block b hlt (fun ⟨κ', h4, h5⟩ => by
        obtain ⟨B', hB'⟩ := hdk κ' h4
        exact h.sep κ κ' B0 B' b h3 hB' (fun e => h1 (e ▸ h4)) hb h5)) (h.heap κ B0 h3)
      exact RepB.kills hmK (mn_old κ h1 h2) this
  · intro κ κ' B B' b h1 h2 hne hb hb'
    have key : ∀ (j : Nat) (B0 : Blk) (κ' : Nat) (B0' : Blk), hs'[j]? = some B0 → blkOf (m' j) = some b → κ' ∉ ks → gt κ' s.hp = some B0' → blkOf (m κ') = some b → False := by
      intro j B0 κ' B0' k1 k2 k3 k4 k5
      rcases hold j B0 b k1 k2 with ⟨κ'', k6, k7⟩ | k6
      · obtain ⟨B'', hB''⟩ := hdk κ'' k6
        exact h.sep κ' κ'' B0' B'' b k4 hB'' (fun e => k3 (e ▸ k6)) k5 k7
      · have := (h.heap κ' B0' k4).lt k5; omega
    rcases hdom κ B h1 with ⟨j, B0, k1, rfl, rfl⟩ | ⟨k1, k2, B0, k3, rfl⟩
    · rw [mn_back j (hlt' j B0 k1)] at hb
      rcases hdom κ' B' h2 with ⟨j', B0', k4, rfl, rfl⟩ | ⟨k4, k5, B0', k6, rfl⟩
      · rw [mn_back j' (hlt' j' B0' k4)] at hb'
        exact hr.sep j j' B0 B0' b (gt_hp0.2 k1) (gt_hp0.2 k4) (fun e => hne (by rw [e])) hb hb'
      · rw [mn_old κ' k4 k5] at hb'
        exact key j B0 κ' B0' k1 hb k4 k6 hb'
    · rw [mn_old κ k1 k2] at hb
      rcases hdom κ' B' h2 with ⟨j', B0', k4, rfl, rfl⟩ | ⟨k4, k5, B0', k6, rfl⟩
      · rw [mn_back j' (hlt' j' B0' k4)] at hb'
        exact key j' B0' κ B0 k4 hb' k1 k3 hb
      · rw [mn_old κ' k4 k5] at hb'
        exact h.sep κ κ' B0 B0' b k3 k6 hne hb hb'
  · intro κ B b hκ hb hX
    rcases hdom κ B hκ with ⟨j, B0, k1, rfl, rfl⟩ | ⟨k1, k2, B0, k3, rfl⟩
    · rw [mn_back j (hlt' j B0 k1)] at hb
      rcases hold j B0 b k1 hb with ⟨κ'', k6, k7⟩ | k6
      · obtain ⟨B'', hB''⟩ := hdk κ'' k6
        exact h.nox κ'' B'' b hB'' k7 hX
      · have := Nat.lt_of_lt_of_le (h.xlt b hX) h.fr.size; omega
    · rw [mn_old κ k1 k2] at hb
      exact h.nox κ B0 b k3 hb hX
  · intro κ B b hκ hb
    rcases hdom κ B hκ with ⟨j, B0, k1, rfl, rfl⟩ | ⟨k1, k2, B0, k3, rfl⟩
    · rw [mn_back j (hlt' j B0 k1)] at hb
      rcases hold j B0 b k1 hb with ⟨κ'', k6, k7⟩ | k6
      · obtain ⟨B'', hB''⟩ := hdk κ'' k6
        exact h.old κ'' B'' b hB'' k7
      · exact .inr (Nat.le_trans h.fr.size k6)
    · rw [mn_old κ k1 k2] at hb
      exact h.old κ B0 b k3 hb
  · refine ⟨hr.fr.os.trans h.fr.os, hr.fr.tape.trans h.fr.tape, hr.fr.output.trans h.fr.output, Nat.le_trans h.fr.size hr.fr.size, fun b hb hS' => ?_⟩
    have e1 : w'.heap[b]? = w.heap[b]? := hr.fr.block b (Nat.lt_of_lt_of_le hb h.fr.size) (by
      rintro ⟨κ, k1, k2⟩
      obtain ⟨B, hB⟩ := hdk κ k1
      rcases h.old κ B b hB k2 with k3 | k3
      · exact hS' k3
      · omega)
    rw [e1]; exact h.fr.block b hb hS'
  · intro κ v hv
    have e := h.pin κ v hv
    obtain ⟨hlt16, b, hvp⟩ := h.pinp κ v hv
    rw [← e]
    refine hmK κ fun hin => ?_
    rcases List.mem_append.1 hin with hin | hin
    · obtain ⟨hks, hrow⟩ := List.mem_filter.1 hin
      obtain ⟨B, hB⟩ := hdk κ hks
      have hrep := h.heap κ B hB
      rw [hB] at hrow
      cases B with
      | box e cs => simp at hrow
      | ints e' k xs cc =>
        obtain ⟨ad, cap, h1, _⟩ := hrep.1.cells
        rw [h1] at e; rw [hvp] at e; cases e
      | row e' n' xs cc =>
        obtain ⟨vals, hown, _⟩ := hrep
        obtain ⟨ad, cap, h1, _⟩ := hown.cells
        rw [h1] at e; rw [hvp] at e; cases e
    · obtain ⟨i, _, rfl⟩ := List.mem_map.1 hin
      omega

/-! ### Arguments -/
def nilA (P : Program) (t : TypeId) : AV :=
  match elemT P t with
  | some (e, n, _) => match intT P e with
    | some k => .d (.ints k [] none)
    | none => .d (.sl n [] none)
  | none => .d (.v (.slice none 0 0))
def uncap : D → D
  | .ints k xs _ => .ints k xs none
  | .sl n xs _ => .sl n xs none
  | d => d
/-- An argument as it is handed over: V: the own rows that are only looked at. -/
def argA (P : Program) (s : St) (ks V : List Nat) (t : TypeId) : AV → AV
  | .own κ => if V.contains κ then match obind (gt κ s.hp) Blk.data with
      | some d => .d (uncap d)
      | none => .bot
    else renV (posOf · ks) (.own κ)
  | .d (.v (.slice none 0 0)) => nilA P t
  | .d d => .d (uncap d)
  | v => renV (posOf · ks) v
def argsA (P : Program) (s : St) (ks V : List Nat) : List TypeId → List AV → List AV
  | t :: ts, v :: vs => argA P s ks V t v :: argsA P s ks V ts vs
  | _, vs => renVs (posOf · ks) vs

theorem uncap_rep {w : World} {F : Nat → Prop} {d : D} {u : Value} (h : RepD w F d u) : RepD w F (uncap d) u := by
  cases d with
  | ints k xs c =>
    simp only [uncap, RepD] at h ⊢
    obtain ⟨a, cap, h1, h2, h3, h4, _, h5⟩ := h
    exact ⟨a, cap, h1, h2, h3, h4, by simp, h5⟩
  | sl n xs c =>
    simp only [uncap, RepD] at h ⊢
    obtain ⟨a, cap, vals, h1, h2, h3, h4, _, h5⟩ := h
    exact ⟨a, cap, vals, h1, h2, h3, h4, by simp, h5⟩
  | _ => exact h
theorem nilA_rep {P : Program} {t : TypeId} {w : World} {F : Nat → Prop} {m : Nat → Value} : RepV w F m (nilA P t) (.slice none 0 0) := by
  unfold nilA
  split
  · split
    · simp only [RepV, RepD]; exact ⟨none, 0, rfl, Nat.le_refl _, Nat.zero_le _, fun _ => rfl, by simp, by simp⟩
    · simp only [RepV, RepD]; exact ⟨none, 0, [], rfl, Nat.le_refl _, Nat.zero_le _, fun _ => rfl, by simp, by simp [RepRow], by simp⟩
  · exact repV_v.2 ⟨rfl, rfl⟩

theorem argA_rep {P : Program} {c : Ctx} {m : Nat → Value} {s : St} {a : Act} {w : World} (h : SRep c m s a w) {ks V : List Nat} {bs : List Blk} (hVk : ∀ κ, κ ∈ V → κ ∉ ks)
    (hren : ∀ v u, RepV w (Forb c m s.hp) m v u → RepV w (Forb (callCtx c m s w ks V) (mapOf m ks) (hpFrom 0 bs)) (mapOf m ks) (renV (posOf · ks) v) u)
    (hown : ∀ κ b, κ ∈ V → (∃ B, gt κ s.hp = some B) → blkOf (m κ) = some b → ¬ Forb (callCtx c m s w ks V) (mapOf m ks) (hpFrom 0 bs) b)
    (hsub : ∀ b, Forb (callCtx c m s w ks V) (mapOf m ks) (hpFrom 0 bs) b → Forb c m s.hp b)
    {t : TypeId} {v : AV} {u : Value} (hv : RepV w (Forb c m s.hp) m v u) : RepV w (Forb (callCtx c m s w ks V) (mapOf m ks) (hpFrom 0 bs)) (mapOf m ks) (argA P s ks V t v) u := by
  have hk : Kept w (Forb c m s.hp) w (Forb (callCtx c m s w ks V) (mapOf m ks) (hpFrom 0 bs)) := fun b _ hb => ⟨fun h' => hb (hsub b h'), rfl⟩
  unfold argA
  split
  · rename_i κ
    split
    · rename_i hV
      have hV' : κ ∈ V := by simpa using hV
      split
      · rename_i d hd
        obtain ⟨B, hB, hd⟩ := Option.bind_eq_some_iff.1 hd
        simp only [RepV] at hv ⊢
        rw [hv.1]
        exact uncap_rep (RepB.data (h.heap κ B hB) hd hk (fun b hb => hown κ b hV' ⟨B, hB⟩ hb))
      · simp only [RepV]
    · exact hren _ _ hv
  · rw [repV_v] at hv; rw [hv.1]; exact nilA_rep
  · simp only [RepV] at hv ⊢; exact uncap_rep (RepD.kept hk _ _ hv)
  · exact hren _ _ hv

theorem argsA_rep {P : Program} {c : Ctx} {m : Nat → Value} {s : St} {a : Act} {w : World} (h : SRep c m s a w) {ks V : List Nat} {bs : List Blk} (hVk : ∀ κ, κ ∈ V → κ ∉ ks)
    (hren : ∀ v u, RepV w (Forb c m s.hp) m v u → RepV w (Forb (callCtx c m s w ks V) (mapOf m ks) (hpFrom 0 bs)) (mapOf m ks) (renV (posOf · ks) v) u)
    (hown : ∀ κ b, κ ∈ V → (∃ B, gt κ s.hp = some B) → blkOf (m κ) = some b → ¬ Forb (callCtx c m s w ks V) (mapOf m ks) (hpFrom 0 bs) b)
    (hsub : ∀ b, Forb (callCtx c m s w ks V) (mapOf m ks) (hpFrom 0 bs) b → Forb c m s.hp b) :
    ∀ {ts : List TypeId} {vs : List AV} {us : List Value}, RepVs w (Forb c m s.hp) m vs us → RepVs w (Forb (callCtx c m s w ks V) (mapOf m ks) (hpFrom 0 bs)) (mapOf m ks) (argsA P s ks V ts vs) us
  | [], vs, us, hv => by
    simp only [argsA]
    rw [RepVs_iff] at hv ⊢
    have : ∀ l : List AV, renVs (posOf · ks) l = l.map (renV (posOf · ks)) := by
      intro l; induction l with
      | nil => rfl
      | cons x l ih => simp only [renVs, List.map_cons, ih]
    rw [this]
    refine ⟨by simpa using hv.1, fun i v hi => ?_⟩
    rw [List.getElem?_map] at hi
    obtain ⟨v0, h0, rfl⟩ := Option.map_eq_some_iff.1 hi
    obtain ⟨u, h1, h2⟩ := hv.2 i v0 h0
    exact ⟨u, h1, hren _ _ h2⟩
  | t :: ts, [], us, hv => by simpa only [argsA, renVs, RepVs] using hv
  | t :: ts, v :: vs, us, hv => by
    simp only [argsA, RepVs] at hv ⊢
    obtain ⟨u, rest, h1, h2, h3⟩ := hv
    exact ⟨u, rest, h1, argA_rep h hVk hren hown hsub h2, argsA_rep h hVk hren hown hsub h3⟩

/-- A function as a call wants it. -/
structure IsFn (P : Program) (f : FuncId) (fn : Func) : Prop where
  at_ : P.funcs[f]? = some fn
  body : fn.body.isSome = true
  name : (fn.name == "runtime.NumGoroutine") = false

theorem run_call {P : Program} {f : FuncId} {fn : Func} (hf : IsFn P f fn) {o : Oper} {a : Act} {w : World} {g : Operand} {args : Array Operand} {tys : Array TypeId} {caps : Array Value} (ho : o.op = .call { callee := .value g, args := args, argTypes := tys }) (hg : a.eval g = .func (.func f) #[] caps) :
    (execOp a.eval o).run P w = .ok (.enter f (args.map a.eval ++ caps)) w := by
  have hb : fn.body.isNone = false := by
    have := hf.body
    cases hbd : fn.body with
    | none => rw [hbd] at this; cases this
    | some c => rfl
  simp only [execOp, ho, resolve, hg, Deferred.ofValue, Sem.run_bind, Sem.run_pure, Result.andThen_ok, invoke, callFunc]
  simp only [program, Sem.run, hf.at_, hf.name, hb, Result.andThen]
  simp

/-- Where a call of the view s goes, with which arguments. -/
def GoesTo (P : Program) (s : St) (o : Oper) (f : FuncId) (vs : List AV) : Prop := ∀ (cx : Ctx) (m : Nat → Value) (a : Act) (w : World), SRep cx m s a w → ∃ us : List Value, (execOp a.eval o).run P w = .ok (.enter f us.toArray) w ∧ RepVs w (Forb cx m s.hp) m vs us
theorem awpl_callG {P : Program} {ops : Array Oper} {o : Oper} {l : List Oper} {Q : St → Prop} {s : St} (hg : o.guard = none)
    {f : FuncId} {fn : Func} {vs : List AV} (hf : IsFn P f fn) (hgo : GoesTo P s o f vs) (hdst : s.okDst o.dst = true)
    (ks V : List Nat) (q : Nat) {bs : List Blk} {Post : AV → List Blk → Prop} (hcall : ACall P f (argsA P s ks V fn.params.toList vs) bs Post)
    (hn : ks.Nodup) (hb : pickB (posOf · ks) s.hp ks = some bs) (hk16 : ks.length ≤ 16) (hq : 16 ≤ q) (hVk : ∀ κ, κ ∈ V → κ ∉ ks ∧ (gt κ s.hp).isSome = true)
    (next : ∀ r hs', Post r hs' → bs.length ≤ hs'.length → (∀ κ, κ ∈ ks → κ < q ∨ q + hs'.length ≤ κ) ∧ (V = [] ∨ (flatV r = true ∧ ∀ B, B ∈ hs' → flatB B = true)) ∧ AWpL P ops l Q ((afterS s ks q hs').put o.dst (renV (backF ks q hs'.length) r))) :
    AWpL P ops (o :: l) Q s := by
  intro cx m a w K hr hK
  obtain ⟨hl, hget⟩ := pickB_get hb
  have hdk : ∀ κ, κ ∈ ks → ∃ B, gt κ s.hp = some B := by
    intro κ hκ
    obtain ⟨j, hj⟩ := List.getElem?_of_mem hκ
    obtain ⟨B, h4, _⟩ := hget j κ hj
    exact ⟨B, h4⟩
  have hX2 : ∀ κ b, κ ∈ ks → blkOf (m κ) = some b → ¬ (callCtx cx m s w ks V).X b := fun κ b h1 h2 h3 => h3.2 ⟨κ, .inl h1, h2⟩
  obtain ⟨hS, hren⟩ := hr.hand (c' := callCtx cx m s w ks V) ks hn hb (fun b hb => hb.1) hX2 (fun κ b h1 h2 => .inl ⟨κ, h1, h2⟩) (Fr.refl _ _) (fun b hb => forb_lt hr hb.1)
    (fun j v hj => by
      simp only [callCtx] at hj
      split at hj
      · rename_i κ hκ
        split at hj
        · cases hj; exact mapOf_get hκ
        · cases hj
      · cases hj)
    (fun j v hj => by
      simp only [callCtx] at hj
      split at hj
      · rename_i κ hκ
        split at hj
        · rename_i e cs hB
          cases hj
          have hlt := (List.getElem?_eq_some_iff.1 hκ).1
          obtain ⟨b, c, h1, _⟩ := hr.heap κ _ hB
          exact ⟨by omega, _, h1⟩
        · cases hj
      · cases hj)
  have hsub : ∀ b, Forb (callCtx cx m s w ks V) (mapOf m ks) (hpFrom 0 bs) b → Forb cx m s.hp b := by
    rintro b (hX | ⟨j, B, h1, h2⟩)
    · exact hX.1
    · rw [gt_hp0] at h1
      have hlt : j < ks.length := by rw [← hl]; exact (List.getElem?_eq_some_iff.1 h1).1
      have hkj : ks[j]? = some ks[j] := by simp [hlt]
      rw [mapOf_get hkj] at h2
      obtain ⟨B', hB'⟩ := hdk _ (List.mem_of_getElem? hkj)
      exact .inr ⟨_, B', hB', h2⟩
  have hown : ∀ κ b, κ ∈ V → (∃ B, gt κ s.hp = some B) → blkOf (m κ) = some b → ¬ Forb (callCtx cx m s w ks V) (mapOf m ks) (hpFrom 0 bs) b := by
    rintro κ b hV ⟨B, hB⟩ hbb (hX | ⟨j, B', h1, h2⟩)
    · exact hX.2 ⟨κ, .inr hV, hbb⟩
    · rw [gt_hp0] at h1
      have hlt : j < ks.length := by rw [← hl]; exact (List.getElem?_eq_some_iff.1 h1).1
      have hkj : ks[j]? = some ks[j] := by simp [hlt]
      rw [mapOf_get hkj] at h2
      obtain ⟨B'', hB''⟩ := hdk _ (List.mem_of_getElem? hkj)
      exact hr.sep κ ks[j] B B'' b hB hB'' (fun e => (hVk κ hV).1 (e ▸ List.mem_of_getElem? hkj)) hbb h2
  obtain ⟨us, hrun, hargs⟩ := hgo cx m a w hr
  have hC := hcall (callCtx cx m s w ks V) (mapOf m ks) us w hS (argsA_rep hr (fun κ hκ => (hVk κ hκ).1) hren hown hsub hargs)
    (fun κ v hv => by
      simp only [callCtx] at hv
      rw [hl]
      cases hκ : ks[κ]? with
      | some κ' => exact (List.getElem?_eq_some_iff.1 hκ).1
      | none => rw [hκ] at hv; cases hv)
  unfold wpList
  rw [if_pos (wanted_none hg _)]
  refine .inl ?_
  unfold Oper.wp
  rw [hrun]
  simp only [Oper.upon_enter]
  refine hC.mono ?_
  rintro e w' ⟨u, m', r, hs', rfl, hp, hlen, hS', hu⟩
  obtain ⟨n1, n2, n3⟩ := next r hs' hp hlen
  obtain ⟨a1, a2⟩ := hr.after hn hb hq n1 hlen hS' hu n2
  exact n3 cx _ _ _ K (a1.put hdst a2) hK

theorem goesTo_value {P : Program} {s : St} {o : Oper} {g : Operand} {args : Array Operand} {tys : Array TypeId} (ho : o.op = .call { callee := .value g, args := args, argTypes := tys })
    {f : FuncId} {fn : Func} {caps vs : List AV} (hf : IsFn P f fn) (hgv : s.ev g = some (.clos f caps)) (hvs : s.evL args.toList = some vs) : GoesTo P s o f (vs ++ caps) := by
  intro cx m a w hr
  have hgu := hr.ev hgv
  simp only [RepV] at hgu
  obtain ⟨cus, hg1, hcr⟩ := hgu
  refine ⟨args.toList.map a.eval ++ cus, ?_, ?_⟩
  · rw [run_call hf ho hg1]
    have e1 : (args.map a.eval ++ cus.toArray) = (args.toList.map a.eval ++ cus).toArray := by
      apply Array.ext'; simp
    rw [e1]
  · have h1 := evL_rep hr hvs
    rw [RepVs_iff] at h1 hcr ⊢
    refine ⟨by simp [h1.1, hcr.1], fun i v hi => ?_⟩
    rw [List.getElem?_append] at hi ⊢
    rw [h1.1] at hi
    split at hi
    · rename_i hlt; rw [if_pos hlt]; exact h1.2 i v hi
    · rename_i hge; rw [if_neg hge]; exact hcr.2 _ v hi
theorem goesTo_func {P : Program} {s : St} {o : Oper} {g : Operand} {args : Array Operand} {tys : Array TypeId} (ho : o.op = .call { callee := .value g, args := args, argTypes := tys })
    {f : FuncId} {fn : Func} {vs : List AV} (hf : IsFn P f fn) (hgv : s.ev g = some (.d (.v (.func (.func f) #[] #[])))) (hvs : s.evL args.toList = some vs) : GoesTo P s o f vs := by
  intro cx m a w hr
  have hg1 := (repV_v.1 (hr.ev hgv)).1
  refine ⟨args.toList.map a.eval, ?_, evL_rep hr hvs⟩
  rw [run_call hf ho hg1]
  have e1 : (args.map a.eval ++ #[]) = (args.toList.map a.eval).toArray := by
    apply Array.ext'; simp
  rw [e1]
theorem goesTo_invoke {P : Program} {s : St} {o : Oper} {r : Operand} {n : String} {args : Array Operand} {tys : Array TypeId} (ho : o.op = .call { callee := .invoke r n, args := args, argTypes := tys })
    {f : FuncId} {fn : Func} {t : TypeId} {v : AV} {vs : List AV} (hf : IsFn P f fn) (hm : methA P t n = some f) (hrv : s.ev r = some (.wrap (.ifc t) v)) (hvs : s.evL args.toList = some vs) : GoesTo P s o f (v :: vs) := by
  intro cx m a w hr
  have hgu := hr.ev hrv
  simp only [RepV] at hgu
  obtain ⟨u0, hg1, hcr⟩ := hgu
  refine ⟨u0 :: args.toList.map a.eval, ?_, ?_⟩
  · have hb : fn.body.isNone = false := by
      have := hf.body
      cases hbd : fn.body with
      | none => rw [hbd] at this; cases this
      | some c => rfl
    have hmr := methA_run hm (P.types.size + 99) u0 w
    have hfun : ∀ us : Array Value, (callFunc f us).run P w = .ok (.enter f us) w := by
      intro us
      simp only [callFunc, Sem.run_bind, program, Sem.run, hf.at_, hf.name, hb, Result.andThen]
      simp
    have hdep : P.types.size + Made.depth = P.types.size + 99 + 1 := rfl
    simp only [execOp, ho, resolve, hg1, Wr.val, Sem.run_bind, Sem.run_pure, Result.andThen_ok, invoke]
    have e0 : (#[Value.iface t u0] ++ args.map a.eval)[0]? = some (Value.iface t u0) := by rw [Array.getElem?_append_left (by simp)]; rfl
    rw [e0]
    simp only [callMethod, Sem.run_bind, run_program, Result.andThen_ok, hdep, hmr, hfun]
    have e1 : (#[u0] ++ (#[Value.iface t u0] ++ args.map a.eval).extract 1 (#[Value.iface t u0] ++ args.map a.eval).size) = (u0 :: args.toList.map a.eval).toArray := by
      apply Array.ext'
      simp only [Array.toList_append, List.cons_append, List.nil_append, Array.toList_extract, Array.size_append, Array.size_map, Array.toList_map, List.extract]
      simp
      rw [List.take_of_length_le (by simp)]
    rw [e1]
  · have h1 := evL_rep hr hvs
    simp only [RepVs]
    exact ⟨u0, _, rfl, hcr, h1⟩

theorem awpl_call {P : Program} {ops : Array Oper} {o : Oper} {l : List Oper} {Q : St → Prop} {s : St} (hg : o.guard = none) {g : Operand} {args : Array Operand} {tys : Array TypeId} (ho : o.op = .call { callee := .value g, args := args, argTypes := tys })
    {f : FuncId} {fn : Func} {caps vs : List AV} (hf : IsFn P f fn) (hgv : s.ev g = some (.clos f caps)) (hvs : s.evL args.toList = some vs) (hdst : s.okDst o.dst = true)
    (ks V : List Nat) (q : Nat) {bs : List Blk} {Post : AV → List Blk → Prop} (hcall : ACall P f (argsA P s ks V fn.params.toList (vs ++ caps)) bs Post)
    (hn : ks.Nodup) (hb : pickB (posOf · ks) s.hp ks = some bs) (hk16 : ks.length ≤ 16) (hq : 16 ≤ q) (hVk : ∀ κ, κ ∈ V → κ ∉ ks ∧ (gt κ s.hp).isSome = true)
    (next : ∀ r hs', Post r hs' → bs.length ≤ hs'.length → (∀ κ, κ ∈ ks → κ < q ∨ q + hs'.length ≤ κ) ∧ (V = [] ∨ (flatV r = true ∧ ∀ B, B ∈ hs' → flatB B = true)) ∧ AWpL P ops l Q ((afterS s ks q hs').put o.dst (renV (backF ks q hs'.length) r))) :
    AWpL P ops (o :: l) Q s := awpl_callG hg hf (goesTo_value ho hf hgv hvs) hdst ks V q hcall hn hb hk16 hq hVk next

/-- Where a call goes, reckoned out. -/
def funOf : Value → Option FuncId
  | .func (.func f) p q => if p.isEmpty && q.isEmpty then some f else none
  | _ => none
theorem funOf_mk {f : FuncId} : funOf (.func (.func f) #[] #[]) = some f := rfl
theorem funOf_eq {u : Value} {f : FuncId} (h : funOf u = some f) : u = .func (.func f) #[] #[] := by
  unfold funOf at h
  split at h
  · rename_i f' p q
    split at h
    · rename_i hpq
      cases h
      simp only [Bool.and_eq_true, Array.isEmpty_iff] at hpq
      rw [hpq.1, hpq.2]
    · cases h
  · cases h
def goV : Option AV → Option (List AV) → Option (FuncId × List AV)
  | some (.clos f caps), some vs => some (f, vs ++ caps)
  | some (.d (.v u)), some vs => omap (funOf u) fun f => (f, vs)
  | _, _ => none
def goI (P : Program) (n : String) : Option AV → Option (List AV) → Option (FuncId × List AV)
  | some (.wrap (.ifc t) v), some vs => omap (methA P t n) fun f => (f, v :: vs)
  | _, _ => none
def goC (P : Program) (s : St) (c : Call) : Option (FuncId × List AV) :=
  match c.callee with
  | .value g => goV (s.ev g) (s.evL c.args.toList)
  | .invoke r n => goI P n (s.ev r) (s.evL c.args.toList)
  | _ => none
theorem goC_sound {P : Program} {s : St} {o : Oper} {c : Call} (ho : o.op = .call c) {f : FuncId} {fn : Func} {vs : List AV} (hf : IsFn P f fn) (h : goC P s c = some (f, vs)) : GoesTo P s o f vs := by
  obtain ⟨cal, args, tys⟩ := c
  unfold goC at h
  split at h
  · rename_i g hc
    simp only at hc
    subst hc
    simp only at h
    unfold goV at h
    split at h
    · rename_i f' caps vs' h1 h2
      simp only [Option.some.injEq, Prod.mk.injEq] at h
      obtain ⟨rfl, rfl⟩ := h
      exact goesTo_value ho hf h1 h2
    · rename_i u vs' h1 h2
      obtain ⟨f', hfu, he⟩ := Option.map_eq_some_iff.1 h
      simp only [Prod.mk.injEq] at he
      obtain ⟨rfl, rfl⟩ := he
      rw [funOf_eq hfu] at h1
      exact goesTo_func ho hf h1 h2
    · cases h
  · rename_i r n hc
    simp only at hc
    subst hc
    simp only at h
    unfold goI at h
    split at h
    · rename_i t v vs' h1 h2
      obtain ⟨f', hm, he⟩ := Option.map_eq_some_iff.1 h
      simp only [Prod.mk.injEq] at he
      obtain ⟨rfl, rfl⟩ := he
      exact goesTo_invoke ho hf hm h1 h2
    · cases h
  · cases h

/-- A guard that is met. -/
theorem awpl_guard {P : Program} {ops : Array Oper} {o : Oper} {l : List Oper} {Q : St → Prop} {s : St} {j : Nat} {b : Bool} (hg : o.guard = some (j, b)) (hb : ((ops[j]?).bind (·.dst)).bind (fun t => gt t s.tm) = some (.d (.v (.bool b))))
    (h : AWpL P ops ({ o with guard := none } :: l) Q s) : AWpL P ops (o :: l) Q s := by
  intro cx m a w K hr hK
  have := h cx m a w K hr hK
  unfold wpList at this ⊢
  rw [if_pos (wanted_none rfl _)] at this
  obtain ⟨t, ht, hb⟩ := Option.bind_eq_some_iff.1 hb
  have hy : yielded ops a.tmps j = some b := by
    unfold yielded
    rw [ht]
    simp only [Option.bind_some, gt_lt hr hb]
  rw [if_pos (by simp [Region.wanted, hg, hy])]
  exact this

end Go.Proofs.Ytpdbekbobkjfgaa
