/-
  An abstract view of the machine, part 2: what a step does to the view: a slot is written, a block is new, turned, let go.
  Conditions: none; nothing here speaks of one program.
-/
import Derived.Test.YtpdbekbobkjfgaaAM1
namespace Go.Proofs.Ytpdbekbobkjfgaa
open Go.RowKit
set_option linter.unusedVariables false

def St.put (s : St) (dst : Option Nat) (v : AV) : St :=
  match dst with
  | some d => { s with tm := ins d v s.tm }
  | none => s
def St.okDst (s : St) : Option Nat → Bool
  | some d => d < s.n
  | none => true

theorem SRep.put {c : Ctx} {m : Nat → Value} {s : St} {a : Act} {w : World} (h : SRep c m s a w) {dst : Option Nat} {v : AV} {u : Value} (hd : s.okDst dst = true)
    (hv : RepV w (Forb c m s.hp) m v u) : SRep c m (s.put dst v) (a.put dst u) w := by
  cases dst with
  | none => exact h
  | some d =>
    simp only [St.okDst, decide_eq_true_eq] at hd
    refine ⟨h.defers, by simp [Act.put, St.put, h.nt], fun t v' ht => ?_, h.heap, h.sep, h.nox, h.old, h.fr, h.xlt, h.pin, h.pinp⟩
    simp only [St.put, gt_ins] at ht
    simp only [St.put, Act.put]
    split at ht
    · rename_i e
      subst e
      cases ht
      have : (a.tmps.setIfInBounds t u).getD t undef = u := by
        have : t < a.tmps.size := by rw [h.nt]; exact hd
        simp [Array.getD, this]
      rw [this]; exact hv
    · rename_i e
      have : (a.tmps.setIfInBounds d u).getD t undef = a.tmps.getD t undef := by
        simp [Array.getElem?_setIfInBounds_ne (Ne.symm e)]
      rw [this]; exact h.slot t v' ht

/-- A slot of which nothing is said any more. -/
theorem SRep.putBot {c : Ctx} {m : Nat → Value} {s : St} {a : Act} {w : World} (h : SRep c m s a w) {dst : Option Nat} (hd : s.okDst dst = true) (u : Value) : SRep c m (s.put dst .bot) (a.put dst u) w :=
  h.put hd (by simp only [RepV])

def upm (m : Nat → Value) (κ : Nat) (u : Value) : Nat → Value := fun j => if j = κ then u else m j
theorem upm_same (m : Nat → Value) (κ : Nat) (u : Value) : upm m κ u κ = u := by simp [upm]
theorem upm_ne (m : Nat → Value) {κ j : Nat} (u : Value) (h : j ≠ κ) : upm m κ u j = m j := by simp [upm, h]

/-- The block κ is laid anew, or turned: what named it as it was is forgotten, if its address has turned. -/
def St.setB (s : St) (kill : Bool) (κ : Nat) (B : Blk) : St :=
  if kill then { s with tm := mapv (killV κ) s.tm, hp := ins κ B (mapv (killB κ) s.hp) } else { s with hp := ins κ B s.hp }

/-- A key of the frame's own is not pinned. -/
theorem SRep.nopin {c : Ctx} {m : Nat → Value} {s : St} {a : Act} {w : World} (h : SRep c m s a w) {κ : Nat} (h16 : 16 ≤ κ) : c.pin κ = none := by
  cases hp : c.pin κ with
  | none => rfl
  | some v => have := (h.pinp κ v hp).1; omega

theorem killB_isSome {κ j : Nat} {hp : List (Nat × Blk)} {B : Blk} (h : gt j (mapv (killB κ) hp) = some B) : ∃ B0, gt j hp = some B0 ∧ B = killB κ B0 := by
  rw [gt_mapv] at h
  obtain ⟨B0, h1, h2⟩ := Option.map_eq_some_iff.1 h
  exact ⟨B0, h1, h2.symm⟩

theorem SRep.setB_dom {s : St} {kill : Bool} {κ : Nat} {B : Blk} : ∀ j B', gt j (s.setB kill κ B).hp = some B' → j ≠ κ → ∃ B0, gt j s.hp = some B0 ∧ (B' = B0 ∨ (kill = true ∧ B' = killB κ B0)) := by
  intro j B' hj hne
  unfold St.setB at hj
  split at hj
  · rename_i hkill
    rw [gt_ins_ne _ hne] at hj
    obtain ⟨B0, h1, h2⟩ := killB_isSome hj
    exact ⟨B0, h1, .inr ⟨hkill, h2⟩⟩
  · rw [gt_ins_ne _ hne] at hj
    exact ⟨B', hj, .inl rfl⟩

theorem SRep.setB_kept {c : Ctx} {m : Nat → Value} {s : St} {a : Act} {w w' : World} (h : SRep c m s a w) (kill : Bool) (κ : Nat) (B : Blk) (u : Value)
    (hfr : Fr (fun b => ∃ B0, gt κ s.hp = some B0 ∧ blkOf (m κ) = some b) w w')
    (hblk : ∀ b, blkOf u = some b → (∃ B0, gt κ s.hp = some B0 ∧ blkOf (m κ) = some b) ∨ w.heap.size ≤ b) :
    Kept w (Forb c m s.hp) w' (Forb c (upm m κ u) (s.setB kill κ B).hp) := by
  intro b hb hF
  refine ⟨?_, hfr.block b hb (fun ⟨B0, h1, h2⟩ => hF (.inr ⟨κ, B0, h1, h2⟩))⟩
  rintro (hX | ⟨j, B', hj, hjb⟩)
  · exact hF (.inl hX)
  · by_cases hne : j = κ
    · subst hne
      rw [upm_same] at hjb
      rcases hblk b hjb with ⟨B0, h1, h2⟩ | h1
      · exact hF (.inr ⟨j, B0, h1, h2⟩)
      · omega
    · rw [upm_ne _ _ hne] at hjb
      obtain ⟨B0, h1, _⟩ := SRep.setB_dom j B' hj hne
      exact hF (.inr ⟨j, B0, h1, hjb⟩)

theorem SRep.setB {c : Ctx} {m : Nat → Value} {s : St} {a : Act} {w w' : World} (h : SRep c m s a w) (kill : Bool) (κ : Nat) (B : Blk) (u : Value)
    (hk : kill = true ∨ u = m κ) (hpin : c.pin κ = none ∨ u = m κ)
    (hfr : Fr (fun b => ∃ B0, gt κ s.hp = some B0 ∧ blkOf (m κ) = some b) w w')
    (hblk : ∀ b, blkOf u = some b → (∃ B0, gt κ s.hp = some B0 ∧ blkOf (m κ) = some b) ∨ w.heap.size ≤ b)
    (hB : RepB w' (Forb c (upm m κ u) (s.setB kill κ B).hp) (upm m κ u) κ B) :
    SRep c (upm m κ u) (s.setB kill κ B) a w' ∧ Kept w (Forb c m s.hp) w' (Forb c (upm m κ u) (s.setB kill κ B).hp) := by
  have hdom := SRep.setB_dom (s := s) (kill := kill) (κ := κ) (B := B)
  have hself : gt κ (s.setB kill κ B).hp = some B := by
    unfold St.setB; split <;> exact gt_ins_same _ _ _
  have hxs : ∀ b, c.X b → b < w.heap.size := fun b hb => Nat.lt_of_lt_of_le (h.xlt b hb) h.fr.size
  have hKept := h.setB_kept kill κ B u hfr hblk
  have hmap : ∀ j, j ≠ κ → upm m κ u j = m j := fun j hj => upm_ne _ _ hj
  have hm2 : kill = false → upm m κ u = m := by
    intro hkf
    funext j
    by_cases hj : j = κ
    · subst hj
      rw [upm_same]
      rcases hk with hk | hk
      · rw [hk] at hkf; cases hkf
      · exact hk
    · exact upm_ne _ _ hj
  have hpin' : ∀ j v, c.pin j = some v → upm m κ u j = v := by
    intro j v hj
    by_cases e : j = κ
    · subst e
      rw [upm_same]
      rcases hpin with hp | hp
      · rw [hp] at hj; cases hj
      · rw [hp]; exact h.pin j v hj
    · rw [upm_ne _ _ e]; exact h.pin j v hj
  refine ⟨⟨h.defers, ?_, ?_, ?_, ?_, ?_, ?_, ?_, h.xlt, hpin', h.pinp⟩, hKept⟩
  · rw [h.nt]; unfold St.setB; split <;> rfl
  · intro t v ht
    cases hkill : kill with
    | true =>
      have ht' : gt t (mapv (killV κ) s.tm) = some v := by unfold St.setB at ht; rw [hkill] at ht; exact ht
      rw [gt_mapv] at ht'
      obtain ⟨v0, h1, rfl⟩ := Option.map_eq_some_iff.1 ht'
      have := RepV.kill (m' := upm m κ u) hmap v0 _ (RepV.kept hKept hfr.size v0 _ (h.slot t v0 h1))
      rw [hkill] at this; exact this
    | false =>
      have ht' : gt t s.tm = some v := by unfold St.setB at ht; rw [hkill] at ht; exact ht
      have := RepV.kept hKept hfr.size v _ (h.slot t v ht')
      rw [hkill] at this
      rw [hm2 hkill] at this ⊢; exact this
  · intro j B' hj
    by_cases hne : j = κ
    · subst hne
      rw [hself] at hj; cases hj
      exact hB
    · obtain ⟨B0, h1, h2⟩ := hdom j B' hj hne
      have hB0 := h.heap j B0 h1
      have hB1 : RepB w' (Forb c (upm m κ u) (s.setB kill κ B).hp) m j B0 := RepB.kept hKept hfr.size (fun b hb hlt => hfr.block b hlt (fun ⟨B1, h3, h4⟩ => h.sep j κ B0 B1 b h1 h3 hne hb h4)) hB0
      rcases h2 with h2 | ⟨h2, h3⟩
      · cases hkill : kill with
        | false => rw [h2]; rw [hkill] at hB1; rw [hm2 hkill] at hB1 ⊢; exact hB1
        | true =>
          have hj' : B' = killB κ B0 := by
            unfold St.setB at hj
            rw [hkill] at hj
            simp only [if_true] at hj
            rw [gt_ins_ne _ hne, gt_mapv, h1] at hj
            simpa using hj.symm
          rw [hj']; rw [hkill] at hB1; exact RepB.kill hmap hne hB1
      · rw [h3]; exact RepB.kill hmap hne hB1
  · intro j j' B1 B2 b h1 h2 hne hb hb'
    have key : ∀ i B', gt i (s.setB kill κ B).hp = some B' → i ≠ κ → blkOf (m i) = some b → blkOf u = some b → False := by
      intro i B' hi hne hib hub
      obtain ⟨B0, h3, _⟩ := hdom i B' hi hne
      rcases hblk b hub with ⟨B4, h5, h6⟩ | h5
      · exact h.sep i κ B0 B4 b h3 h5 hne hib h6
      · have := (h.heap i B0 h3).lt hib; omega
    by_cases e1 : j = κ
    · subst e1
      have e2 : j' ≠ j := Ne.symm hne
      rw [upm_same] at hb
      rw [upm_ne _ _ e2] at hb'
      exact key j' B2 h2 e2 hb' hb
    · rw [upm_ne _ _ e1] at hb
      by_cases e2 : j' = κ
      · subst e2
        rw [upm_same] at hb'
        exact key j B1 h1 e1 hb hb'
      · rw [upm_ne _ _ e2] at hb'
        obtain ⟨B3, h3, _⟩ := hdom j B1 h1 e1
        obtain ⟨B4, h4, _⟩ := hdom j' B2 h2 e2
        exact h.sep j j' B3 B4 b h3 h4 hne hb hb'
  · intro j B' b hj hb hX
    by_cases e : j = κ
    · subst e
      rw [upm_same] at hb
      rcases hblk b hb with ⟨B0, h1, h2⟩ | h1
      · exact h.nox j B0 b h1 h2 hX
      · have := hxs b hX; omega
    · rw [upm_ne _ _ e] at hb
      obtain ⟨B0, h1, _⟩ := hdom j B' hj e
      exact h.nox j B0 b h1 hb hX
  · intro j B' b hj hb
    by_cases e : j = κ
    · subst e
      rw [upm_same] at hb
      rcases hblk b hb with ⟨B0, h1, h2⟩ | h1
      · exact h.old j B0 b h1 h2
      · exact .inr (Nat.le_trans h.fr.size h1)
    · rw [upm_ne _ _ e] at hb
      obtain ⟨B0, h1, _⟩ := hdom j B' hj e
      exact h.old j B0 b h1 hb
  · refine ⟨hfr.os.trans h.fr.os, hfr.tape.trans h.fr.tape, hfr.output.trans h.fr.output, Nat.le_trans h.fr.size hfr.size, fun b hb hS => ?_⟩
    rw [hfr.block b (Nat.lt_of_lt_of_le hb h.fr.size) ?_, h.fr.block b hb hS]
    rintro ⟨B0, h1, h2⟩
    rcases h.old κ B0 b h1 h2 with h3 | h3
    · exact hS h3
    · omega

/-- A draw. -/
theorem SRep.drew {c : Ctx} {m : Nat → Value} {s : St} {a : Act} {w : World} (h : SRep c m s a w) (n : Nat) : SRep c m s a { w with drawn := n } :=
  have hk : Kept w (Forb c m s.hp) { w with drawn := n } (Forb c m s.hp) := fun b _ hF => ⟨hF, rfl⟩
  ⟨h.defers, h.nt, fun t v ht => RepV.kept hk (Nat.le_refl _) v _ (h.slot t v ht), fun κ B hB => RepB.kept hk (Nat.le_refl _) (fun _ _ _ => rfl) (h.heap κ B hB), h.sep, h.nox, h.old, ⟨h.fr.os, h.fr.tape, h.fr.output, h.fr.size, h.fr.block⟩, h.xlt, h.pin, h.pinp⟩

/-- What is known is more than what is asked: slots and blocks may be left out. -/
def Sub (s' s : St) : Prop := s'.n = s.n ∧ (∀ t v, gt t s'.tm = some v → v = .bot ∨ gt t s.tm = some v) ∧ (∀ κ B, gt κ s'.hp = some B → gt κ s.hp = some B)

theorem SRep.sub {c : Ctx} {m : Nat → Value} {s s' : St} {a : Act} {w : World} (h : SRep c m s a w) (hs : Sub s' s) : SRep c m s' a w := by
  have hF : ∀ b, Forb c m s'.hp b → Forb c m s.hp b := by
    rintro b (hX | ⟨κ, B, h1, h2⟩)
    · exact .inl hX
    · exact .inr ⟨κ, B, hs.2.2 κ B h1, h2⟩
  have hk : Kept w (Forb c m s.hp) w (Forb c m s'.hp) := fun b _ hb => ⟨fun h' => hb (hF b h'), rfl⟩
  refine ⟨h.defers, h.nt.trans hs.1.symm, fun t v ht => ?_, fun κ B hB => RepB.kept hk (Nat.le_refl _) (fun _ _ _ => rfl) (h.heap κ B (hs.2.2 κ B hB)), fun κ κ' B B' b h1 h2 => h.sep κ κ' B B' b (hs.2.2 _ _ h1) (hs.2.2 _ _ h2), fun κ B b h1 => h.nox κ B b (hs.2.2 _ _ h1), fun κ B b h1 => h.old κ B b (hs.2.2 _ _ h1), h.fr, h.xlt, h.pin, h.pinp⟩
  rcases hs.2.1 t v ht with rfl | h1
  · simp only [RepV]
  · exact RepV.kept hk (Nat.le_refl _) v _ (h.slot t v h1)

mutual
/-- An own row is data from now on. -/
def datV (κ : Nat) (x : D) : AV → AV
  | .d y => .d y
  | .ptr κ' off => .ptr κ' off
  | .own κ' => if κ' = κ then .d x else .own κ'
  | .pel κ' off => .pel κ' off
  | .eaddr y => .eaddr y
  | .agg cs => .agg (datVs κ x cs)
  | .tup vs => .tup (datVs κ x vs)
  | .clos f caps => .clos f (datVs κ x caps)
  | .wrap k v => .wrap k (datV κ x v)
  | .bot => .bot
termination_by structural v => v
def datVs (κ : Nat) (x : D) : List AV → List AV
  | [] => []
  | v :: vs => datV κ x v :: datVs κ x vs
termination_by structural vs => vs
end
def datB (κ : Nat) (x : D) : Blk → Blk
  | .box e cs => .box e (datVs κ x cs)
  | b => b

mutual
theorem RepV.dat {w : World} {F : Nat → Prop} {m : Nat → Value} {κ : Nat} {x : D} (hx : RepD w F x (m κ)) : ∀ (v : AV) (u : Value), RepV w F m v u → RepV w F m (datV κ x v) u
  | .d y, u, h => by simpa only [datV, RepV] using h
  | .ptr κ' off, u, h => by simpa only [datV] using h
  | .own κ', u, h => by
    simp only [datV]; split
    · rename_i e; subst e; simp only [RepV] at h ⊢; rw [h.1]; exact hx
    · exact h
  | .pel κ' off, u, h => by simpa only [datV] using h
  | .eaddr y, u, h => by simpa only [datV, RepV] using h
  | .agg cs, u, h => by
    simp only [datV, RepV] at h ⊢
    obtain ⟨us, h1, h2, h3⟩ := h
    exact ⟨us, h1, RepVs.dat hx cs us h2, h3⟩
  | .tup vs, u, h => by
    simp only [datV, RepV] at h ⊢
    obtain ⟨us, h1, h2⟩ := h
    exact ⟨us, h1, RepVs.dat hx vs us h2⟩
  | .clos f caps, u, h => by
    simp only [datV, RepV] at h ⊢
    obtain ⟨us, h1, h2⟩ := h
    exact ⟨us, h1, RepVs.dat hx caps us h2⟩
  | .wrap k v, u, h => by
    simp only [datV, RepV] at h ⊢
    obtain ⟨u0, h1, h2⟩ := h
    exact ⟨u0, h1, RepV.dat hx v u0 h2⟩
  | .bot, u, h => by simp only [datV, RepV]
theorem RepVs.dat {w : World} {F : Nat → Prop} {m : Nat → Value} {κ : Nat} {x : D} (hx : RepD w F x (m κ)) : ∀ (vs : List AV) (us : List Value), RepVs w F m vs us → RepVs w F m (datVs κ x vs) us
  | [], us, h => by simpa only [datVs, RepVs] using h
  | v :: vs, us, h => by
    simp only [datVs, RepVs] at h ⊢
    obtain ⟨u, rest, h1, h2, h3⟩ := h
    exact ⟨u, rest, h1, RepV.dat hx v u h2, RepVs.dat hx vs rest h3⟩
end

/-- What a row reads as. -/
def Blk.data : Blk → Option D
  | .ints e k xs c => some (.ints k xs c)
  | .row e n xs c => some (.sl n xs c)
  | _ => none

theorem RepB.data {w : World} {F F' : Nat → Prop} {m : Nat → Value} {κ : Nat} {B : Blk} {x : D} (h : RepB w F m κ B) (hx : B.data = some x)
    (hk : Kept w F w F') (hb : ∀ b, blkOf (m κ) = some b → ¬ F' b) : RepD w F' x (m κ) := by
  cases B with
  | box e cs => simp [Blk.data] at hx
  | ints e k xs c =>
    simp only [Blk.data, Option.some.injEq] at hx
    subst hx
    obtain ⟨h, hc⟩ := h
    obtain ⟨a, cap, h1, h2, h3, h4, h5⟩ := h.cells
    simp only [RepD]
    refine ⟨a, cap, h1, h2, h3, h4, fun n hn => by obtain ⟨a', l, h9⟩ := hc n hn; rw [h1] at h9; simp at h9; exact h9.2.2, fun hne => ?_⟩
    obtain ⟨b, h6, h7, _, h8⟩ := h5 (by simpa using hne)
    refine ⟨b, 0, h6, hb b h7, fun i y hy => h8 i _ (by simp [hy])⟩
  | row e n xs c =>
    simp only [Blk.data, Option.some.injEq] at hx
    subst hx
    obtain ⟨vals, h, hc, hr⟩ := h
    obtain ⟨a, cap, h1, h2, h3, h4, h5⟩ := h.cells
    simp only [RepD]
    refine ⟨a, cap, vals, h1, h2, h3, h4, fun n hn => by obtain ⟨a', l, h9⟩ := hc n hn; rw [h1] at h9; simp at h9; exact h9.2.2, RepRow.kept hk _ _ hr, fun hne => ?_⟩
    obtain ⟨b, h6, h7, _, h8⟩ := h5 hne
    exact ⟨b, 0, h6, hb b h7, h8⟩

def St.freeze (s : St) (κ : Nat) (x : D) : St := { s with tm := mapv (datV κ x) s.tm, hp := mapv (datB κ x) (del κ s.hp) }

theorem gt_some_mapv {α : Type} {f : α → α} {k : Nat} {l : List (Nat × α)} {v : α} (h : gt k (mapv f l) = some v) : ∃ v0, gt k l = some v0 ∧ v = f v0 := by
  rw [gt_mapv] at h
  obtain ⟨v0, h1, h2⟩ := Option.map_eq_some_iff.1 h
  exact ⟨v0, h1, h2.symm⟩

theorem SRep.freeze {c : Ctx} {m : Nat → Value} {s : St} {a : Act} {w : World} (h : SRep c m s a w) {κ : Nat} {B : Blk} {x : D} (hB : gt κ s.hp = some B) (hx : B.data = some x) : SRep c m (s.freeze κ x) a w := by
  have hdom : ∀ j B', gt j (s.freeze κ x).hp = some B' → j ≠ κ ∧ ∃ B0, gt j s.hp = some B0 ∧ B' = datB κ x B0 := by
    intro j B' hj
    obtain ⟨B0, h1, h2⟩ := gt_some_mapv (f := datB κ x) hj
    rw [gt_del] at h1
    split at h1
    · cases h1
    · rename_i hne; exact ⟨hne, B0, h1, h2⟩
  have hF : ∀ b, Forb c m (s.freeze κ x).hp b → Forb c m s.hp b := by
    rintro b (hX | ⟨j, B', h1, h2⟩)
    · exact .inl hX
    · obtain ⟨_, B0, h3, _⟩ := hdom j B' h1
      exact .inr ⟨j, B0, h3, h2⟩
  have hk : Kept w (Forb c m s.hp) w (Forb c m (s.freeze κ x).hp) := fun b _ hb => ⟨fun h' => hb (hF b h'), rfl⟩
  have hD : RepD w (Forb c m (s.freeze κ x).hp) x (m κ) := by
    refine RepB.data (h.heap κ B hB) hx hk fun b hb => ?_
    rintro (hX | ⟨j, B', h1, h2⟩)
    · exact h.nox κ B b hB hb hX
    · obtain ⟨hne, B0, h3, _⟩ := hdom j B' h1
      exact h.sep j κ B0 B b h3 hB hne h2 hb
  refine ⟨h.defers, h.nt, fun t v ht => ?_, fun j B' hj => ?_, ?_, ?_, ?_, h.fr, h.xlt, h.pin, h.pinp⟩
  · obtain ⟨v0, h1, rfl⟩ := gt_some_mapv (f := datV κ x) ht
    exact RepV.dat hD v0 _ (RepV.kept hk (Nat.le_refl _) v0 _ (h.slot t v0 h1))
  · obtain ⟨hne, B0, h3, rfl⟩ := hdom j B' hj
    have := RepB.kept hk (Nat.le_refl _) (fun _ _ _ => rfl) (h.heap j B0 h3)
    cases B0 with
    | box e cs =>
      obtain ⟨b', c', h4, h5, h6, h7⟩ := this
      exact ⟨b', c', h4, h5, RepVs.dat hD _ _ h6, h7⟩
    | ints e k xs c => exact this
    | row e n xs c => exact this
  · intro j j' B1 B2 b h1 h2
    obtain ⟨_, B3, h3, _⟩ := hdom j B1 h1
    obtain ⟨_, B4, h4, _⟩ := hdom j' B2 h2
    exact h.sep j j' B3 B4 b h3 h4
  · intro j B1 b h1
    obtain ⟨_, B3, h3, _⟩ := hdom j B1 h1
    exact h.nox j B3 b h3
  · intro j B1 b h1
    obtain ⟨_, B3, h3, _⟩ := hdom j B1 h1
    exact h.old j B3 b h3

/-- A slice without a cell is an own row without elements. -/
theorem SRep.mat {c : Ctx} {m : Nat → Value} {s : St} {a : Act} {w : World} (h : SRep c m s a w) (κ : Nat) (B : Blk) (ad : Option Addr) (h16 : 16 ≤ κ) (hB : (∃ e k, B = .ints e k [] (some 0)) ∨ (∃ e n, B = .row e n [] (some 0))) :
    SRep c (upm m κ (.slice ad 0 0)) (s.setB true κ B) a w ∧ Kept w (Forb c m s.hp) w (Forb c (upm m κ (.slice ad 0 0)) (s.setB true κ B).hp) := by
  have hpin : c.pin κ = none ∨ (.slice ad 0 0 : Value) = m κ := by
    cases hp : c.pin κ with
    | none => exact .inl rfl
    | some v => have := (h.pinp κ v hp).1; omega
  refine h.setB true κ B (.slice ad 0 0) (.inl rfl) hpin (Fr.refl _ _) (fun b hb => by cases ad <;> simp [blkOf] at hb) ?_
  rcases hB with ⟨e, k, rfl⟩ | ⟨e, n, rfl⟩
  · simp only [RepB, upm_same]; exact ⟨⟨by simp, .inl ⟨rfl, ad, rfl⟩⟩, fun n hn => by cases hn; exact ⟨_, _, rfl⟩⟩
  · simp only [RepB, upm_same]; exact ⟨[], ⟨by simp, .inl ⟨rfl, ad, rfl⟩⟩, fun n hn => by cases hn; exact ⟨_, _, rfl⟩, by simp only [RepRow]⟩

/-! ### A block that is only read from now on -/
mutual
def fixV (κ : Nat) (x : D) : AV → AV
  | .d y => .d y
  | .ptr κ' off => if κ' = κ then (if off = 0 then .eaddr x else .bot) else .ptr κ' off
  | .own κ' => if κ' = κ then .bot else .own κ'
  | .pel κ' off => if κ' = κ then .bot else .pel κ' off
  | .eaddr y => .eaddr y
  | .agg cs => .agg (fixVs κ x cs)
  | .tup vs => .tup (fixVs κ x vs)
  | .clos f caps => .clos f (fixVs κ x caps)
  | .wrap k v => .wrap k (fixV κ x v)
  | .bot => .bot
termination_by structural v => v
def fixVs (κ : Nat) (x : D) : List AV → List AV
  | [] => []
  | v :: vs => fixV κ x v :: fixVs κ x vs
termination_by structural vs => vs
end
def fixB (κ : Nat) (x : D) : Blk → Blk
  | .box e cs => .box e (fixVs κ x cs)
  | b => b
mutual
theorem RepV.fix {w : World} {F : Nat → Prop} {m : Nat → Value} {κ : Nat} {x : D} (hx : ∀ u, RepV w F m (.ptr κ 0) u → RepV w F m (.eaddr x) u) : ∀ (v : AV) (u : Value), RepV w F m v u → RepV w F m (fixV κ x v) u
  | .d y, u, h => by simpa only [fixV, RepV] using h
  | .ptr κ' off, u, h => by
    simp only [fixV]; split
    · rename_i e; subst e
      split
      · rename_i e; subst e; exact hx u h
      · simp only [RepV]
    · exact h
  | .own κ', u, h => by
    simp only [fixV]; split
    · simp only [RepV]
    · exact h
  | .pel κ' off, u, h => by
    simp only [fixV]; split
    · simp only [RepV]
    · exact h
  | .eaddr y, u, h => by simpa only [fixV] using h
  | .agg cs, u, h => by
    simp only [fixV, RepV] at h ⊢
    obtain ⟨us, h1, h2, h3⟩ := h
    exact ⟨us, h1, RepVs.fix hx cs us h2, h3⟩
  | .tup vs, u, h => by
    simp only [fixV, RepV] at h ⊢
    obtain ⟨us, h1, h2⟩ := h
    exact ⟨us, h1, RepVs.fix hx vs us h2⟩
  | .clos f caps, u, h => by
    simp only [fixV, RepV] at h ⊢
    obtain ⟨us, h1, h2⟩ := h
    exact ⟨us, h1, RepVs.fix hx caps us h2⟩
  | .wrap k v, u, h => by
    simp only [fixV, RepV] at h ⊢
    obtain ⟨u0, h1, h2⟩ := h
    exact ⟨u0, h1, RepV.fix hx v u0 h2⟩
  | .bot, u, h => by simp only [fixV, RepV]
theorem RepVs.fix {w : World} {F : Nat → Prop} {m : Nat → Value} {κ : Nat} {x : D} (hx : ∀ u, RepV w F m (.ptr κ 0) u → RepV w F m (.eaddr x) u) : ∀ (vs : List AV) (us : List Value), RepVs w F m vs us → RepVs w F m (fixVs κ x vs) us
  | [], us, h => by simpa only [fixVs, RepVs] using h
  | v :: vs, us, h => by
    simp only [fixVs, RepVs] at h ⊢
    obtain ⟨u, rest, h1, h2, h3⟩ := h
    exact ⟨u, rest, h1, RepV.fix hx v u h2, RepVs.fix hx vs rest h3⟩
end
def St.fix (s : St) (κ : Nat) (x : D) : St := { s with tm := mapv (fixV κ x) s.tm, hp := mapv (fixB κ x) (del κ s.hp) }

end Go.Proofs.Ytpdbekbobkjfgaa
