/-
  An abstract view of the machine, part 23: drawn regions whose first operations may also make blocks and turn them.
  Conditions: none; nothing here speaks of one program.
-/
import Derived.Test.YtpdbekbobkjfgaaAM21
namespace Go.Proofs.Ytpdbekbobkjfgaa
open Go.RowKit
set_option linter.unusedVariables false

/-- What an operation does: slots and blocks that it writes. -/
structure Eff where
  W : List (Nat × AV)
  H : List (Nat × Blk)
def applyE (s : St) (e : Eff) : St := { s with tm := insL e.W s.tm, hp := insL e.H s.hp }
def nm (K : List Nat) (v : AV) : Bool := (keysV v).any K.contains
def nmB (K : List Nat) (B : Blk) : Bool := (keysB B).any K.contains
/-- An operation with its effect, what it looks at, and the keys whose names it forgets. -/
structure Loc where
  o : Oper
  e : Eff
  reads : List Nat
  keys : List Nat
  kill : List Nat
def LOp (P : Program) (ops : Array Oper) (s : St) (q : Loc) : Prop :=
  ∀ s2 : St, s2.n = s.n → (∀ t ∈ q.reads, gt t s2.tm = gt t s.tm) → (∀ κ ∈ q.keys, gt κ s2.hp = gt κ s.hp) →
    (∀ t v, gt t s2.tm = some v → (gt t q.e.W).isSome = true ∨ nm q.kill v = false) → (∀ κ B, gt κ s2.hp = some B → (gt κ q.e.H).isSome = true ∨ nmB q.kill B = false) →
    AWpL P ops [q.o] (fun s3 => Sub (applyE s2 q.e) s3) s2

def maskE (D : Nat → Bool) : Nat → List Loc → St → St
  | _, [], s => s
  | i, q :: l, s => maskE D (i + 1) l (if D i then applyE s q.e else s)
def lookW (t : Nat) (D : Nat → Bool) : Nat → List Loc → Option AV → Option AV
  | _, [], d => d
  | i, q :: l, d => lookW t D (i + 1) l (if D i then (match gt t q.e.W with | some v => some v | none => d) else d)
def lookH (t : Nat) (D : Nat → Bool) : Nat → List Loc → Option Blk → Option Blk
  | _, [], d => d
  | i, q :: l, d => lookH t D (i + 1) l (if D i then (match gt t q.e.H with | some v => some v | none => d) else d)

theorem maskE_facts (D : Nat → Bool) : ∀ (L : List Loc) (i : Nat) (s : St), (maskE D i L s).n = s.n ∧ (∀ t, gt t (maskE D i L s).tm = lookW t D i L (gt t s.tm)) ∧ ∀ t, gt t (maskE D i L s).hp = lookH t D i L (gt t s.hp)
  | [], i, s => ⟨rfl, fun _ => rfl, fun _ => rfl⟩
  | q :: l, i, s => by
    obtain ⟨h1, h2, h3⟩ := maskE_facts D l (i + 1) (if D i then applyE s q.e else s)
    refine ⟨?_, fun t => ?_, fun t => ?_⟩
    · simp only [maskE, h1]; split <;> rfl
    · simp only [maskE, lookW, h2]
      congr 1
      cases D i with
      | true => simp only [if_true, applyE, gt_insL]; cases gt t q.e.W <;> rfl
      | false => simp
    · simp only [maskE, lookH, h3]
      congr 1
      cases D i with
      | true => simp only [if_true, applyE, gt_insL]; cases gt t q.e.H <;> rfl
      | false => simp
theorem lookW_congr {t : Nat} {D D' : Nat → Bool} : ∀ {L : List Loc} {i : Nat} {d : Option AV}, (∀ (j : Nat) q, L[j]? = some q → (gt t q.e.W).isSome = true → D (i + j) = D' (i + j)) → lookW t D i L d = lookW t D' i L d
  | [], i, d, _ => rfl
  | q :: l, i, d, h => by
    simp only [lookW]
    have h0 := h 0 q rfl
    have e : (if D i then (match gt t q.e.W with | some v => some v | none => d) else d) = (if D' i then (match gt t q.e.W with | some v => some v | none => d) else d) := by
      cases hg : gt t q.e.W with
      | none => simp
      | some v => rw [hg] at h0; have := h0 rfl; simp only [Nat.add_zero] at this; rw [this]
    rw [e]
    exact lookW_congr fun j q' hj hd => by
      have := h (j + 1) q' (by simpa using hj) hd
      rw [show i + 1 + j = i + (j + 1) by omega]; exact this
theorem lookH_congr {t : Nat} {D D' : Nat → Bool} : ∀ {L : List Loc} {i : Nat} {d : Option Blk}, (∀ (j : Nat) q, L[j]? = some q → (gt t q.e.H).isSome = true → D (i + j) = D' (i + j)) → lookH t D i L d = lookH t D' i L d
  | [], i, d, _ => rfl
  | q :: l, i, d, h => by
    simp only [lookH]
    have h0 := h 0 q rfl
    have e : (if D i then (match gt t q.e.H with | some v => some v | none => d) else d) = (if D' i then (match gt t q.e.H with | some v => some v | none => d) else d) := by
      cases hg : gt t q.e.H with
      | none => simp
      | some v => rw [hg] at h0; have := h0 rfl; simp only [Nat.add_zero] at this; rw [this]
    rw [e]
    exact lookH_congr fun j q' hj hd => by
      have := h (j + 1) q' (by simpa using hj) hd
      rw [show i + 1 + j = i + (j + 1) by omega]; exact this
/-- Where a slot's value comes from. -/
theorem lookW_from {t : Nat} {D : Nat → Bool} {v : AV} : ∀ {L : List Loc} {i : Nat} {d : Option AV}, lookW t D i L d = some v → d = some v ∨ ∃ (j : Nat) (q : Loc), L[j]? = some q ∧ D (i + j) = true ∧ gt t q.e.W = some v
  | [], i, d, h => .inl h
  | q :: l, i, d, h => by
    simp only [lookW] at h
    rcases lookW_from h with h1 | ⟨j, q', h1, h2, h3⟩
    · split at h1
      · rename_i hD
        split at h1
        · rename_i v' hv; cases h1; exact .inr ⟨0, q, rfl, by simpa using hD, hv⟩
        · exact .inl h1
      · exact .inl h1
    · exact .inr ⟨j + 1, q', by simpa using h1, by rw [show i + (j + 1) = i + 1 + j by omega]; exact h2, h3⟩
theorem lookH_from {t : Nat} {D : Nat → Bool} {v : Blk} : ∀ {L : List Loc} {i : Nat} {d : Option Blk}, lookH t D i L d = some v → d = some v ∨ ∃ (j : Nat) (q : Loc), L[j]? = some q ∧ D (i + j) = true ∧ gt t q.e.H = some v
  | [], i, d, h => .inl h
  | q :: l, i, d, h => by
    simp only [lookH] at h
    rcases lookH_from h with h1 | ⟨j, q', h1, h2, h3⟩
    · split at h1
      · rename_i hD
        split at h1
        · rename_i v' hv; cases h1; exact .inr ⟨0, q, rfl, by simpa using hD, hv⟩
        · exact .inl h1
      · exact .inl h1
    · exact .inr ⟨j + 1, q', by simpa using h1, by rw [show i + (j + 1) = i + 1 + j by omega]; exact h2, h3⟩
/-- The last operation that writes a slot. -/
theorem lookW_at {t : Nat} {D : Nat → Bool} {v : AV} {q : Loc} : ∀ {L : List Loc} {b j : Nat} {d : Option AV}, L[j]? = some q → gt t q.e.W = some v → D (b + j) = true → (∀ (k : Nat) q', L[k]? = some q' → (gt t q'.e.W).isSome = true → j < k → D (b + k) = false) → lookW t D b L d = some v
  | [], b, j, d, h, _, _, _ => by simp at h
  | q0 :: l, b, j, d, h, hv, hD, hlast => by
    simp only [lookW]
    cases j with
    | zero =>
      simp at h; subst h
      rw [show b + 0 = b from rfl] at hD
      rw [if_pos hD, hv]
      have : ∀ (l' : List Loc) (b' : Nat), (∀ (k : Nat) q', l'[k]? = some q' → (gt t q'.e.W).isSome = true → D (b' + k) = false) → lookW t D b' l' (some v) = some v := by
        intro l'
        induction l' with
        | nil => intro b' _; rfl
        | cons q1 l' ih =>
          intro b' h'
          simp only [lookW]
          have h0 := h' 0 q1 rfl
          have e : (if D b' then (match gt t q1.e.W with | some v => some v | none => some v) else some v) = some v := by
            cases hg : gt t q1.e.W with
            | none => simp
            | some u => rw [hg] at h0; have := h0 rfl; simp only [Nat.add_zero] at this; rw [this]; simp
          rw [e]
          exact ih (b' + 1) fun k q' hk hs => by have := h' (k + 1) q' (by simpa using hk) hs; rw [show b' + 1 + k = b' + (k + 1) by omega]; exact this
      exact this l (b + 1) fun k q' hk hs => by have := hlast (k + 1) q' (by simpa using hk) hs (by omega); rw [show b + 1 + k = b + (k + 1) by omega]; exact this
    | succ j =>
      exact lookW_at (L := l) (j := j) (by simpa using h) hv (by rw [show b + 1 + j = b + (j + 1) by omega]; exact hD) fun k q' hk hs hjk => by
        have := hlast (k + 1) q' (by simpa using hk) hs (by omega)
        rw [show b + 1 + k = b + (k + 1) by omega]; exact this
theorem lookH_at {t : Nat} {D : Nat → Bool} {v : Blk} {q : Loc} : ∀ {L : List Loc} {b j : Nat} {d : Option Blk}, L[j]? = some q → gt t q.e.H = some v → D (b + j) = true → (∀ (k : Nat) q', L[k]? = some q' → (gt t q'.e.H).isSome = true → j < k → D (b + k) = false) → lookH t D b L d = some v
  | [], b, j, d, h, _, _, _ => by simp at h
  | q0 :: l, b, j, d, h, hv, hD, hlast => by
    simp only [lookH]
    cases j with
    | zero =>
      simp at h; subst h
      rw [show b + 0 = b from rfl] at hD
      rw [if_pos hD, hv]
      have : ∀ (l' : List Loc) (b' : Nat), (∀ (k : Nat) q', l'[k]? = some q' → (gt t q'.e.H).isSome = true → D (b' + k) = false) → lookH t D b' l' (some v) = some v := by
        intro l'
        induction l' with
        | nil => intro b' _; rfl
        | cons q1 l' ih =>
          intro b' h'
          simp only [lookH]
          have h0 := h' 0 q1 rfl
          have e : (if D b' then (match gt t q1.e.H with | some v => some v | none => some v) else some v) = some v := by
            cases hg : gt t q1.e.H with
            | none => simp
            | some u => rw [hg] at h0; have := h0 rfl; simp only [Nat.add_zero] at this; rw [this]; simp
          rw [e]
          exact ih (b' + 1) fun k q' hk hs => by have := h' (k + 1) q' (by simpa using hk) hs; rw [show b' + 1 + k = b' + (k + 1) by omega]; exact this
      exact this l (b + 1) fun k q' hk hs => by have := hlast (k + 1) q' (by simpa using hk) hs (by omega); rw [show b + 1 + k = b + (k + 1) by omega]; exact this
    | succ j =>
      exact lookH_at (L := l) (j := j) (by simpa using h) hv (by rw [show b + 1 + j = b + (j + 1) by omega]; exact hD) fun k q' hk hs hjk => by
        have := hlast (k + 1) q' (by simpa using hk) hs (by omega)
        rw [show b + 1 + k = b + (k + 1) by omega]; exact this

/-! ### Independence -/
/-- j is carried out before i, whatever the order. -/
def befB (l : List Oper) (j i : Nat) : Bool := decide (j < i) && (match l[i]? with | some o => (closeD l i (edgesOf o)).contains j | none => false)
def disjB (a b : List Nat) : Bool := a.all fun x => !b.contains x
def pairOk (q q' : Loc) : Bool := disjB (q'.e.W.map (·.1)) (q.reads ++ q.e.W.map (·.1)) && disjB (q'.e.H.map (·.1)) (q.keys ++ q.e.H.map (·.1))
def quietW (q : Loc) (W : List (Nat × AV)) : Bool := W.all fun p => (gt p.1 q.e.W).isSome || !nm q.kill p.2
def quietH (q : Loc) (H : List (Nat × Blk)) : Bool := H.all fun p => (gt p.1 q.e.H).isSome || !nmB q.kill p.2
def oneOk (l : List Oper) (s : St) (L : List Loc) (i : Nat) (q : Loc) : Bool :=
  quietW q s.tm && (quietH q s.hp && (L.zipIdx.all fun p => p.2 == i || (befB l p.2 i && quietW q p.1.e.W && quietH q p.1.e.H || befB l i p.2 || pairOk q p.1 && quietW q p.1.e.W && quietH q p.1.e.H)))
def indepOk (l : List Oper) (s : St) (L : List Loc) : Bool := L.zipIdx.all fun p => oneOk l s L p.2 p.1

theorem gt_memL {α : Type} {t : Nat} {v : α} : ∀ {l : List (Nat × α)}, gt t l = some v → (t, v) ∈ l
  | [], h => by simp [gt] at h
  | (k, u) :: l, h => by
    simp only [gt] at h
    split at h
    · rename_i e; cases h; subst e; simp
    · exact List.mem_cons_of_mem _ (gt_memL h)
theorem quietW_get {q : Loc} {W : List (Nat × AV)} (h : quietW q W = true) {t : Nat} {v : AV} (hv : gt t W = some v) : (gt t q.e.W).isSome = true ∨ nm q.kill v = false := by
  have := List.all_eq_true.1 h (t, v) (gt_memL hv)
  simpa using this
theorem quietH_get {q : Loc} {H : List (Nat × Blk)} (h : quietH q H = true) {t : Nat} {v : Blk} (hv : gt t H = some v) : (gt t q.e.H).isSome = true ∨ nmB q.kill v = false := by
  have := List.all_eq_true.1 h (t, v) (gt_memL hv)
  simpa using this
theorem gt_key {α : Type} {t : Nat} {l : List (Nat × α)} (h : (gt t l).isSome = true) : t ∈ l.map (·.1) := by
  obtain ⟨v, hv⟩ := Option.isSome_iff_exists.1 h
  exact List.mem_map.2 ⟨(t, v), gt_memL hv, rfl⟩
theorem disjB_get {a b : List Nat} (h : disjB a b = true) {x : Nat} (hx : x ∈ a) : x ∉ b := by
  have := List.all_eq_true.1 h x hx
  simpa using this

theorem zip_get {α : Type} {l : List α} {i : Nat} {q : α} (h : l[i]? = some q) : (q, i) ∈ l.zipIdx := by
  have : l.zipIdx[i]? = some (q, i) := by simp [List.getElem?_zipIdx, h]
  exact List.mem_of_getElem? this

/-- What is asked of a pair of operations. -/
theorem indep_get {l : List Oper} {s : St} {L : List Loc} (h : indepOk l s L = true) {i j : Nat} {q q' : Loc} (hi : L[i]? = some q) (hj : L[j]? = some q') (hne : j ≠ i) :
    (befB l j i = true ∧ quietW q q'.e.W = true ∧ quietH q q'.e.H = true) ∨ befB l i j = true ∨ (pairOk q q' = true ∧ quietW q q'.e.W = true ∧ quietH q q'.e.H = true) := by
  have h1 := List.all_eq_true.1 h (q, i) (zip_get hi)
  simp only [oneOk, Bool.and_eq_true] at h1
  have h2 := List.all_eq_true.1 h1.2.2 (q', j) (zip_get hj)
  simp only [Bool.or_eq_true, Bool.and_eq_true, beq_iff_eq] at h2
  rcases h2 with h2 | (h2 | h2) | h2
  · exact absurd h2 hne
  · exact .inl ⟨h2.1.1, h2.1.2, h2.2⟩
  · exact .inr (.inl h2)
  · exact .inr (.inr ⟨h2.1.1, h2.1.2, h2.2⟩)
theorem indep_own {l : List Oper} {s : St} {L : List Loc} (h : indepOk l s L = true) {i : Nat} {q : Loc} (hi : L[i]? = some q) : quietW q s.tm = true ∧ quietH q s.hp = true := by
  have h1 := List.all_eq_true.1 h (q, i) (zip_get hi)
  simp only [oneOk, Bool.and_eq_true] at h1
  exact ⟨h1.1, h1.2.1⟩
theorem bef_done {l : List Oper} {D : Nat → Bool} (hdc : ∀ (j : Nat) (o : Oper), l[j]? = some o → D j = true → predsIn o D) {i j : Nat} {o : Oper} (ho : l[i]? = some o) (hp : predsIn o D) (hb : befB l j i = true) : D j = true ∧ j < i := by
  simp only [befB, ho, Bool.and_eq_true, decide_eq_true_eq] at hb
  refine ⟨closeD_all hdc i (edgesOf o) (fun k hk => ?_) j (by simpa using hb.2), hb.1⟩
  obtain ⟨e, he, hbe, rfl⟩ := edgesOf_mem hk
  exact hp e he hbe

/-- A drawn region: the first p operations do what L says, each where it stands; the others come one after the other behind them. -/
theorem awp_drawL {P : Program} {l : List Oper} {rid : Nat} {Q : Exit → St → Prop} {s : St} (L : List Loc) (hm : P.follows .mixedOrders = true) (hb : edgesBack 0 l = true) (ht : tailOk L.length l = true) (hlen : L.length ≤ l.length) (hops : L.map (·.o) = l.take L.length) (hind : indepOk l s L = true)
    (hloc : ∀ (i : Nat) q, L[i]? = some q → LOp P l.toArray (maskE (fun k => decide (k < i)) 0 L s) q)
    (hend : AWpL P l.toArray (l.drop L.length) (Q .normal) (maskE (fun _ => true) 0 L s)) : AWp P (.region rid l.toArray true) Q s := by
  have hL : ∀ (j : Nat) o, j < L.length → l[j]? = some o → ∃ q, L[j]? = some q ∧ q.o = o := by
    intro j o hj ho
    have h1 : (L.map (·.o))[j]? = some o := by rw [hops, List.getElem?_take, if_pos hj]; exact ho
    rw [List.getElem?_map] at h1
    obtain ⟨q, h2, h3⟩ := Option.map_eq_some_iff.1 h1
    exact ⟨q, h2, h3⟩
  have hL' : ∀ (j : Nat) q, L[j]? = some q → j < L.length ∧ l[j]? = some q.o := by
    intro j q hj
    have hjp : j < L.length := (List.getElem?_eq_some_iff.1 hj).1
    refine ⟨hjp, ?_⟩
    have h1 : (L.map (·.o))[j]? = some q.o := by rw [List.getElem?_map, hj]; rfl
    rw [hops, List.getElem?_take, if_pos hjp] at h1
    exact h1
  refine awp_draw hm (by simpa using hb) L.length (by simpa using hlen) (by simpa using ht) (fun D => maskE D 0 L s) ?_ ?_ ?_
  · obtain ⟨f1, f2, f3⟩ := maskE_facts (fun _ => false) L 0 s
    have e1 : ∀ t (d : Option AV), lookW t (fun _ => false) 0 L d = d := by
      have : ∀ (L : List Loc) i t (d : Option AV), lookW t (fun _ => false) i L d = d := by
        intro L; induction L with
        | nil => intros; rfl
        | cons q L ih => intro i t d; simp only [lookW]; exact ih _ _ _
      exact fun t d => this L 0 t d
    have e2 : ∀ t (d : Option Blk), lookH t (fun _ => false) 0 L d = d := by
      have : ∀ (L : List Loc) i t (d : Option Blk), lookH t (fun _ => false) i L d = d := by
        intro L; induction L with
        | nil => intros; rfl
        | cons q L ih => intro i t d; simp only [lookH]; exact ih _ _ _
      exact fun t d => this L 0 t d
    exact ⟨f1, fun t v hv => .inr (by rw [f2, e1] at hv; exact hv), fun κ B hB => by rw [f3, e2] at hB; exact hB⟩
  · intro i o D hip ho hDi hpr hdc
    have ho' : l[i]? = some o := by simpa using ho
    have hdc' : ∀ (j : Nat) (o : Oper), l[j]? = some o → D j = true → predsIn o D := fun j o hj => hdc j o (by simpa using hj)
    obtain ⟨q, hq, rfl⟩ := hL i o hip ho'
    -- how another operation stands to this one
    have stand : ∀ (j : Nat) q', L[j]? = some q' → j ≠ i → (D j = true ∧ j < i ∧ befB l j i = true) ∨ (D j = false ∧ i < j ∧ befB l i j = true) ∨ pairOk q q' = true := by
      intro j q' hj hne
      rcases indep_get hind hq hj hne with h | h | h
      · obtain ⟨h1, h2⟩ := bef_done hdc' ho' hpr h.1
        exact .inl ⟨h1, h2, h.1⟩
      · refine .inr (.inl ⟨?_, ?_, h⟩)
        · cases hDj : D j with
          | false => rfl
          | true =>
            have := (bef_done hdc' (hL' j q' hj).2 (hdc' j _ (hL' j q' hj).2 hDj) h).1
            rw [hDi] at this; cases this
        · simp only [befB, Bool.and_eq_true, decide_eq_true_eq] at h; exact h.1
      · exact .inr (.inr h.1)
    have quiet : ∀ (j : Nat) q', L[j]? = some q' → j ≠ i → D j = true → quietW q q'.e.W = true ∧ quietH q q'.e.H = true := by
      intro j q' hj hne hDj
      rcases indep_get hind hq hj hne with h | h | h
      · exact h.2
      · rcases stand j q' hj hne with h' | h' | h'
        · simp only [befB, Bool.and_eq_true, decide_eq_true_eq] at h; omega
        · rw [h'.1] at hDj; cases hDj
        · have := (bef_done hdc' (hL' j q' hj).2 (hdc' j _ (hL' j q' hj).2 hDj) h).1
          rw [hDi] at this; cases this
      · exact h.2
    obtain ⟨f1, f2, f3⟩ := maskE_facts D L 0 s
    obtain ⟨g1, g2, g3⟩ := maskE_facts (fun k => decide (k < i)) L 0 s
    obtain ⟨k1, k2, k3⟩ := maskE_facts (setD D i) L 0 s
    have own := indep_own hind hq
    refine awpl_mono ?_ (hloc i q hq (maskE D 0 L s) (by rw [f1, g1]) (fun t htr => ?_) (fun κ hκ => ?_) (fun t v hv => ?_) (fun κ B hB => ?_))
    · intro s3 hs3
      refine ⟨by rw [← hs3.1]; simp only [applyE]; rw [k1, f1], fun t v hv => ?_, fun κ B hB => ?_⟩
      · refine hs3.2.1 t v ?_
        simp only [applyE, gt_insL, f2]
        rw [k2] at hv
        cases hg : gt t q.e.W with
        | some u =>
          have := lookW_at (t := t) (D := setD D i) (v := u) (L := L) (b := 0) (j := i) (d := gt t s.tm) hq hg (by simp [setD]) (fun k q' hk hs hik => by
            rw [Nat.zero_add, setD, if_neg (by omega)]
            rcases stand k q' hk (by omega) with h' | h' | h'
            · omega
            · exact h'.1
            · simp only [pairOk, Bool.and_eq_true] at h'
              exact absurd (List.mem_append_right _ (gt_key (by rw [hg]; rfl))) (disjB_get h'.1 (gt_key hs)))
          rw [this] at hv; simpa using hv
        | none =>
          simp only
          rw [← hv]
          refine lookW_congr fun j q' hj hs => ?_
          rw [Nat.zero_add, setD]
          split
          · rename_i e; subst e; rw [hq] at hj; cases hj; rw [hg] at hs; cases hs
          · rfl
      · refine hs3.2.2 κ B ?_
        simp only [applyE, gt_insL, f3]
        rw [k3] at hB
        cases hg : gt κ q.e.H with
        | some u =>
          have := lookH_at (t := κ) (D := setD D i) (v := u) (L := L) (b := 0) (j := i) (d := gt κ s.hp) hq hg (by simp [setD]) (fun k q' hk hs hik => by
            rw [Nat.zero_add, setD, if_neg (by omega)]
            rcases stand k q' hk (by omega) with h' | h' | h'
            · omega
            · exact h'.1
            · simp only [pairOk, Bool.and_eq_true] at h'
              exact absurd (List.mem_append_right _ (gt_key (by rw [hg]; rfl))) (disjB_get h'.2 (gt_key hs)))
          rw [this] at hB; simpa using hB
        | none =>
          simp only
          rw [← hB]
          refine lookH_congr fun j q' hj hs => ?_
          rw [Nat.zero_add, setD]
          split
          · rename_i e; subst e; rw [hq] at hj; cases hj; rw [hg] at hs; cases hs
          · rfl
    · rw [f2, g2]
      refine lookW_congr fun j q' hj hs => ?_
      rw [Nat.zero_add]
      by_cases hji : j = i
      · subst hji; rw [hDi]; simp
      · rcases stand j q' hj hji with h' | h' | h'
        · rw [h'.1]; simp [h'.2.1]
        · rw [h'.1]; simp; omega
        · simp only [pairOk, Bool.and_eq_true] at h'
          exact absurd (List.mem_append_left _ htr) (disjB_get h'.1 (gt_key hs))
    · rw [f3, g3]
      refine lookH_congr fun j q' hj hs => ?_
      rw [Nat.zero_add]
      by_cases hji : j = i
      · subst hji; rw [hDi]; simp
      · rcases stand j q' hj hji with h' | h' | h'
        · rw [h'.1]; simp [h'.2.1]
        · rw [h'.1]; simp; omega
        · simp only [pairOk, Bool.and_eq_true] at h'
          exact absurd (List.mem_append_left _ hκ) (disjB_get h'.2 (gt_key hs))
    · rw [f2] at hv
      rcases lookW_from hv with h' | ⟨j, q', hj, hDj, hvj⟩
      · exact quietW_get own.1 h'
      · rw [Nat.zero_add] at hDj
        have hne : j ≠ i := fun e => by subst e; rw [hDi] at hDj; cases hDj
        exact quietW_get (quiet j q' hj hne hDj).1 hvj
    · rw [f3] at hB
      rcases lookH_from hB with h' | ⟨j, q', hj, hDj, hvj⟩
      · exact quietH_get own.2 h'
      · rw [Nat.zero_add] at hDj
        have hne : j ≠ i := fun e => by subst e; rw [hDi] at hDj; cases hDj
        exact quietH_get (quiet j q' hj hne hDj).2 hvj
  · intro D hD
    have hl : l.toArray.toList.drop L.length = l.drop L.length := by simp
    rw [hl]
    refine awpl_sub ?_ hend
    obtain ⟨f1, f2, f3⟩ := maskE_facts D L 0 s
    obtain ⟨g1, g2, g3⟩ := maskE_facts (fun _ => true) L 0 s
    refine ⟨by rw [g1, f1], fun t v hv => .inr ?_, fun κ B hB => ?_⟩
    · rw [f2]; rw [g2] at hv; rw [← hv]
      exact lookW_congr fun j q' hj _ => by rw [Nat.zero_add, hD j (hL' j q' hj).1]
    · rw [f3]; rw [g3] at hB; rw [← hB]
      exact lookH_congr fun j q' hj _ => by rw [Nat.zero_add, hD j (hL' j q' hj).1]
end Go.Proofs.Ytpdbekbobkjfgaa
