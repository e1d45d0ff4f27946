/-
  An abstract view of the machine, part 1: data without addresses, values of slots, blocks that the call owns, and how they stand for a frame and a world.
  Conditions: none; nothing here speaks of one program.
-/
import Derived.Test.YtpdbekbobkjfgaaNest
namespace Go.Proofs.Ytpdbekbobkjfgaa
open Go.RowKit
set_option linter.unusedVariables false

theorem or_map {a b c : Prop} (f : a → b) (h : a ∨ c) : b ∨ c := by
  rcases h with h | h
  · exact .inl (f h)
  · exact .inr h
theorem or_map2 {a b c : Prop} (f : a → b) (h : c ∨ a) : c ∨ b := by
  rcases h with h | h
  · exact .inl h
  · exact .inr (f h)

/-! ### Lists of pairs, kept in the order of their keys -/
def ins {α : Type} (k : Nat) (v : α) : List (Nat × α) → List (Nat × α)
  | [] => [(k, v)]
  | (k', v') :: l => if k = k' then (k, v) :: l else if k < k' then (k, v) :: (k', v') :: l else (k', v') :: ins k v l
def gt {α : Type} (k : Nat) : List (Nat × α) → Option α
  | [] => none
  | (k', v) :: l => if k = k' then some v else gt k l
def del {α : Type} (k : Nat) : List (Nat × α) → List (Nat × α)
  | [] => []
  | (k', v) :: l => if k = k' then del k l else (k', v) :: del k l
def mapv {α : Type} (f : α → α) : List (Nat × α) → List (Nat × α)
  | [] => []
  | (k, v) :: l => (k, f v) :: mapv f l

theorem gt_ins_same {α : Type} (k : Nat) (v : α) : ∀ l, gt k (ins k v l) = some v
  | [] => by simp [ins, gt]
  | (k', v') :: l => by
    unfold ins
    split
    · simp [gt]
    · split
      · simp [gt]
      · rename_i h _; simp [gt, h, gt_ins_same k v l]
theorem gt_ins_ne {α : Type} {k j : Nat} (v : α) (h : j ≠ k) : ∀ l, gt j (ins k v l) = gt j l
  | [] => by simp [ins, gt, h]
  | (k', v') :: l => by
    unfold ins
    split
    · rename_i e; subst e; simp [gt, h]
    · split
      · simp [gt, h]
      · simp [gt, gt_ins_ne v h l]
theorem gt_ins {α : Type} (k j : Nat) (v : α) (l : List (Nat × α)) : gt j (ins k v l) = if j = k then some v else gt j l := by
  split
  · rename_i h; subst h; exact gt_ins_same _ _ _
  · rename_i h; exact gt_ins_ne _ h _
theorem gt_del_same {α : Type} (k : Nat) : ∀ l : List (Nat × α), gt k (del k l) = none
  | [] => rfl
  | (k', v') :: l => by
    unfold del
    split
    · exact gt_del_same k l
    · rename_i h; simp [gt, h, gt_del_same k l]
theorem gt_del_ne {α : Type} {k j : Nat} (h : j ≠ k) : ∀ l : List (Nat × α), gt j (del k l) = gt j l
  | [] => rfl
  | (k', v') :: l => by
    unfold del
    split
    · rename_i e; subst e; simp [gt, h, gt_del_ne h l]
    · simp [gt, gt_del_ne h l]
theorem gt_del {α : Type} (k j : Nat) (l : List (Nat × α)) : gt j (del k l) = if j = k then none else gt j l := by
  split
  · rename_i h; subst h; exact gt_del_same _ _
  · rename_i h; exact gt_del_ne h _
theorem gt_mapv {α : Type} (f : α → α) (k : Nat) : ∀ l : List (Nat × α), gt k (mapv f l) = (gt k l).map f
  | [] => rfl
  | (k', v') :: l => by
    unfold mapv gt
    split
    · rfl
    · exact gt_mapv f k l

/-! ### Data -/
/-- A value that is read alone: v: one cell without an address; ints, sl: a slice, of integers, of elements of n cells, and its capacity where it is known; agg: a struct or an array. -/
inductive D where
  | v (x : Value)
  | ints (k : IntKind) (xs : List Int) (c : Option Nat)
  | sl (n : Nat) (xs : List D) (c : Option Nat)
  | agg (cs : List D)
  deriving Inhabited

mutual
def RepD (w : World) (F : Nat → Prop) : D → Value → Prop
  | .v x, u => u = x ∧ x.oneCell' = true
  | .ints k xs c, u => ∃ a cap, u = .slice a xs.length cap ∧ xs.length ≤ cap ∧ cap ≤ maxLen ∧ (a = none → cap = 0) ∧ (∀ n, c = some n → cap = n) ∧
      (xs ≠ [] → ∃ b off, a = some ⟨b, off, none⟩ ∧ ¬ F b ∧ ∀ (i : Nat) x, xs[i]? = some x → w.cell? ⟨b, off + i, none⟩ = some (.int k x))
  | .sl n xs c, u => ∃ a cap vals, u = .slice a xs.length cap ∧ xs.length ≤ cap ∧ cap ≤ maxLen ∧ (a = none → cap = 0) ∧ (∀ n, c = some n → cap = n) ∧ RepRow w F (fun v => v.cells.size = n) xs vals ∧
      (vals ≠ [] → ∃ b off, a = some ⟨b, off, none⟩ ∧ ¬ F b ∧ ∀ (i : Nat) x, vals[i]? = some x → w.cell? ⟨b, off + i, none⟩ = some x)
  | .agg cs, u => ∃ us : List Value, u = .agg us.toArray ∧ RepRow w F (fun v => v.oneCell' = true) cs us
termination_by structural d => d
def RepRow (w : World) (F : Nat → Prop) (c : Value → Prop) : List D → List Value → Prop
  | [], vals => vals = []
  | d :: ds, vals => ∃ v rest, vals = v.cells.toList ++ rest ∧ c v ∧ RepD w F d v ∧ RepRow w F c ds rest
termination_by structural ds => ds
end

theorem cell_step {w w' : World} {b o : Nat} {v : Value} (hb : w'.heap[b]? = w.heap[b]?) (h : w.cell? ⟨b, o, none⟩ = some v) : w'.cell? ⟨b, o, none⟩ = some v :=
  (World.cell?_of_block (a := ⟨b, o, none⟩) hb).trans h

/-- Nothing that is read has turned. -/
def Kept (w : World) (F : Nat → Prop) (w' : World) (F' : Nat → Prop) : Prop := ∀ b, b < w.heap.size → ¬ F b → ¬ F' b ∧ w'.heap[b]? = w.heap[b]?

mutual
theorem RepD.kept {w w' : World} {F F' : Nat → Prop} (hk : Kept w F w' F') : ∀ (d : D) (u : Value), RepD w F d u → RepD w' F' d u
  | .v x, u, h => h
  | .ints k xs c, u, h => by
    simp only [RepD] at h ⊢
    obtain ⟨a, cap, h1, h2, h3, h4, h4c, h5⟩ := h
    refine ⟨a, cap, h1, h2, h3, h4, h4c, fun hne => ?_⟩
    obtain ⟨b, off, ha, hF, hc⟩ := h5 hne
    have hb : b < w.heap.size := by
      cases xs with
      | nil => exact absurd rfl hne
      | cons x l => exact cell_lt (hc 0 x (by simp))
    exact ⟨b, off, ha, (hk b hb hF).1, fun i x hx => cell_step (hk b hb hF).2 (hc i x hx)⟩
  | .sl n xs c, u, h => by
    simp only [RepD] at h ⊢
    obtain ⟨a, cap, vals, h1, h2, h3, h4, h4c, hr, h5⟩ := h
    refine ⟨a, cap, vals, h1, h2, h3, h4, h4c, RepRow.kept hk xs vals hr, fun hne => ?_⟩
    obtain ⟨b, off, ha, hF, hc⟩ := h5 hne
    have hb : b < w.heap.size := by
      cases vals with
      | nil => exact absurd rfl hne
      | cons x l => exact cell_lt (hc 0 x (by simp))
    exact ⟨b, off, ha, (hk b hb hF).1, fun i x hx => cell_step (hk b hb hF).2 (hc i x hx)⟩
  | .agg cs, u, h => by
    simp only [RepD] at h ⊢
    obtain ⟨us, h1, h2⟩ := h
    exact ⟨us, h1, RepRow.kept hk cs us h2⟩
theorem RepRow.kept {w w' : World} {F F' : Nat → Prop} {c : Value → Prop} (hk : Kept w F w' F') : ∀ (ds : List D) (vals : List Value), RepRow w F c ds vals → RepRow w' F' c ds vals
  | [], vals, h => by simpa only [RepRow] using h
  | d :: ds, vals, h => by
    simp only [RepRow] at h ⊢
    obtain ⟨v, rest, h1, h2, h3, h4⟩ := h
    exact ⟨v, rest, h1, h2, RepD.kept hk d v h3, RepRow.kept hk ds rest h4⟩
end

theorem rangeN1 : List.range 1 = [0] := rfl
theorem rangeN2 : List.range 2 = [0, 1] := rfl
theorem rangeN3 : List.range 3 = [0, 1, 2] := rfl

/-! ### Values of slots, blocks -/
/-- What wraps a value: an interface of a type; a method of an interface's value. -/
inductive Wr where
  | ifc (t : TypeId)
  | mth (name : String)
  deriving Inhabited
def Wr.val : Wr → Value → Value
  | .ifc t, u => .iface t u
  | .mth n, u => .func (.method n) #[u] #[]
theorem Wr.one (k : Wr) (u : Value) : (k.val u).oneCell' = true := by cases k <;> rfl
/-- d: data; ptr: a cell of an own block; own: the slice that an own row is; pel: the address of a cell of an own row; eaddr: an address that is only read; bot: nothing is said. -/
inductive AV where
  | d (x : D)
  | ptr (κ : Nat) (off : Nat)
  | own (κ : Nat)
  | pel (κ : Nat) (off : Nat)
  | eaddr (x : D)
  | agg (cs : List AV)
  | tup (vs : List AV)
  | clos (f : FuncId) (caps : List AV)
  | wrap (k : Wr) (v : AV)
  | bot
  deriving Inhabited

inductive Blk where
  | box (e : TypeId) (cs : List AV)
  | ints (e : TypeId) (k : IntKind) (xs : List Int) (c : Option Nat)
  | row (e : TypeId) (n : Nat) (xs : List D) (c : Option Nat)
  deriving Inhabited

def blkOf : Value → Option Nat
  | .slice (some a) _ cap => if cap = 0 then none else some a.block
  | .pointer (some a) => some a.block
  | _ => none

/-- A slice that the call owns: no cell at all, or a block of its own. -/
def OwnRow (w : World) (e : TypeId) (size : Nat) (v : Value) (n : Nat) (vals : List Value) : Prop :=
  vals.length = n * size ∧
  ((n = 0 ∧ ∃ a, v = .slice a 0 0) ∨
   ∃ g cap cur, v = .slice (some ⟨g, 0, none⟩) n cap ∧ 0 < cap ∧ w.heap[g]? = some (.cells cur e (0, 0)) ∧ n ≤ cap ∧ cap ≤ maxLen ∧ cur.size = cap * size ∧ cur.toList.take (n * size) = vals)

theorem OwnRow.lt {w : World} {e : TypeId} {size : Nat} {v : Value} {n : Nat} {vals : List Value} (h : OwnRow w e size v n vals) {b : Nat} (hb : blkOf v = some b) : b < w.heap.size := by
  rcases h.2 with ⟨_, a, rfl⟩ | ⟨g, cap, cur, rfl, h0, h2, _⟩
  · cases a <;> simp [blkOf] at hb
  · have : cap ≠ 0 := by omega
    simp [blkOf, this] at hb; subst hb; exact (Array.getElem?_eq_some_iff.1 h2).1

theorem OwnRow.kept {w w' : World} {e : TypeId} {size : Nat} {v : Value} {n : Nat} {xs : List Value} (h : OwnRow w e size v n xs) (hb : ∀ b, blkOf v = some b → b < w.heap.size → w'.heap[b]? = w.heap[b]?) : OwnRow w' e size v n xs := by
  refine ⟨h.1, ?_⟩
  rcases h.2 with h2 | ⟨g, cap, cur, hv, h0, hh, r⟩
  · exact .inl h2
  · have hc : cap ≠ 0 := by omega
    have hv' : blkOf v = some g := by rw [hv]; simp [blkOf, hc]
    exact .inr ⟨g, cap, cur, hv, h0, by rw [hb g hv' (Array.getElem?_eq_some_iff.1 hh).1]; exact hh, r⟩

theorem OwnRow.oneCell {w : World} {e : TypeId} {size : Nat} {v : Value} {n : Nat} {xs : List Value} (h : OwnRow w e size v n xs) : v.oneCell' = true := by
  rcases h.2 with ⟨_, a, rfl⟩ | ⟨g, cap, cur, rfl, _⟩ <;> rfl

theorem OwnRow.cells {w : World} {e : TypeId} {size : Nat} {v : Value} {n : Nat} {xs : List Value} (h : OwnRow w e size v n xs) :
    ∃ a cap, v = .slice a n cap ∧ n ≤ cap ∧ cap ≤ maxLen ∧ (a = none → cap = 0) ∧ (xs ≠ [] → ∃ b, a = some ⟨b, 0, none⟩ ∧ blkOf v = some b ∧ w.heap[b]?.isSome = true ∧ ∀ (i : Nat) x, xs[i]? = some x → w.cell? ⟨b, 0 + i, none⟩ = some x) := by
  have hl := h.1
  rcases h.2 with ⟨rfl, a, rfl⟩ | ⟨g, cap, cur, rfl, h0, hg, hn, hm, hs, ht⟩
  · refine ⟨a, 0, rfl, Nat.le_refl _, Nat.zero_le _, fun _ => rfl, fun hx => ?_⟩
    have : xs = [] := List.eq_nil_of_length_eq_zero (by omega)
    exact absurd this hx
  · have hc : cap ≠ 0 := by omega
    refine ⟨some ⟨g, 0, none⟩, cap, rfl, hn, hm, by simp, fun _ => ⟨g, rfl, by simp [blkOf, hc], by simp [hg], fun i u hu => ?_⟩⟩
    rw [cell_of_row w g (0 + i) cur e (0, 0) hg]
    rw [← ht, List.getElem?_take] at hu
    split at hu
    · simpa using hu
    · cases hu

mutual
def RepV (w : World) (F : Nat → Prop) (m : Nat → Value) : AV → Value → Prop
  | .d x, u => RepD w F x u
  | .ptr κ off, u => ∃ b, m κ = .pointer (some ⟨b, 0, none⟩) ∧ u = .pointer (some ⟨b, off, none⟩)
  | .own κ, u => u = m κ ∧ u.oneCell' = true
  | .pel κ off, u => ∃ b n cap, m κ = .slice (some ⟨b, 0, none⟩) n cap ∧ u = .pointer (some ⟨b, off, none⟩)
  | .eaddr x, u => ∃ b off v, u = .pointer (some ⟨b, off, none⟩) ∧ ¬ F b ∧ RepD w F x v ∧ b < w.heap.size ∧ ∀ (i : Nat) c, v.cells[i]? = some c → w.cell? ⟨b, off + i, none⟩ = some c
  | .agg cs, u => ∃ us : List Value, u = .agg us.toArray ∧ RepVs w F m cs us ∧ ∀ v ∈ us, v.oneCell' = true
  | .tup vs, u => ∃ us : List Value, u = .tuple us.toArray ∧ RepVs w F m vs us
  | .clos f caps, u => ∃ us : List Value, u = .func (.func f) #[] us.toArray ∧ RepVs w F m caps us
  | .wrap k v, u => ∃ u0, u = k.val u0 ∧ RepV w F m v u0
  | .bot, _ => True
termination_by structural v => v
def RepVs (w : World) (F : Nat → Prop) (m : Nat → Value) : List AV → List Value → Prop
  | [], us => us = []
  | v :: vs, us => ∃ u rest, us = u :: rest ∧ RepV w F m v u ∧ RepVs w F m vs rest
termination_by structural vs => vs
end

mutual
/-- What names the block κ is forgotten. -/
def killV (κ : Nat) : AV → AV
  | .d x => .d x
  | .ptr κ' off => if κ' = κ then .bot else .ptr κ' off
  | .own κ' => if κ' = κ then .bot else .own κ'
  | .pel κ' off => if κ' = κ then .bot else .pel κ' off
  | .eaddr x => .eaddr x
  | .agg cs => .agg (killVs κ cs)
  | .tup vs => .tup (killVs κ vs)
  | .clos f caps => .clos f (killVs κ caps)
  | .wrap k v => .wrap k (killV κ v)
  | .bot => .bot
termination_by structural v => v
def killVs (κ : Nat) : List AV → List AV
  | [] => []
  | v :: vs => killV κ v :: killVs κ vs
termination_by structural vs => vs
end

mutual
theorem RepV.kept {w w' : World} {F F' : Nat → Prop} {m : Nat → Value} (hk : Kept w F w' F') (hs : w.heap.size ≤ w'.heap.size) : ∀ (v : AV) (u : Value), RepV w F m v u → RepV w' F' m v u
  | .d x, u, h => by simp only [RepV] at h ⊢; exact RepD.kept hk x u h
  | .ptr κ off, u, h => by simpa only [RepV] using h
  | .own κ, u, h => by simpa only [RepV] using h
  | .pel κ off, u, h => by simpa only [RepV] using h
  | .eaddr x, u, h => by
    simp only [RepV] at h ⊢
    obtain ⟨b, off, v, h1, h2, h3, h4, h5⟩ := h
    exact ⟨b, off, v, h1, (hk b h4 h2).1, RepD.kept hk x v h3, by omega, fun i c hc => cell_step (hk b h4 h2).2 (h5 i c hc)⟩
  | .agg cs, u, h => by
    simp only [RepV] at h ⊢
    obtain ⟨us, h1, h2, h3⟩ := h
    exact ⟨us, h1, RepVs.kept hk hs cs us h2, h3⟩
  | .tup vs, u, h => by
    simp only [RepV] at h ⊢
    obtain ⟨us, h1, h2⟩ := h
    exact ⟨us, h1, RepVs.kept hk hs vs us h2⟩
  | .clos f caps, u, h => by
    simp only [RepV] at h ⊢
    obtain ⟨us, h1, h2⟩ := h
    exact ⟨us, h1, RepVs.kept hk hs caps us h2⟩
  | .wrap k v, u, h => by
    simp only [RepV] at h ⊢
    obtain ⟨u0, h1, h2⟩ := h
    exact ⟨u0, h1, RepV.kept hk hs v u0 h2⟩
  | .bot, u, h => by simp only [RepV]
theorem RepVs.kept {w w' : World} {F F' : Nat → Prop} {m : Nat → Value} (hk : Kept w F w' F') (hs : w.heap.size ≤ w'.heap.size) : ∀ (vs : List AV) (us : List Value), RepVs w F m vs us → RepVs w' F' m vs us
  | [], us, h => by simpa only [RepVs] using h
  | v :: vs, us, h => by
    simp only [RepVs] at h ⊢
    obtain ⟨u, rest, h1, h2, h3⟩ := h
    exact ⟨u, rest, h1, RepV.kept hk hs v u h2, RepVs.kept hk hs vs rest h3⟩
end

mutual
theorem RepV.kill {w : World} {F : Nat → Prop} {m m' : Nat → Value} {κ : Nat} (hm : ∀ j, j ≠ κ → m' j = m j) : ∀ (v : AV) (u : Value), RepV w F m v u → RepV w F m' (killV κ v) u
  | .d x, u, h => by simpa only [killV, RepV] using h
  | .ptr κ' off, u, h => by
    simp only [killV]; split
    · simp only [RepV]
    · rename_i hne; simpa only [RepV, hm κ' hne] using h
  | .own κ', u, h => by
    simp only [killV]; split
    · simp only [RepV]
    · rename_i hne; simpa only [RepV, hm κ' hne] using h
  | .pel κ' off, u, h => by
    simp only [killV]; split
    · simp only [RepV]
    · rename_i hne; simpa only [RepV, hm κ' hne] using h
  | .eaddr x, u, h => by simpa only [killV, RepV] using h
  | .agg cs, u, h => by
    simp only [killV, RepV] at h ⊢
    obtain ⟨us, h1, h2, h3⟩ := h
    exact ⟨us, h1, RepVs.kill hm cs us h2, h3⟩
  | .tup vs, u, h => by
    simp only [killV, RepV] at h ⊢
    obtain ⟨us, h1, h2⟩ := h
    exact ⟨us, h1, RepVs.kill hm vs us h2⟩
  | .clos f caps, u, h => by
    simp only [killV, RepV] at h ⊢
    obtain ⟨us, h1, h2⟩ := h
    exact ⟨us, h1, RepVs.kill hm caps us h2⟩
  | .wrap k v, u, h => by
    simp only [killV, RepV] at h ⊢
    obtain ⟨u0, h1, h2⟩ := h
    exact ⟨u0, h1, RepV.kill hm v u0 h2⟩
  | .bot, u, h => by simp only [killV, RepV]
theorem RepVs.kill {w : World} {F : Nat → Prop} {m m' : Nat → Value} {κ : Nat} (hm : ∀ j, j ≠ κ → m' j = m j) : ∀ (vs : List AV) (us : List Value), RepVs w F m vs us → RepVs w F m' (killVs κ vs) us
  | [], us, h => by simpa only [killVs, RepVs] using h
  | v :: vs, us, h => by
    simp only [killVs, RepVs] at h ⊢
    obtain ⟨u, rest, h1, h2, h3⟩ := h
    exact ⟨u, rest, h1, RepV.kill hm v u h2, RepVs.kill hm vs rest h3⟩
end

def killB (κ : Nat) : Blk → Blk
  | .box e cs => .box e (killVs κ cs)
  | b => b

/-- The capacity of a slice, where it is known. -/
def CapIs (c : Option Nat) (u : Value) : Prop := ∀ n, c = some n → ∃ a l, u = .slice a l n

/-- The block number κ stands for B. -/
def RepB (w : World) (F : Nat → Prop) (m : Nat → Value) (κ : Nat) : Blk → Prop
  | .box e cs => ∃ b c, m κ = .pointer (some ⟨b, 0, none⟩) ∧ w.heap[b]? = some (.cells c e (0, 0)) ∧ RepVs w F m cs c.toList ∧ (∀ v ∈ c, v.oneCell' = true)
  | .ints e k xs c => OwnRow w e 1 (m κ) xs.length (xs.map (.int k)) ∧ CapIs c (m κ)
  | .row e n xs c => ∃ vals, OwnRow w e n (m κ) xs.length vals ∧ CapIs c (m κ) ∧ RepRow w F (fun v => v.cells.size = n) xs vals

structure St where
  n : Nat
  tm : List (Nat × AV)
  hp : List (Nat × Blk)

/-- What a call began with: the world; the blocks that it may turn; blocks that its data must stay out of; blocks that stay where they are. -/
structure Ctx where
  w0 : World
  S : Nat → Prop
  X : Nat → Prop
  pin : Nat → Option Value

def Owned (m : Nat → Value) (hp : List (Nat × Blk)) (b : Nat) : Prop := ∃ κ B, gt κ hp = some B ∧ blkOf (m κ) = some b
def Forb (c : Ctx) (m : Nat → Value) (hp : List (Nat × Blk)) (b : Nat) : Prop := c.X b ∨ Owned m hp b

structure SRep (c : Ctx) (m : Nat → Value) (s : St) (a : Act) (w : World) : Prop where
  defers : a.defers = []
  nt : a.tmps.size = s.n
  slot : ∀ t v, gt t s.tm = some v → RepV w (Forb c m s.hp) m v (a.tmps.getD t undef)
  heap : ∀ κ B, gt κ s.hp = some B → RepB w (Forb c m s.hp) m κ B
  sep : ∀ κ κ' B B' b, gt κ s.hp = some B → gt κ' s.hp = some B' → κ ≠ κ' → blkOf (m κ) = some b → blkOf (m κ') ≠ some b
  nox : ∀ κ B b, gt κ s.hp = some B → blkOf (m κ) = some b → ¬ c.X b
  old : ∀ κ B b, gt κ s.hp = some B → blkOf (m κ) = some b → c.S b ∨ c.w0.heap.size ≤ b
  fr : Fr c.S c.w0 w
  xlt : ∀ b, c.X b → b < c.w0.heap.size
  pin : ∀ κ v, c.pin κ = some v → m κ = v
  pinp : ∀ κ v, c.pin κ = some v → κ < 16 ∧ ∃ b, v = .pointer b

theorem RepB.lt {w : World} {F : Nat → Prop} {m : Nat → Value} {κ : Nat} {B : Blk} (h : RepB w F m κ B) {b : Nat} (hb : blkOf (m κ) = some b) : b < w.heap.size := by
  cases B with
  | box e cs =>
    obtain ⟨b', c, h1, h2, _⟩ := h
    rw [h1] at hb; simp [blkOf] at hb; subst hb
    exact (Array.getElem?_eq_some_iff.1 h2).1
  | ints e k xs c => exact h.1.lt hb
  | row e n xs c =>
    obtain ⟨vals, h, _⟩ := h
    exact h.lt hb

/-- A block that nobody has turned. -/
theorem RepB.kept {w w' : World} {F F' : Nat → Prop} {m : Nat → Value} {κ : Nat} {B : Blk} (hk : Kept w F w' F') (hs : w.heap.size ≤ w'.heap.size)
    (hb : ∀ b, blkOf (m κ) = some b → b < w.heap.size → w'.heap[b]? = w.heap[b]?) (h : RepB w F m κ B) : RepB w' F' m κ B := by
  cases B with
  | box e cs =>
    obtain ⟨b', c, h1, h2, h3, h4⟩ := h
    exact ⟨b', c, h1, by rw [hb b' (by rw [h1]; rfl) (Array.getElem?_eq_some_iff.1 h2).1]; exact h2, RepVs.kept hk hs _ _ h3, h4⟩
  | ints e k xs c => exact ⟨h.1.kept hb, h.2⟩
  | row e n xs c =>
    obtain ⟨vals, h, hc, h2⟩ := h
    exact ⟨vals, h.kept hb, hc, RepRow.kept hk _ _ h2⟩

theorem RepB.kill {w : World} {F : Nat → Prop} {m m' : Nat → Value} {κ j : Nat} {B : Blk} (hm : ∀ j, j ≠ κ → m' j = m j) (hj : j ≠ κ) (h : RepB w F m j B) : RepB w F m' j (killB κ B) := by
  cases B with
  | box e cs =>
    obtain ⟨b', c, h1, h2, h3, h4⟩ := h
    exact ⟨b', c, by rw [hm j hj]; exact h1, h2, RepVs.kill hm _ _ h3, h4⟩
  | ints e k xs c => simp only [killB, RepB, hm j hj] at h ⊢; exact h
  | row e n xs c => simp only [killB, RepB, hm j hj] at h ⊢; exact h

end Go.Proofs.Ytpdbekbobkjfgaa
