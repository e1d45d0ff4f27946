/-
  Slices of slices of integers: how they read, and the laws on append and stores that go with them.
  Conditions: none; nothing here speaks of one program.
-/
import Derived.Test.YtpdbekbobkjfgaaBase
import Derived.Deep.AppendLies
import Derived.Deep.RegionLaw
import Derived.Deep.RegionHeld3
namespace Go.Proofs.Ytpdbekbobkjfgaa
open Go.RowKit
set_option linter.unusedVariables false

theorem Cells.atIdx {w : World} {α : Type} {b off i : Nat} {l : List α} {f : α → Value} {x : α} (h : Cells w (some ⟨b, off, none⟩) (l.map f)) (hx : l[i]? = some x) : w.cell? ⟨b, off + i, none⟩ = some (f x) := by
  have hm : (l.map f)[i]? = some (f x) := by rw [List.getElem?_map, hx]; rfl
  obtain ⟨b', off', hh, hcc⟩ := h (by intro e; rw [e] at hm; simp at hm)
  simp only [Option.some.injEq, Addr.mk.injEq, and_true] at hh
  obtain ⟨rfl, rfl⟩ := hh
  exact hcc i _ hm

theorem Cells.getV {w : World} {a : Option Addr} {l : List Value} (h : Cells w a l) {k : Nat} (hk : k < l.length) :
    ∃ b off x, a = some ⟨b, off, none⟩ ∧ l[k]? = some x ∧ w.cell? ⟨b, off + k, none⟩ = some x ∧ b < w.heap.size := by
  have h' : Cells w a (l.map id) := by simpa using h
  obtain ⟨b, off, x, h1, h2, _, h3, h4⟩ := h'.get hk
  exact ⟨b, off, x, h1, h2, h3, h4⟩

theorem blk_new' {w : World} {o : Obj} {k : Nat} (h : k = w.heap.size) : (w.alloc o).heap[k]? = some o := by subst h; exact blk_new w o

/-- Of what was there, nothing has turned but in the blocks of S. -/
structure Fr (S : Nat → Prop) (w w' : World) : Prop where
  os : w'.os = w.os
  tape : w'.tape = w.tape
  output : w'.output = w.output
  size : w.heap.size ≤ w'.heap.size
  block : ∀ k, k < w.heap.size → ¬ S k → w'.heap[k]? = w.heap[k]?

theorem Fr.refl (S : Nat → Prop) (w : World) : Fr S w w := ⟨rfl, rfl, rfl, Nat.le_refl _, fun _ _ _ => rfl⟩
theorem Fr.trans {S : Nat → Prop} {a b c : World} (h : Fr S a b) (k : Fr S b c) : Fr S a c :=
  ⟨k.os.trans h.os, k.tape.trans h.tape, k.output.trans h.output, Nat.le_trans h.size k.size, fun i hi hn => (k.block i (Nat.lt_of_lt_of_le hi h.size) hn).trans (h.block i hi hn)⟩
theorem Fr.mono {S S' : Nat → Prop} {a b : World} (h : Fr S a b) (hs : ∀ k, k < a.heap.size → S k → S' k) : Fr S' a b :=
  ⟨h.os, h.tape, h.output, h.size, fun k hk hn => h.block k hk (fun hS => hn (hs k hk hS))⟩
theorem Fr.below {S : Nat → Prop} {a b : World} {B : Nat} (h : Fr S a b) (hB : B ≤ a.heap.size) (hs : ∀ k, S k → B ≤ k) : Below B a b :=
  ⟨h.os, h.tape, h.output, h.size, fun k hk => h.block k (Nat.lt_of_lt_of_le hk hB) (fun hS => by have := hs k hS; omega)⟩
theorem Fr.ofBelow {S : Nat → Prop} {a b : World} (h : Below a.heap.size a b) : Fr S a b := ⟨h.os, h.tape, h.output, h.size, fun k hk _ => h.block k hk⟩
theorem Fr.ofGrown {S : Nat → Prop} {a b : World} {row : Option Nat} (h : a.grownBy b row) (hs : ∀ k, row = some k → S k) : Fr S a b :=
  ⟨h.os, h.tape, h.output, h.size, fun k hk hn => h.block k hk (fun e => hn (hs k e.symm))⟩
theorem Fr.alloc (S : Nat → Prop) (w : World) (o : Obj) : Fr S w (w.alloc o) := Fr.ofBelow ((Below.refl _ w).alloc (Nat.le_refl _) o)
theorem Fr.setCell {S : Nat → Prop} (w : World) (a : Addr) (v : Value) (h : S a.block) : Fr S w (w.setCell a v) :=
  ⟨rfl, rfl, rfl, by simp [World.setCell], fun k _ hn => Below.heap_setCell _ _ _ _ (fun e => hn (e ▸ h))⟩
theorem Fr.drewN (S : Nat → Prop) (w : World) (n : Nat) : Fr S w (w.drewN n) := Fr.ofBelow (drewN_below (Below.refl _ _))
/-- A block outside S. -/
theorem Fr.kb {S : Nat → Prop} {a b : World} (h : Fr S a b) {k : Nat} {o : Obj} (hk : a.heap[k]? = some o) (hn : ¬ S k) : b.heap[k]? = some o := by
  rw [h.block k (Array.getElem?_eq_some_iff.1 hk).1 hn]; exact hk

/-- A store into a block that is known whole. -/
theorem blk_set {w : World} {b o : Nat} {cs : Array Value} {e : TypeId} {fr : Nat × Nat} (h : w.heap[b]? = some (.cells cs e fr)) (v : Value) : (w.setCell ⟨b, o, none⟩ v).heap[b]? = some (.cells (cs.setIfInBounds o v) e fr) := by
  simp [World.setCell, Array.getElem?_modify, h]

/-- A slice value that reads as the integers l. -/
def RowIs (k : IntKind) (w : World) (v : Value) (l : List Int) : Prop :=
  ∃ a cap, v = .slice a l.length cap ∧ l.length ≤ cap ∧ cap ≤ maxLen ∧ (a = none → cap = 0) ∧ Cells w a (l.map (.int k))

theorem RowIs.below {k : IntKind} {w w' : World} {v : Value} {l : List Int} (h : RowIs k w v l) (hb : Below w.heap.size w w') : RowIs k w' v l := by
  obtain ⟨a, cap, h1, h2, h3, h4, h5⟩ := h
  exact ⟨a, cap, h1, h2, h3, h4, h5.below hb⟩

/-- Slice values that read, one by one, as the lists ll. -/
def Rows (k : IntKind) (w : World) : List Value → List (List Int) → Prop
  | [], [] => True
  | v :: vs, l :: ll => RowIs k w v l ∧ Rows k w vs ll
  | _, _ => False

theorem Rows.length {k : IntKind} {w : World} : ∀ {vs : List Value} {ll : List (List Int)}, Rows k w vs ll → vs.length = ll.length
  | [], [], _ => rfl
  | _ :: _, _ :: _, h => by simp [Rows.length h.2]

theorem Rows.below {k : IntKind} {w w' : World} (hb : Below w.heap.size w w') : ∀ {vs : List Value} {ll : List (List Int)}, Rows k w vs ll → Rows k w' vs ll
  | [], [], _ => trivial
  | _ :: _, _ :: _, h => ⟨h.1.below hb, Rows.below hb h.2⟩

theorem Rows.get {k : IntKind} {w : World} : ∀ {vs : List Value} {ll : List (List Int)}, Rows k w vs ll → ∀ {i : Nat} {v : Value}, vs[i]? = some v → ∃ l, ll[i]? = some l ∧ RowIs k w v l
  | v :: vs, l :: ll, h, 0, u, hu => by simp at hu; subst hu; exact ⟨l, by simp, h.1⟩
  | v :: vs, l :: ll, h, i + 1, u, hu => by
    obtain ⟨m, h1, h2⟩ := Rows.get h.2 (i := i) (by simpa using hu)
    exact ⟨m, by simpa using h1, h2⟩
  | [], [], _, i, u, hu => by simp at hu

theorem Rows.append {k : IntKind} {w : World} : ∀ {vs : List Value} {ll : List (List Int)} {vs' : List Value} {ll' : List (List Int)}, Rows k w vs ll → Rows k w vs' ll' → Rows k w (vs ++ vs') (ll ++ ll')
  | [], [], _, _, _, h' => h'
  | _ :: _, _ :: _, _, _, h, h' => ⟨h.1, Rows.append h.2 h'⟩

theorem Rows.take {k : IntKind} {w : World} : ∀ {vs : List Value} {ll : List (List Int)}, Rows k w vs ll → ∀ n, Rows k w (vs.take n) (ll.take n)
  | [], [], _, n => by simp [Rows]
  | _ :: _, _ :: _, h, 0 => by simp [Rows]
  | _ :: _, _ :: _, h, n + 1 => ⟨h.1, Rows.take h.2 n⟩

theorem Rows.drop {k : IntKind} {w : World} : ∀ {vs : List Value} {ll : List (List Int)}, Rows k w vs ll → ∀ n, Rows k w (vs.drop n) (ll.drop n)
  | [], [], _, n => by simp [Rows]
  | _ :: _, _ :: _, h, 0 => h
  | _ :: _, _ :: _, h, n + 1 => Rows.drop h.2 n

theorem Rows.one {k : IntKind} {w : World} {v : Value} {l : List Int} (h : RowIs k w v l) : Rows k w [v] [l] := ⟨h, trivial⟩

theorem RowIs.oneCell {k : IntKind} {w : World} {v : Value} {l : List Int} (h : RowIs k w v l) : v.oneCell' = true := by
  obtain ⟨a, cap, rfl, _⟩ := h; rfl

theorem Rows.oneCell {k : IntKind} {w : World} : ∀ {vs : List Value} {ll : List (List Int)}, Rows k w vs ll → ∀ v ∈ vs, v.oneCell' = true
  | [], [], _, v, hv => by simp at hv
  | u :: vs, l :: ll, h, v, hv => by
    rcases List.mem_cons.1 hv with rfl | hv
    · exact h.1.oneCell
    · exact Rows.oneCell h.2 v hv

/-- Slices that the call itself has made, each in a block of its own from 'base' on. -/
def OwnRows (k : IntKind) (e : TypeId) (base : Nat) (w : World) : List Value → List (List Int) → Prop
  | [], [] => True
  | v :: vs, l :: ll => w.ownsRow base e 1 v l.length (l.map (.int k)) ∧ OwnRows k e base w vs ll
  | _, _ => False

theorem own_row {k : IntKind} {e : TypeId} {base : Nat} {w : World} {v : Value} {l : List Int} (h : w.ownsRow base e 1 v l.length (l.map (.int k))) : RowIs k w v l := by
  obtain ⟨a, cap, rfl, hc, _, hn⟩ := own_view h
  refine ⟨a, cap, rfl, hn, ?_, ?_, hc⟩
  · rcases h.2 with ⟨h', _⟩ | ⟨g, cap', cur, h', _, _, _, hm, _⟩
    · simp only [Value.slice.injEq] at h'; rw [h'.2.2]; exact Nat.zero_le _
    · simp only [Value.slice.injEq] at h'; rw [h'.2.2]; exact hm
  · intro ha
    rcases h.2 with ⟨h', _⟩ | ⟨g, cap', cur, h', _⟩
    · simp only [Value.slice.injEq] at h'; exact h'.2.2
    · simp only [Value.slice.injEq] at h'; rw [ha] at h'; simp at h'

theorem row_own {k : IntKind} {e : TypeId} {base n : Nat} {w : World} {v : Value} {xs : List Value} {l : List Int} (h : w.ownsRow base e 1 v n xs) (hx : xs = l.map (.int k)) : RowIs k w v l := by
  have := own_len h
  subst hx
  rw [List.length_map] at this
  subst this
  exact own_row h

theorem OwnRows.rows {k : IntKind} {e : TypeId} {base : Nat} {w : World} : ∀ {vs : List Value} {ll : List (List Int)}, OwnRows k e base w vs ll → Rows k w vs ll
  | [], [], _ => trivial
  | _ :: _, _ :: _, h => ⟨own_row h.1, OwnRows.rows h.2⟩

theorem OwnRows.base {k : IntKind} {e : TypeId} {base base' : Nat} {w : World} (hb : base' ≤ base) : ∀ {vs : List Value} {ll : List (List Int)}, OwnRows k e base w vs ll → OwnRows k e base' w vs ll
  | [], [], _ => trivial
  | _ :: _, _ :: _, h => ⟨own_base h.1 hb, OwnRows.base hb h.2⟩

theorem ownsRow_below {w w' : World} {base : Nat} {e : TypeId} {size : Nat} {v : Value} {n : Nat} {xs : List Value} (h : w.ownsRow base e size v n xs) (hb : Below w.heap.size w w') : w'.ownsRow base e size v n xs := by
  refine ⟨h.1, ?_⟩
  rcases h.2 with h2 | ⟨g, cap, cur, hv, hg, hh, r⟩
  · exact .inl h2
  · exact .inr ⟨g, cap, cur, hv, hg, by rw [hb.block g (Array.getElem?_eq_some_iff.1 hh).1]; exact hh, r⟩

theorem OwnRows.below {k : IntKind} {e : TypeId} {base : Nat} {w w' : World} (hb : Below w.heap.size w w') : ∀ {vs : List Value} {ll : List (List Int)}, OwnRows k e base w vs ll → OwnRows k e base w' vs ll
  | [], [], _ => trivial
  | _ :: _, _ :: _, h => ⟨ownsRow_below h.1 hb, OwnRows.below hb h.2⟩

theorem OwnRows.kept {k : IntKind} {e : TypeId} {base : Nat} {w w' : World} {row : Option Nat} (hg : w.grownBy w' row) : ∀ {vs : List Value} {ll : List (List Int)}, OwnRows k e base w vs ll → (∀ v ∈ vs, ∀ g, v.ownBlock = some g → some g ≠ row) → OwnRows k e base w' vs ll
  | [], [], _, _ => trivial
  | v :: _, _ :: _, h, hne => ⟨h.1.kept hg (by
      cases hv : v.ownBlock with
      | none => exact .inl rfl
      | some g => exact .inr (hne v (by simp) g hv)), OwnRows.kept hg h.2 (fun u hu => hne u (by simp [hu]))⟩

theorem OwnRows.append {k : IntKind} {e : TypeId} {base : Nat} {w : World} : ∀ {vs : List Value} {ll : List (List Int)} {vs' : List Value} {ll' : List (List Int)}, OwnRows k e base w vs ll → OwnRows k e base w vs' ll' → OwnRows k e base w (vs ++ vs') (ll ++ ll')
  | [], [], _, _, _, h' => h'
  | _ :: _, _ :: _, _, _, h, h' => ⟨h.1, OwnRows.append h.2 h'⟩

theorem OwnRows.lt {k : IntKind} {e : TypeId} {base : Nat} {w : World} : ∀ {vs : List Value} {ll : List (List Int)}, OwnRows k e base w vs ll → ∀ v ∈ vs, ∀ g, v.ownBlock = some g → base ≤ g ∧ g < w.heap.size
  | [], [], _, v, hv => by simp at hv
  | u :: vs, l :: ll, h, v, hv => by
    rcases List.mem_cons.1 hv with rfl | hv
    · exact h.1.lt
    · exact OwnRows.lt h.2 v hv

theorem OwnRows.setBelow {k : IntKind} {e : TypeId} {base : Nat} {w : World} {a : Addr} (ha : a.block < base) (u : Value) : ∀ {vs : List Value} {ll : List (List Int)}, OwnRows k e base w vs ll → OwnRows k e base (w.setCell a u) vs ll
  | [], [], _ => trivial
  | _ :: _, _ :: _, h => ⟨ownsRow_setCell_below h.1 ha u, OwnRows.setBelow ha u h.2⟩

/-- A slice of the call's own, whatever its elements' size. -/
theorem own_val {w : World} {base : Nat} {e : TypeId} {size : Nat} {v : Value} {n : Nat} {xs : List Value} (h : w.ownsRow base e size v n xs) : ∃ a cap, v = .slice a n cap ∧ Cells w a xs ∧ n ≤ cap ∧ cap ≤ maxLen ∧ (a = none → cap = 0) := by
  have hl := h.1
  rcases h.2 with ⟨rfl, rfl⟩ | ⟨g, cap, cur, rfl, hb, hg, hn, hm, hs, ht⟩
  · simp only [Nat.zero_mul] at hl
    have : xs = [] := List.eq_nil_of_length_eq_zero hl
    subst this
    exact ⟨none, 0, rfl, Cells.nil _ _, Nat.le_refl _, Nat.zero_le _, fun _ => rfl⟩
  · refine ⟨some ⟨g, 0, none⟩, cap, rfl, fun _ => ⟨g, 0, rfl, fun i u hu => ?_⟩, hn, hm, by simp⟩
    have := h.cells (g := g) rfl i u hu
    unfold Addr.add at this
    split at this <;> simp_all

/-- Rows of two element types never lie in one block. -/
theorem own_sep {w : World} {b b' : Nat} {e e' : TypeId} {s s' : Nat} {v v' : Value} {n n' : Nat} {xs xs' : List Value} (h : w.ownsRow b e s v n xs) (h' : w.ownsRow b' e' s' v' n' xs') (hne : e ≠ e') : ∀ g, v.ownBlock = some g → some g ≠ v'.ownBlock := by
  intro g hg hg'
  rcases h.2 with ⟨rfl, _⟩ | ⟨g1, _, _, rfl, _, h1, _⟩
  · simp [Value.ownBlock] at hg
  · simp only [Value.ownBlock, Option.some.injEq] at hg
    subst hg
    rcases h'.2 with ⟨rfl, _⟩ | ⟨g2, _, _, rfl, _, h2, _⟩
    · simp [Value.ownBlock] at hg'
    · simp only [Value.ownBlock, Option.some.injEq] at hg'
      subst hg'
      rw [h1] at h2
      simp at h2
      exact hne h2.2

theorem OwnRows.sep {k : IntKind} {e e' : TypeId} {base b' : Nat} {w : World} {s' n' : Nat} {v' : Value} {xs' : List Value} (h' : w.ownsRow b' e' s' v' n' xs') (hne : e ≠ e') : ∀ {vs : List Value} {ll : List (List Int)}, OwnRows k e base w vs ll → ∀ v ∈ vs, ∀ g, v.ownBlock = some g → some g ≠ v'.ownBlock
  | [], [], _, v, hv => by simp at hv
  | u :: vs, l :: ll, h, v, hv => by
    rcases List.mem_cons.1 hv with rfl | hv
    · exact own_sep h.1 h' hne
    · exact OwnRows.sep h' hne h.2 v hv

theorem own_kept {w w' : World} {b b' : Nat} {e e' : TypeId} {s s' : Nat} {v v' : Value} {n n' : Nat} {xs xs' : List Value} (h : w.ownsRow b e s v n xs) (h' : w.ownsRow b' e' s' v' n' xs') (hne : e ≠ e') (hg : w.grownBy w' v'.ownBlock) : w'.ownsRow b e s v n xs := by
  refine h.kept hg ?_
  cases hv : v.ownBlock with
  | none => exact .inl rfl
  | some g => exact .inr (own_sep h h' hne g hv)

theorem setCell_grown (w : World) (a : Addr) (u : Value) : w.grownBy (w.setCell a u) (some a.block) :=
  ⟨rfl, rfl, rfl, by simp [World.setCell], fun k _ hn => Below.heap_setCell _ _ _ _ (fun e => hn (by rw [e]))⟩

/-- A store into a block of another element type leaves a row as it is. -/
theorem own_ne {w : World} {base : Nat} {e e' : TypeId} {size : Nat} {v : Value} {n p : Nat} {xs : List Value} {cs : Array Value} {fr : Nat × Nat} (h : w.ownsRow base e size v n xs) (hp : w.heap[p]? = some (.cells cs e' fr)) (hne : e ≠ e') : v.ownBlock = none ∨ v.ownBlock ≠ some p := by
  rcases h.2 with ⟨rfl, _⟩ | ⟨g, _, _, rfl, _, h1, _⟩
  · exact .inl rfl
  · refine .inr fun e => ?_
    simp only [Value.ownBlock, Option.some.injEq] at e
    subst e
    rw [h1] at hp; simp at hp; exact hne hp.2.1

theorem own_setBlk {w : World} {base : Nat} {e e' : TypeId} {size : Nat} {v : Value} {n p o : Nat} {xs : List Value} {cs : Array Value} {fr : Nat × Nat} (h : w.ownsRow base e size v n xs) (hp : w.heap[p]? = some (.cells cs e' fr)) (hne : e ≠ e') (u : Value) : (w.setCell ⟨p, o, none⟩ u).ownsRow base e size v n xs :=
  h.kept (setCell_grown w ⟨p, o, none⟩ u) (own_ne h hp hne)

theorem grown_blk {w w' : World} {row : Option Nat} {k : Nat} {o : Obj} (hg : w.grownBy w' row) (h : w.heap[k]? = some o) (hne : some k ≠ row) : w'.heap[k]? = some o :=
  (hg.block k (Array.getElem?_eq_some_iff.1 h).1 hne).trans h

theorem own_empty {w : World} {base g size : Nat} {e : TypeId} (h : w.heap[g]? = some (.cells #[] e (0, 0))) (hb : base ≤ g) : w.ownsRow base e size (.slice (some ⟨g, 0, none⟩) 0 0) 0 [] :=
  ⟨by simp, .inr ⟨g, 0, #[], rfl, hb, h, Nat.le_refl _, Nat.zero_le _, by simp, by simp⟩⟩

theorem cells_blk {w : World} {g : Nat} {cs : Array Value} {e : TypeId} {fr : Nat × Nat} (h : w.heap[g]? = some (.cells cs e fr)) : Cells w (some ⟨g, 0, none⟩) cs.toList := fun _ =>
  ⟨g, 0, rfl, fun i v hv => by rw [cell_of_row w g (0 + i) cs e fr h]; simpa using hv⟩

section
variable {P : Program} {w : World} {ops : Array Oper} {rest : List Oper} {o : Oper} {a : Act} {Q : Exit → Act → World → Prop} {t e : TypeId} {z : Value} {bytes : Nat}

/-- 'append(s, x...)', s the call's own, whatever x. -/
theorem wpList_cat {base : Nat} {v : Value} {n : Nat} {xs : List Value} (hgd : o.guard = none) (s y : Operand) (ho : o.op = .call { callee := .builtin .append, args := #[s, y], argTypes := #[t, t] })
    (ST : SliceTy P t e z 1 bytes) (ao : Option Addr) (m c : Nat) (news : List Value) (hs : a.eval s = v) (hy : a.eval y = .slice ao m c)
    (hown : w.ownsRow base e 1 v n xs) (hc : Cells w ao news) (hm : m = news.length) (h0 : ao = none → c = 0) (h1 : ∀ u ∈ news, u.oneCell' = true) (h63 : (n + m) * bytes ≤ 140737488355328) (h64 : n + m ≤ maxLen) (hbase : base ≤ w.heap.size)
    (h : ∀ v' w', w'.ownsRow base e 1 v' (n + m) (xs ++ news) → w.grownBy w' v.ownBlock → wpList P ops Q rest (a.put o.dst v') w') :
    wpList P ops Q (o :: rest) a w := by
  obtain ⟨i, hi, hz0, hz1, hz2⟩ := info_parts ST.info
  subst hm
  cases ao with
  | none =>
    have hn : news = [] := by
      cases news with
      | nil => rfl
      | cons x l => obtain ⟨b, off, h, _⟩ := hc (by simp); cases h
    subst hn
    have hc0 := h0 rfl
    subst hc0
    refine wpList_plain hgd fun K hK' => ?_
    have hrun := run_append_owned_none (P := P) w base t o.type e i 1 ST.und hi _ n xs hown
    unfold Oper.wp
    simp [execOp, ho, resolve, invoke, builtin, hs, hy, hrun, Result.andThen]
    exact hK' _ _ (by have := h v w (by simpa using hown) (World.grownBy.refl _ _); simpa using this)
  | some ad =>
    refine wpList_append_own _ hgd s y t ho base e i z 1 bytes ST.und hi hz0 hz1 hz2 ST.zs (by decide) v n xs hs hown ad news.length c news hy (by simp) ?_ h1 h64 h63 hbase ?_
    · intro j u hj
      obtain ⟨b, off, hh, hcc⟩ := hc (by intro e; rw [e] at hj; simp at hj)
      cases hh
      have := hcc j u hj
      unfold Addr.add; split
      · rename_i h0'; subst h0'; exact this
      · exact this
    · intro v' w' h1 h2 _; exact h v' w' h1 h2

/-- The same where there is room: the value is known. -/
theorem wpList_cat_fits {base g n cap : Nat} {xs : List Value} (hgd : o.guard = none) (s y : Operand) (ho : o.op = .call { callee := .builtin .append, args := #[s, y], argTypes := #[t, t] })
    (ST : SliceTy P t e z 1 bytes) (ao : Option Addr) (m c : Nat) (news : List Value) (hs : a.eval s = .slice (some ⟨g, 0, none⟩) n cap) (hy : a.eval y = .slice ao m c)
    (hown : w.ownsRow base e 1 (.slice (some ⟨g, 0, none⟩) n cap) n xs) (hc : Cells w ao news) (hm : m = news.length) (h0 : ao = none → c = 0) (h1 : ∀ u ∈ news, u.oneCell' = true) (hcap : n + m ≤ cap)
    (h : ∀ w', w'.ownsRow base e 1 (.slice (some ⟨g, 0, none⟩) (n + m) cap) (n + m) (xs ++ news) → w.grownBy w' (some g) → wpList P ops Q rest (a.put o.dst (.slice (some ⟨g, 0, none⟩) (n + m) cap)) w') :
    wpList P ops Q (o :: rest) a w := by
  obtain ⟨i, hi, hz0, hz1, hz2⟩ := info_parts ST.info
  subst hm
  refine wpList_append_fits_any _ hgd s y t ho base e i 1 ST.und hi hz1 g n cap xs hs hown ao news.length c news hy (by simp) ?_ ?_ h1 hcap h
  · intro ha
    refine ⟨?_, h0 ha⟩
    cases news with
    | nil => rfl
    | cons x l => subst ha; obtain ⟨b, off, h, _⟩ := hc (by simp); cases h
  · intro ad ha j u hj
    subst ha
    obtain ⟨b, off, hh, hcc⟩ := hc (by intro e; rw [e] at hj; simp at hj)
    cases hh
    have := hcc j u hj
    unfold Addr.add; split
    · rename_i h0'; subst h0'; exact this
    · exact this

/-- 'append(s, x...)', s the call's own, whatever x and whatever its elements' size. -/
theorem wp_cat {K : Act → World → Prop} {size : Nat} (s x : Operand) (ho : o.op = .call { callee := .builtin .append, args := #[s, x], argTypes := #[t, t] })
    (ST : SliceTy P t e z size bytes) (base : Nat) (v : Value) (n : Nat) (xs : List Value) (hs : a.eval s = v) (hown : w.ownsRow base e size v n xs)
    (ao : Option Addr) (m c : Nat) (news : List Value) (hx : a.eval x = .slice ao m c) (hl : news.length = m * size) (hc : Cells w ao news) (h0 : ao = none → c = 0) (h1 : ∀ u ∈ news, u.oneCell' = true)
    (h63 : n + m ≤ maxLen) (hbytes : (n + m) * bytes ≤ 140737488355328) (hbase : base ≤ w.heap.size)
    (h : ∀ a' cap' w', w'.ownsRow base e size (.slice a' (n + m) cap') (n + m) (xs ++ news) → w.grownBy w' v.ownBlock → Below base w w' → n + m ≤ cap' → cap' ≤ maxLen → K (a.put o.dst (.slice a' (n + m) cap')) w') :
    Oper.wp P o a w K Q := by
  obtain ⟨i, hi, hz0, hz1, hz2⟩ := info_parts ST.info
  cases ao with
  | none =>
    have hn : news = [] := by
      cases news with
      | nil => rfl
      | cons x l => obtain ⟨b, off, h, _⟩ := hc (by simp); cases h
    subst hn
    have hm : m = 0 := by
      have hp := ST.pos
      rcases Nat.mul_eq_zero.1 (show m * size = 0 by simpa using hl.symm) with h | h
      · exact h
      · omega
    subst hm
    have hc0 := h0 rfl
    subst hc0
    have hrun := run_append_owned_none (P := P) w base t o.type e i size ST.und hi _ n xs hown
    obtain ⟨a', cap', rfl, -, hn1, hn2, -⟩ := own_val hown
    have := h a' cap' w (by simpa using hown) (World.grownBy.refl _ _) (Below.refl _ _) hn1 hn2
    unfold Oper.wp execOp
    simp only [ho, resolve, invoke, builtin, Sem.run_bind, Sem.run_pure, Result.andThen_ok, List.map_toArray, List.map_cons, List.map_nil, hs, hx, hrun]
    exact this
  | some ad =>
    have hnews : ∀ j u, news[j]? = some u → w.cell? (ad.add j) = some u := by
      intro j u hj
      obtain ⟨b, off, hh, hcc⟩ := hc (by intro e; rw [e] at hj; simp at hj)
      cases hh
      have := hcc j u hj
      unfold Addr.add; split
      · rename_i h0'; subst h0'; exact this
      · exact this
    obtain ⟨v', w', hrun, h2, h3, _⟩ := run_append_own (P := P) w base t o.type e i z size bytes ST.und hi hz0 hz1 hz2 ST.zs ST.pos v n xs hown ad m c news hl hnews h1 h63 hbytes hbase
    have hB := (Below.refl base w).grown h3 hbase (fun k hk => (hown.lt k hk).1)
    obtain ⟨a', cap', rfl, -, hn1, hn2, -⟩ := own_val h2
    have := h a' cap' w' h2 h3 hB hn1 hn2
    unfold Oper.wp execOp
    simp only [ho, resolve, invoke, builtin, Sem.run_bind, Sem.run_pure, Result.andThen_ok, List.map_toArray, List.map_cons, List.map_nil, hs, hx, hrun]
    exact this

theorem step_cat {K : Act → World → Prop} {E : Prop} {size : Nat} (hgd : o.guard = none) (s x : Operand) (ho : o.op = .call { callee := .builtin .append, args := #[s, x], argTypes := #[t, t] })
    (ST : SliceTy P t e z size bytes) (base : Nat) (v : Value) (n : Nat) (xs : List Value) (hs : a.eval s = v) (hown : w.ownsRow base e size v n xs)
    (ao : Option Addr) (m c : Nat) (news : List Value) (hx : a.eval x = .slice ao m c) (hl : news.length = m * size) (hc : Cells w ao news) (h0 : ao = none → c = 0) (h1 : ∀ u ∈ news, u.oneCell' = true)
    (h63 : n + m ≤ maxLen) (hbytes : (n + m) * bytes ≤ 140737488355328) (hbase : base ≤ w.heap.size)
    (h : ∀ a' cap' w', w'.ownsRow base e size (.slice a' (n + m) cap') (n + m) (xs ++ news) → w.grownBy w' v.ownBlock → Below base w w' → n + m ≤ cap' → cap' ≤ maxLen → K (a.put o.dst (.slice a' (n + m) cap')) w') :
    if Region.wanted o (yielded ops a.tmps) = true then Oper.wp P o a w K Q else E := by
  rw [if_pos (by simp [Region.wanted, hgd])]
  exact wp_cat s x ho ST base v n xs hs hown ao m c news hx hl hc h0 h1 h63 hbytes hbase h

theorem wpList_catN {size : Nat} (hgd : o.guard = none) (s x : Operand) (ho : o.op = .call { callee := .builtin .append, args := #[s, x], argTypes := #[t, t] })
    (ST : SliceTy P t e z size bytes) (base : Nat) (v : Value) (n : Nat) (xs : List Value) (hs : a.eval s = v) (hown : w.ownsRow base e size v n xs)
    (ao : Option Addr) (m c : Nat) (news : List Value) (hx : a.eval x = .slice ao m c) (hl : news.length = m * size) (hc : Cells w ao news) (h0 : ao = none → c = 0) (h1 : ∀ u ∈ news, u.oneCell' = true)
    (h63 : n + m ≤ maxLen) (hbytes : (n + m) * bytes ≤ 140737488355328) (hbase : base ≤ w.heap.size)
    (h : ∀ a' cap' w', w'.ownsRow base e size (.slice a' (n + m) cap') (n + m) (xs ++ news) → w.grownBy w' v.ownBlock → Below base w w' → n + m ≤ cap' → cap' ≤ maxLen → wpList P ops Q rest (a.put o.dst (.slice a' (n + m) cap')) w') :
    wpList P ops Q (o :: rest) a w :=
  wpList_plain hgd fun K hK' => wp_cat s x ho ST base v n xs hs hown ao m c news hx hl hc h0 h1 h63 hbytes hbase fun a' cap' w' h2 h3 h4 h5 h6 => hK' _ _ (h a' cap' w' h2 h3 h4 h5 h6)

/-- One element, laid in a block of its own just before, appended in a region that draws its order. -/
theorem step_push {K : Act → World → Prop} {E : Prop} {size : Nat} (hgd : o.guard = none) (s x : Operand) (ho : o.op = .call { callee := .builtin .append, args := #[s, x], argTypes := #[t, t] })
    (ST : SliceTy P t e z size bytes) (base : Nat) (v : Value) (n : Nat) (xs : List Value) (hs : a.eval s = v) (hown : w.ownsRow base e size v n xs)
    (g0 : Nat) (cs : Array Value) (hx : a.eval x = .slice (some ⟨g0, 0, none⟩) 1 1) (hb : w.heap[g0]? = some (.cells cs e (0, 0))) (hcs : cs.size = size) (h1 : cs.toList.all Value.oneCell' = true)
    (h63 : n + 1 ≤ maxLen) (hbytes : (n + 1) * bytes ≤ 140737488355328) (hbase : base ≤ w.heap.size)
    (h : ∀ v' w', w'.ownsRow base e size v' (n + 1) (xs ++ cs.toList) → w.grownBy w' v.ownBlock → (∃ g cap, v' = .slice (some ⟨g, 0, none⟩) (n + 1) cap) → K (a.put o.dst v') w') :
    if Region.wanted o (yielded ops a.tmps) = true then Oper.wp P o a w K Q else E := by
  obtain ⟨i, hi, hz0, hz1, hz2⟩ := info_parts ST.info
  refine step_append_lies w hgd s x t ho base e i z size bytes ST.und hi hz0 hz1 hz2 ST.zs ST.pos v n xs hs hown ⟨g0, 0, none⟩ 1 1 cs.toList hx (by simpa using hcs) ?_ (by rw [List.all_eq_true] at h1; exact h1) (by decide) h63 hbytes hbase w.heap.size rfl (fun g cap w' h2 h3 _ _ => h _ w' h2 h3 ⟨g, cap, rfl⟩)
  intro j u hj
  have hc := cell_of_row w g0 j cs e (0, 0) hb
  have hj' : cs[j]? = some u := by simpa using hj
  rw [hj'] at hc
  unfold Addr.add
  split
  · rename_i h0; subst h0; exact hc
  · simpa using hc

end

end Go.Proofs.Ytpdbekbobkjfgaa
