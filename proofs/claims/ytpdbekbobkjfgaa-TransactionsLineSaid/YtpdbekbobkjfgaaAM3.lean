/-
  An abstract view of the machine, part 3: operations that yield a value and turn nothing.
  Conditions: none; nothing here speaks of one program.
-/
import Derived.Test.YtpdbekbobkjfgaaAM2
namespace Go.Proofs.Ytpdbekbobkjfgaa
open Go.RowKit
set_option linter.unusedVariables false

/-- Option's bind and map, under names that no rule of congruence knows. -/
def obind {α β : Type} (x : Option α) (f : α → Option β) : Option β := x.bind f
def omap {α β : Type} (x : Option α) (f : α → β) : Option β := x.map f
theorem obind_some {α β : Type} (a : α) (f : α → Option β) : obind (some a) f = f a := rfl
theorem obind_none {α β : Type} (f : α → Option β) : obind none f = none := rfl
theorem omap_some {α β : Type} (a : α) (f : α → β) : omap (some a) f = some (f a) := rfl
theorem omap_none {α β : Type} (f : α → β) : omap none f = none := rfl

/-! ### Lists, one by one -/
theorem RepVs_iff {w : World} {F : Nat → Prop} {m : Nat → Value} : ∀ {cs : List AV} {us : List Value}, RepVs w F m cs us ↔ cs.length = us.length ∧ ∀ (i : Nat) v, cs[i]? = some v → ∃ u, us[i]? = some u ∧ RepV w F m v u
  | [], us => by
    simp only [RepVs]
    constructor
    · rintro rfl; simp
    · rintro ⟨h, _⟩; exact List.eq_nil_of_length_eq_zero h.symm
  | v :: vs, us => by
    simp only [RepVs]
    constructor
    · rintro ⟨u, rest, rfl, h1, h2⟩
      obtain ⟨h3, h4⟩ := RepVs_iff.1 h2
      refine ⟨by simp [h3], fun i v' hi => ?_⟩
      cases i with
      | zero => simp at hi; subst hi; exact ⟨u, by simp, h1⟩
      | succ i => simp at hi; obtain ⟨u', h5, h6⟩ := h4 i v' hi; exact ⟨u', by simpa using h5, h6⟩
    · rintro ⟨h1, h2⟩
      cases us with
      | nil => simp at h1
      | cons u rest =>
        obtain ⟨u', h3, h4⟩ := h2 0 v (by simp)
        simp at h3; subst h3
        exact ⟨u, rest, rfl, h4, RepVs_iff.2 ⟨by simpa using h1, fun i v' hi => by obtain ⟨u', h5, h6⟩ := h2 (i + 1) v' (by simpa using hi); exact ⟨u', by simpa using h5, h6⟩⟩⟩

/-- The row of an aggregate's cells. -/
theorem RepOnes_iff {w : World} {F : Nat → Prop} : ∀ {cs : List D} {us : List Value}, RepRow w F (fun v => v.oneCell' = true) cs us ↔ cs.length = us.length ∧ ∀ (i : Nat) d, cs[i]? = some d → ∃ u, us[i]? = some u ∧ u.oneCell' = true ∧ RepD w F d u
  | [], us => by
    simp only [RepRow]
    constructor
    · rintro rfl; simp
    · rintro ⟨h, _⟩; exact List.eq_nil_of_length_eq_zero h.symm
  | d :: ds, us => by
    simp only [RepRow]
    constructor
    · rintro ⟨u, rest, rfl, h0, h1, h2⟩
      obtain ⟨h3, h4⟩ := RepOnes_iff.1 h2
      have hc : u.cells.toList = [u] := by cases u <;> first | rfl | simp [Value.oneCell'] at h0
      rw [hc]
      refine ⟨by simp [h3], fun i v' hi => ?_⟩
      cases i with
      | zero => simp at hi; subst hi; exact ⟨u, by simp, h0, h1⟩
      | succ i => simp at hi; obtain ⟨u', h5, h6⟩ := h4 i v' hi; exact ⟨u', by simpa using h5, h6⟩
    · rintro ⟨h1, h2⟩
      cases us with
      | nil => simp at h1
      | cons u rest =>
        obtain ⟨u', h3, h0, h4⟩ := h2 0 d (by simp)
        simp at h3; subst h3
        have hc : u.cells.toList = [u] := by cases u <;> first | rfl | simp [Value.oneCell'] at h0
        exact ⟨u, rest, by simp [hc], h0, h4, RepOnes_iff.2 ⟨by simpa using h1, fun i v' hi => by obtain ⟨u', h5, h6⟩ := h2 (i + 1) v' (by simpa using hi); exact ⟨u', by simpa using h5, h6⟩⟩⟩

theorem cells_one {u : Value} (h : u.oneCell' = true) : u.cells = #[u] := by cases u <;> first | rfl | simp [Value.oneCell'] at h

/-- One element of a row. -/
theorem RepRow_get {w : World} {F : Nat → Prop} {n : Nat} : ∀ {ds : List D} {vals : List Value}, RepRow w F (fun v => v.cells.size = n) ds vals → vals.length = ds.length * n ∧ ∀ (i : Nat) d, ds[i]? = some d → ∃ v, v.cells.size = n ∧ RepD w F d v ∧ ∀ (j : Nat) c, v.cells[j]? = some c → vals[i * n + j]? = some c
  | [], vals, h => by simp only [RepRow] at h; subst h; simp
  | d :: ds, vals, h => by
    simp only [RepRow] at h
    obtain ⟨v, rest, rfl, h0, h1, h2⟩ := h
    obtain ⟨h3, h4⟩ := RepRow_get h2
    have hl : v.cells.toList.length = n := by simpa using h0
    refine ⟨by rw [List.length_append, hl, h3, List.length_cons, Nat.add_mul, Nat.one_mul, Nat.add_comm], fun i d' hi => ?_⟩
    cases i with
    | zero =>
      simp at hi; subst hi
      refine ⟨v, h0, h1, fun j c hj => ?_⟩
      have hj' : j < v.cells.toList.length := by
        have := (Array.getElem?_eq_some_iff.1 hj).1
        simpa using this
      rw [Nat.zero_mul, Nat.zero_add, List.getElem?_append_left hj']
      simpa using hj
    | succ i =>
      simp at hi
      obtain ⟨v', h5, h6, h7⟩ := h4 i d' hi
      refine ⟨v', h5, h6, fun j c hj => ?_⟩
      have := h7 j c hj
      rw [show (i + 1) * n + j = v.cells.toList.length + (i * n + j) by rw [hl, Nat.add_mul, Nat.one_mul, Nat.add_comm (i * n) n, Nat.add_assoc], List.getElem?_append_right (by omega), Nat.add_sub_cancel_left]
      exact this

/-! ### Operands -/
def allD : List AV → Option (List D)
  | [] => some []
  | .d x :: l => (allD l).map (x :: ·)
  | _ :: _ => none
def mkAgg (cs : List AV) : AV := match allD cs with | some ds => .d (.agg ds) | none => .agg cs

def constA (v : Value) : Option AV :=
  match v with
  | .agg cs => if cs.toList.all (·.oneCell') then some (.d (.agg (cs.toList.map D.v))) else none
  | .tuple _ => none
  | v => some (.d (.v v))
def St.ev (s : St) : Operand → Option AV
  | .tmp t => gt t s.tm
  | .const v => constA v
  | .func f => some (.d (.v (.func (.func f) #[] #[])))
  | .global _ => none

theorem constA_sound {w : World} {F : Nat → Prop} {m : Nat → Value} {v : Value} {x : AV} (h : constA v = some x) : RepV w F m x v := by
  cases v with
  | agg cs =>
    simp only [constA] at h
    split at h
    · rename_i hall
      cases h
      simp only [RepV, RepD]
      refine ⟨cs.toList, by simp, RepOnes_iff.2 ⟨by simp, fun i d hi => ?_⟩⟩
      rw [List.getElem?_map] at hi
      obtain ⟨u, hu, rfl⟩ := Option.map_eq_some_iff.1 hi
      have h1 := List.all_eq_true.1 hall u (List.mem_of_getElem? hu)
      exact ⟨u, hu, h1, by simp only [RepD]; exact ⟨trivial, h1⟩⟩
    · cases h
  | tuple vs => simp [constA] at h
  | _ => simp only [constA, Option.some.injEq] at h; subst h; simp only [RepV, RepD]; exact ⟨trivial, rfl⟩

theorem SRep.ev {c : Ctx} {m : Nat → Value} {s : St} {a : Act} {w : World} (h : SRep c m s a w) {x : Operand} {v : AV} (hx : s.ev x = some v) : RepV w (Forb c m s.hp) m v (a.eval x) := by
  cases x with
  | tmp t => exact h.slot t v hx
  | const u => exact constA_sound hx
  | global g => simp [St.ev] at hx
  | func f => simp only [St.ev, Option.some.injEq] at hx; subst hx; simp only [RepV, RepD]; exact ⟨rfl, rfl⟩

theorem allD_rep {w : World} {F : Nat → Prop} {m : Nat → Value} : ∀ {cs : List AV} {ds : List D} {us : List Value}, allD cs = some ds → RepVs w F m cs us → (∀ u ∈ us, u.oneCell' = true) → RepRow w F (fun v => v.oneCell' = true) ds us
  | [], ds, us, h, hr, _ => by
    simp only [allD, Option.some.injEq] at h; subst h
    simp only [RepVs] at hr; subst hr; simp only [RepRow]
  | v :: cs, ds, us, h, hr, h1 => by
    cases v with
    | d x =>
      simp only [allD] at h
      obtain ⟨l, hl, rfl⟩ := Option.map_eq_some_iff.1 h
      simp only [RepVs] at hr
      obtain ⟨u, rest, rfl, h2, h3⟩ := hr
      simp only [RepV] at h2
      have h0 := h1 u (by simp)
      simp only [RepRow]
      exact ⟨u, rest, by rw [cells_one h0]; rfl, h0, h2, allD_rep hl h3 (fun z hz => h1 z (by simp [hz]))⟩
    | _ => simp [allD] at h

theorem mkAgg_rep {w : World} {F : Nat → Prop} {m : Nat → Value} {cs : List AV} {us : List Value} (hr : RepVs w F m cs us) (h1 : ∀ u ∈ us, u.oneCell' = true) : RepV w F m (mkAgg cs) (.agg us.toArray) := by
  unfold mkAgg
  split
  · rename_i ds h
    simp only [RepV, RepD]; exact ⟨us, rfl, allD_rep h hr h1⟩
  · simp only [RepV]; exact ⟨us, rfl, hr, h1⟩

/-- The cells of a struct or an array that is held by value. -/
def AV.fields : AV → Option (List AV)
  | .agg cs => some cs
  | .d (.agg ds) => some (ds.map .d)
  | _ => none
theorem fields_rep {w : World} {F : Nat → Prop} {m : Nat → Value} {v : AV} {u : Value} {cs : List AV} (h : RepV w F m v u) (hf : v.fields = some cs) : ∃ us : List Value, u = .agg us.toArray ∧ RepVs w F m cs us ∧ ∀ z ∈ us, z.oneCell' = true := by
  cases v with
  | agg l => simp only [AV.fields, Option.some.injEq] at hf; subst hf; simpa only [RepV] using h
  | d x =>
    cases x with
    | agg ds =>
      simp only [AV.fields, Option.some.injEq] at hf; subst hf
      simp only [RepV, RepD] at h
      obtain ⟨us, rfl, hr⟩ := h
      rw [RepOnes_iff] at hr
      refine ⟨us, rfl, RepVs_iff.2 ⟨by simpa using hr.1, fun i v hi => ?_⟩, fun z hz => ?_⟩
      · rw [List.getElem?_map] at hi
        obtain ⟨d, hd, rfl⟩ := Option.map_eq_some_iff.1 hi
        obtain ⟨u, h1, _, h2⟩ := hr.2 i d hd
        exact ⟨u, h1, by simpa only [RepV] using h2⟩
      · obtain ⟨i, hi⟩ := List.getElem?_of_mem hz
        have hlt : i < ds.length := by rw [hr.1]; exact (List.getElem?_eq_some_iff.1 hi).1
        obtain ⟨u, h1, h2, _⟩ := hr.2 i ds[i] (by simp [hlt])
        rw [hi] at h1; cases h1; exact h2
    | _ => simp [AV.fields] at hf
  | _ => simp [AV.fields] at hf

theorem RepVs_slice {w : World} {F : Nat → Prop} {m : Nat → Value} {cs : List AV} {us : List Value} (h : RepVs w F m cs us) (i n : Nat) : RepVs w F m ((cs.drop i).take n) ((us.drop i).take n) := by
  rw [RepVs_iff] at h ⊢
  refine ⟨by simp [h.1], fun j v hj => ?_⟩
  rw [List.getElem?_take] at hj ⊢
  split at hj
  · rename_i hlt
    rw [if_pos hlt, List.getElem?_drop]
    rw [List.getElem?_drop] at hj
    exact h.2 _ v hj
  · cases hj

/-! ### Types -/
def aggT (P : Program) (t : TypeId) : Option Bool := (P.underlying t).map fun | .struct _ | .array _ _ => true | _ => false
def szT (P : Program) (t : TypeId) : Option Nat := (P.info? t).map (·.size)
theorem run_isAgg' {P : Program} {t : TypeId} {g : Bool} (h : aggT P t = some g) (w : World) : (isAgg t).run P w = .ok g w := by
  unfold aggT at h
  obtain ⟨d, hd, rfl⟩ := Option.map_eq_some_iff.1 h
  simp only [isAgg, Sem.run_bind, run_underlying hd, Result.andThen_ok]
  cases d <;> rfl
theorem run_sizeOf' {P : Program} {t : TypeId} {n : Nat} (h : szT P t = some n) (w : World) : (sizeOf t).run P w = .ok n w := by
  unfold szT at h
  obtain ⟨i, hi, rfl⟩ := Option.map_eq_some_iff.1 h
  simp [sizeOf, typeInfo, hi]
/-- A struct's field: where it begins, how many cells it has, whether it is a struct or an array. -/
def fieldT (P : Program) (t : TypeId) (i : Nat) : Option (Nat × Nat × Bool) :=
  match P.underlying t with
  | some (.struct fs) => match fs[i]? with
    | some f => match szT P f.type, aggT P f.type with
      | some n, some g => if n = 0 then none else some (f.offset, n, g)
      | _, _ => none
    | none => none
  | _ => none
/-- The elements of a slice: their type, how many cells, whether structs or arrays. -/
def elemT (P : Program) (t : TypeId) : Option (TypeId × Nat × Bool) :=
  match P.underlying t with
  | some (.slice e) => match szT P e, aggT P e with
    | some n, some g => if n = 0 then none else some (e, n, g)
    | _, _ => none
  | _ => none
def arrT (P : Program) (t : TypeId) : Option (Nat × TypeId × Nat × Bool) :=
  match P.underlying t with
  | some (.array l e) => match szT P e, aggT P e with
    | some n, some g => if n = 0 then none else some (l, e, n, g)
    | _, _ => none
  | _ => none

theorem fieldT_parts {P : Program} {t : TypeId} {i o n : Nat} {g : Bool} (h : fieldT P t i = some (o, n, g)) : ∃ fs f, P.underlying t = some (.struct fs) ∧ fs[i]? = some f ∧ szT P f.type = some n ∧ aggT P f.type = some g ∧ f.offset = o ∧ n ≠ 0 := by
  unfold fieldT at h
  split at h
  · rename_i fs hu
    split at h
    · rename_i f hf
      split at h
      · rename_i n' g' hn hg
        split at h
        · cases h
        · rename_i hne
          simp only [Option.some.injEq, Prod.mk.injEq] at h
          obtain ⟨rfl, rfl, rfl⟩ := h
          exact ⟨fs, f, hu, hf, hn, hg, rfl, hne⟩
      · cases h
    · cases h
  · cases h
theorem elemT_parts {P : Program} {t : TypeId} {e n : Nat} {g : Bool} (h : elemT P t = some (e, n, g)) : P.underlying t = some (.slice e) ∧ szT P e = some n ∧ aggT P e = some g ∧ n ≠ 0 := by
  unfold elemT at h
  split at h
  · rename_i e' hu
    split at h
    · rename_i n' g' hn hg
      split at h
      · cases h
      · rename_i hne
        simp only [Option.some.injEq, Prod.mk.injEq] at h
        obtain ⟨rfl, rfl, rfl⟩ := h
        exact ⟨hu, hn, hg, hne⟩
    · cases h
  · cases h
theorem arrT_parts {P : Program} {t : TypeId} {l e n : Nat} {g : Bool} (h : arrT P t = some (l, e, n, g)) : P.underlying t = some (.array l e) ∧ szT P e = some n ∧ aggT P e = some g ∧ n ≠ 0 := by
  unfold arrT at h
  split at h
  · rename_i l' e' hu
    split at h
    · rename_i n' g' hn hg
      split at h
      · cases h
      · rename_i hne
        simp only [Option.some.injEq, Prod.mk.injEq] at h
        obtain ⟨rfl, rfl, rfl, rfl⟩ := h
        exact ⟨hu, hn, hg, hne⟩
    · cases h
  · cases h

end Go.Proofs.Ytpdbekbobkjfgaa
