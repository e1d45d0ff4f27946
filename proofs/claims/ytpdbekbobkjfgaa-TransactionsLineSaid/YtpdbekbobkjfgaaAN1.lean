/-
  Walks that the kernel reckons out, part 1: values whose leaves are terms, and what they stand for in the abstract view.
  Conditions: none; nothing here speaks of one program.
-/
import Derived.Test.YtpdbekbobkjfgaaAM32
namespace Go.Proofs.Ytpdbekbobkjfgaa
open Go.RowKit
set_option linter.unusedVariables false
set_option linter.constructorNameAsVariable false

/-- The shapes of a row's elements: nil, cons: a struct, cell by cell. -/
inductive Sh where
  | i (k : IntKind)
  | b
  | s
  | ints (k : IntKind)
  | row (e : Sh)
  | nil
  | cons (h t : Sh)
  deriving DecidableEq
@[reducible] def Sh.T : Sh → Type
  | .i _ => Int
  | .b => Bool
  | .s => ByteArray
  | .ints _ => List Int
  | .row e => List e.T
  | .nil => Unit
  | .cons h t => h.T × t.T
def Sh.dflt : (s : Sh) → s.T
  | .i _ => (0 : Int)
  | .b => false
  | .s => ByteArray.empty
  | .ints _ => ([] : List Int)
  | .row _ => []
  | .nil => ()
  | .cons h t => (h.dflt, t.dflt)
/-- How many cells the struct has. -/
def Sh.len : Sh → Nat
  | .cons _ t => t.len + 1
  | _ => 0
def Sh.agg : Sh → Bool
  | .cons _ _ => true
  | .nil => true
  | _ => false
def Sh.size : Sh → Nat
  | .cons _ t => t.len + 1
  | .nil => 0
  | _ => 1
/-- As one value; as the cells of a struct. -/
def Sh.toD2 : (s : Sh) → s.T → D × List D
  | .i k, x => (.v (.int k x), [])
  | .b, x => (.v (.bool x), [])
  | .s, x => (.v (.string x), [])
  | .ints k, xs => (.ints k xs none, [])
  | .row e, xs => (.sl e.size (xs.map fun x => (e.toD2 x).1) none, [])
  | .nil, _ => (.agg [], [])
  | .cons h t, x => (.agg ((h.toD2 x.1).1 :: (t.toD2 x.2).2), (h.toD2 x.1).1 :: (t.toD2 x.2).2)
def Sh.toD (s : Sh) (x : s.T) : D := (s.toD2 x).1

/-- A value: d: data as it is written; i, b, s, ints, row: data whose leaves are terms; the others as in the view. -/
inductive SV where
  | d (x : D)
  | i (k : IntKind) (x : Int)
  | b (x : Bool)
  | s (x : ByteArray)
  | ints (k : IntKind) (xs : List Int) (c : Option Nat)
  | row (e : Sh) (xs : List e.T) (c : Option Nat)
  | ptr (κ off : Nat)
  | own (κ : Nat)
  | pel (κ i n : Nat)
  | eaddr (v : SV)
  | agg (l : List SV)
  | tup (l : List SV)
  | clos (f : FuncId) (l : List SV)
  | wrap (k : Wr) (v : SV)
  | bot

/-- An element; its cells. -/
def Sh.sv2 : (s : Sh) → s.T → SV × List SV
  | .i k, x => (.i k x, [])
  | .b, x => (.b x, [])
  | .s, x => (.s x, [])
  | .ints k, xs => (.ints k xs none, [])
  | .row e, xs => (.row e xs none, [])
  | .nil, _ => (.agg [], [])
  | .cons h t, x => (.agg ((h.sv2 x.1).1 :: (t.sv2 x.2).2), (h.sv2 x.1).1 :: (t.sv2 x.2).2)
def Sh.sv (s : Sh) (x : s.T) : SV := (s.sv2 x).1

mutual
/-- The data that a value is. -/
def SV.dat : SV → Option D
  | .d x => some x
  | .i k x => some (.v (.int k x))
  | .b x => some (.v (.bool x))
  | .s x => some (.v (.string x))
  | .ints k xs c => some (.ints k xs c)
  | .row e xs c => some (.sl e.size (xs.map e.toD) c)
  | .agg l => match SV.dats l with
    | some ds => some (.agg ds)
    | none => none
  | _ => none
termination_by structural v => v
def SV.dats : List SV → Option (List D)
  | [] => some []
  | v :: l => match v.dat, SV.dats l with
    | some y, some ys => some (y :: ys)
    | _, _ => none
termination_by structural l => l
end
mutual
def SV.toAV : SV → AV
  | .d x => .d x
  | .i k x => .d (.v (.int k x))
  | .b x => .d (.v (.bool x))
  | .s x => .d (.v (.string x))
  | .ints k xs c => .d (.ints k xs c)
  | .row e xs c => .d (.sl e.size (xs.map e.toD) c)
  | .ptr κ off => .ptr κ off
  | .own κ => .own κ
  | .pel κ z n => .pel κ (z * n)
  | .eaddr v => match v.dat with
    | some x => .eaddr x
    | none => .bot
  | .agg l => .agg (SV.toAVs l)
  | .tup l => .tup (SV.toAVs l)
  | .clos f l => .clos f (SV.toAVs l)
  | .wrap k v => .wrap k v.toAV
  | .bot => .bot
termination_by structural v => v
def SV.toAVs : List SV → List AV
  | [] => []
  | v :: l => v.toAV :: SV.toAVs l
termination_by structural l => l
end
theorem toAVs_map : ∀ l : List SV, SV.toAVs l = l.map SV.toAV
  | [] => rfl
  | v :: l => by simp only [SV.toAVs, List.map_cons, toAVs_map l]

inductive SB where
  | box (e : TypeId) (cs : List SV)
  | ints (e : TypeId) (k : IntKind) (xs : List Int) (c : Option Nat)
  | row (e : TypeId) (sh : Sh) (xs : List sh.T) (c : Option Nat)
  | raw (B : Blk)
def SB.toB : SB → Blk
  | .box e cs => .box e (SV.toAVs cs)
  | .ints e k xs c => .ints e k xs c
  | .row e sh xs c => .row e sh.size (xs.map sh.toD) c
  | .raw B => B
structure SSt where
  n : Nat
  tm : List (Nat × SV)
  hp : List (Nat × SB)
def mapk {α β : Type} (f : α → β) : List (Nat × α) → List (Nat × β)
  | [] => []
  | (k, v) :: l => (k, f v) :: mapk f l
def SSt.toSt (s : SSt) : St := ⟨s.n, mapk SV.toAV s.tm, mapk SB.toB s.hp⟩

theorem gt_mapk {α β : Type} (f : α → β) (k : Nat) : ∀ l : List (Nat × α), gt k (mapk f l) = (gt k l).map f
  | [] => rfl
  | (j, v) :: l => by
    simp only [mapk, gt]
    split
    · rfl
    · exact gt_mapk f k l
theorem ins_mapk {α β : Type} (f : α → β) (k : Nat) (v : α) : ∀ l : List (Nat × α), mapk f (ins k v l) = ins k (f v) (mapk f l)
  | [] => rfl
  | (j, u) :: l => by
    simp only [mapk, ins]
    split
    · rfl
    · split
      · rfl
      · simp only [mapk, ins_mapk f k v l]
theorem mapv_mapk {α β : Type} {f : α → β} {g : α → α} {g' : β → β} (h : ∀ v, f (g v) = g' (f v)) : ∀ l : List (Nat × α), mapk f (mapv g l) = mapv g' (mapk f l)
  | [] => rfl
  | (j, u) :: l => by simp only [mapk, mapv, h, mapv_mapk h l]
theorem del_mapk {α β : Type} (f : α → β) (k : Nat) : ∀ l : List (Nat × α), mapk f (del k l) = del k (mapk f l)
  | [] => rfl
  | (j, u) :: l => by
    simp only [mapk, del]
    split
    · exact del_mapk f k l
    · simp only [mapk, del_mapk f k l]

/-! ### Less is said -/
def AVLe (v v' : AV) : Prop := ∀ (w : World) (F : Nat → Prop) (m : Nat → Value) (u : Value), RepV w F m v u → RepV w F m v' u
def DLe (d d' : D) : Prop := ∀ (w : World) (F : Nat → Prop) (u : Value), RepD w F d u → RepD w F d' u
def LeSt (s' s : St) : Prop := ∀ (c : Ctx) (m : Nat → Value) (a : Act) (w : World), SRep c m s a w → SRep c m s' a w
theorem AVLe.refl (v : AV) : AVLe v v := fun _ _ _ _ h => h
theorem AVLe.of_eq {v v' : AV} (h : v = v') : AVLe v v' := h ▸ AVLe.refl v
theorem AVLe.trans {a b c : AV} (h : AVLe a b) (h' : AVLe b c) : AVLe a c := fun w F m u x => h' w F m u (h w F m u x)
theorem DLe.refl (d : D) : DLe d d := fun _ _ _ h => h
theorem DLe.av {d d' : D} (h : DLe d d') : AVLe (.d d) (.d d') := fun w F m u x => by
  simp only [RepV] at x ⊢; exact h w F u x
theorem LeSt.refl (s : St) : LeSt s s := fun _ _ _ _ h => h
theorem LeSt.of_eq {s s' : St} (h : s' = s) : LeSt s' s := h ▸ LeSt.refl s
theorem LeSt.trans {a b c : St} (h : LeSt a b) (h' : LeSt b c) : LeSt a c := fun cx m ac w x => h cx m ac w (h' cx m ac w x)
theorem LeSt.sub {s' s : St} (h : Sub s' s) : LeSt s' s := fun _ _ _ _ x => x.sub h
theorem awp_le {P : Program} {c : Code} {Q : Exit → St → Prop} {s s' : St} (h : LeSt s' s) (ha : AWp P c Q s') : AWp P c Q s := fun cx m a w hr => ha cx m a w (h cx m a w hr)
theorem awpl_le {P : Program} {ops : Array Oper} {l : List Oper} {R : St → Prop} {s s' : St} (h : LeSt s' s) (ha : AWpL P ops l R s') : AWpL P ops l R s := fun cx m a w K hr hK => ha cx m a w K (h cx m a w hr) hK
theorem le_put {s : St} {dst : Option Nat} {v v' : AV} (h : AVLe v v') : LeSt (s.put dst v') (s.put dst v) := by
  intro c m a w hr
  cases dst with
  | none => exact hr
  | some d =>
    refine { hr with slot := fun t x hx => ?_ }
    replace hx : gt t (ins d v' s.tm) = some x := hx
    rw [gt_ins] at hx
    split at hx
    · rename_i e
      simp only [Option.some.injEq] at hx; subst hx
      have := hr.slot t v (by show gt t (ins d v s.tm) = some v; rw [gt_ins, if_pos e])
      exact h _ _ _ _ this
    · rename_i e
      exact hr.slot t x (by show gt t (ins d v s.tm) = some x; rw [gt_ins, if_neg e]; exact hx)
/-- A slot, of which less is said. -/
theorem le_slot {s : St} {t : Nat} {v v' : AV} (ht : gt t s.tm = some v) (h : AVLe v v') : LeSt { s with tm := ins t v' s.tm } s := by
  intro c m a w hr
  refine { hr with slot := fun t' x hx => ?_ }
  replace hx : gt t' (ins t v' s.tm) = some x := hx
  rw [gt_ins] at hx
  split at hx
  · rename_i e
    simp only [Option.some.injEq] at hx; subst hx; subst e
    exact h _ _ _ _ (hr.slot _ _ ht)
  · exact hr.slot t' x hx
def BLe (B B' : Blk) : Prop := ∀ (w : World) (F : Nat → Prop) (m : Nat → Value) (κ : Nat), RepB w F m κ B → RepB w F m κ B'
theorem BLe.refl (B : Blk) : BLe B B := fun _ _ _ _ h => h
/-- A block, of which less is said. -/
theorem le_blk {s : St} {κ : Nat} {B B' : Blk} (hB : gt κ s.hp = some B) (h : BLe B B') : LeSt { s with hp := ins κ B' s.hp } s := by
  intro c m a w hr
  have hg : ∀ j C, gt j (ins κ B' s.hp) = some C → ∃ C0, gt j s.hp = some C0 := by
    intro j C hC
    rw [gt_ins] at hC
    split at hC
    · rename_i e; subst e; exact ⟨B, hB⟩
    · exact ⟨C, hC⟩
  have ho : ∀ b, Owned m (ins κ B' s.hp) b ↔ Owned m s.hp b := by
    intro b
    constructor
    · rintro ⟨j, C, hC, hb⟩
      obtain ⟨C0, h0⟩ := hg j C hC
      exact ⟨j, C0, h0, hb⟩
    · rintro ⟨j, C, hC, hb⟩
      by_cases e : j = κ
      · exact ⟨j, B', by rw [gt_ins, if_pos e], hb⟩
      · exact ⟨j, C, by rw [gt_ins, if_neg e]; exact hC, hb⟩
  have hF : Forb c m (ins κ B' s.hp) = Forb c m s.hp := by
    funext b
    simp only [Forb, ho b]
  refine { hr with slot := ?_, heap := ?_, sep := ?_, nox := ?_, old := ?_ }
  · intro t v hv
    show RepV w (Forb c m (ins κ B' s.hp)) m v _
    rw [hF]; exact hr.slot t v hv
  · intro j C hC
    show RepB w (Forb c m (ins κ B' s.hp)) m j C
    rw [hF]
    replace hC : gt j (ins κ B' s.hp) = some C := hC
    rw [gt_ins] at hC
    split at hC
    · rename_i e; simp only [Option.some.injEq] at hC; subst hC; subst e; exact h _ _ _ _ (hr.heap _ _ hB)
    · exact hr.heap j C hC
  · intro j j' C C' b h1 h2
    obtain ⟨_, h1⟩ := hg j C h1
    obtain ⟨_, h2⟩ := hg j' C' h2
    exact hr.sep j j' _ _ b h1 h2
  · intro j C b h1
    obtain ⟨_, h1⟩ := hg j C h1
    exact hr.nox j _ b h1
  · intro j C b h1
    obtain ⟨_, h1⟩ := hg j C h1
    exact hr.old j _ b h1

/-! ### Data -/
theorem repV_d {w : World} {F : Nat → Prop} {m : Nat → Value} {x : D} {u : Value} : RepV w F m (.d x) u ↔ RepD w F x u := by simp only [RepV]
/-- The cells of data that is a struct. -/
theorem repAgg_cells {w : World} {F : Nat → Prop} {m : Nat → Value} {ds : List D} {u : Value} (h : RepD w F (.agg ds) u) : RepV w F m (.agg (ds.map .d)) u := by
  simp only [RepD] at h
  obtain ⟨us, rfl, hr⟩ := h
  obtain ⟨hl, hg⟩ := RepOnes_iff.1 hr
  simp only [RepV]
  refine ⟨us, rfl, RepVs_iff.2 ⟨by simpa using hl, fun i v hv => ?_⟩, fun z hz => ?_⟩
  · rw [List.getElem?_map] at hv
    obtain ⟨d, hd, rfl⟩ := Option.map_eq_some_iff.1 hv
    obtain ⟨u, h1, _, h3⟩ := hg i d hd
    exact ⟨u, h1, by simpa only [RepV] using h3⟩
  · obtain ⟨i, hi⟩ := List.getElem?_of_mem hz
    have hlt : i < ds.length := by rw [hl]; exact (List.getElem?_eq_some_iff.1 hi).1
    obtain ⟨u, h1, h2, _⟩ := hg i ds[i] (List.getElem?_eq_getElem hlt)
    rw [hi] at h1; cases h1; exact h2
theorem repAgg_back {w : World} {F : Nat → Prop} {m : Nat → Value} {ds : List D} {u : Value} (h : RepV w F m (.agg (ds.map .d)) u) : RepD w F (.agg ds) u := by
  simp only [RepV] at h
  obtain ⟨us, rfl, hr, h1⟩ := h
  have := mkAgg_rep hr h1
  have e : mkAgg (ds.map AV.d) = .d (.agg ds) := by
    have : allD (ds.map AV.d) = some ds := by
      clear hr this
      induction ds with
      | nil => rfl
      | cons d l ih => simp only [List.map_cons, allD, ih]; rfl
    simp only [mkAgg, this]
  rw [e] at this
  simpa only [RepV] using this

mutual
theorem SV.dat_le : ∀ (v : SV) (x : D), v.dat = some x → AVLe v.toAV (.d x)
  | .d y, x, h => by simp only [SV.dat] at h; cases h; exact AVLe.refl _
  | .i k y, x, h => by simp only [SV.dat] at h; cases h; exact AVLe.refl _
  | .b y, x, h => by simp only [SV.dat] at h; cases h; exact AVLe.refl _
  | .s y, x, h => by simp only [SV.dat] at h; cases h; exact AVLe.refl _
  | .ints k y c, x, h => by simp only [SV.dat] at h; cases h; exact AVLe.refl _
  | .row e y c, x, h => by simp only [SV.dat] at h; cases h; exact AVLe.refl _
  | .agg l, x, h => by
    simp only [SV.dat] at h
    split at h
    · rename_i ds hd
      cases h
      intro w F m u hr
      refine repV_d.2 (repAgg_back (m := m) ?_)
      simp only [SV.toAV, RepV] at hr ⊢
      obtain ⟨us, rfl, h1, h2⟩ := hr
      exact ⟨us, rfl, SV.dats_le l ds hd w F m us h1, h2⟩
    · cases h
  | .ptr _ _, x, h => by simp [SV.dat] at h
  | .own _, x, h => by simp [SV.dat] at h
  | .pel _ _ _, x, h => by simp [SV.dat] at h
  | .eaddr _, x, h => by simp [SV.dat] at h
  | .tup _, x, h => by simp [SV.dat] at h
  | .clos _ _, x, h => by simp [SV.dat] at h
  | .wrap _ _, x, h => by simp [SV.dat] at h
  | .bot, x, h => by simp [SV.dat] at h
theorem SV.dats_le : ∀ (l : List SV) (ds : List D), SV.dats l = some ds → ∀ (w : World) (F : Nat → Prop) (m : Nat → Value) (us : List Value), RepVs w F m (SV.toAVs l) us → RepVs w F m (ds.map .d) us
  | [], ds, h, w, F, m, us, hr => by simp only [SV.dats] at h; cases h; exact hr
  | v :: l, ds, h, w, F, m, us, hr => by
    simp only [SV.dats] at h
    split at h
    · rename_i d ds' h1 h2
      cases h
      simp only [SV.toAVs, RepVs, List.map_cons] at hr ⊢
      obtain ⟨u, rest, e, r1, r2⟩ := hr
      exact ⟨u, rest, e, SV.dat_le v d h1 w F m u r1, SV.dats_le l ds' h2 w F m rest r2⟩
    · cases h
end
/-- A struct, cell by cell. -/
def D.sv : D → SV
  | .agg ds => .agg (ds.map .d)
  | x => .d x
theorem D.sv_le (d : D) : AVLe (.d d) d.sv.toAV := by
  intro w F m u h
  cases d with
  | agg ds =>
    have := repAgg_cells (m := m) (repV_d.1 h)
    simp only [D.sv, SV.toAV, toAVs_map, List.map_map]
    have e : ds.map (SV.toAV ∘ SV.d) = ds.map AV.d := List.map_congr_left fun x _ => by simp [SV.toAV]
    rw [e]; exact this
  | v x => simpa [D.sv, SV.toAV] using h
  | ints k xs c => simpa [D.sv, SV.toAV] using h
  | sl n xs c => simpa [D.sv, SV.toAV] using h

theorem Sh.toD2_agg : ∀ (s : Sh) (x : s.T), s.agg = true → (s.toD2 x).1 = .agg (s.toD2 x).2 ∧ (s.toD2 x).2.length = s.len
  | .nil, x, _ => ⟨rfl, rfl⟩
  | .cons h t, x, _ => by
    refine ⟨rfl, ?_⟩
    cases t with
    | nil => rfl
    | cons a b => simp only [Sh.toD2, List.length_cons, Sh.len]; have := ((Sh.cons a b).toD2_agg x.2 rfl).2; simp only [Sh.toD2, List.length_cons, Sh.len] at this; omega
    | _ => rfl
theorem Sh.toD_notAgg (s : Sh) (x : s.T) (h : s.agg = false) : (s.toD x).isAgg = false := by
  cases s <;> first | rfl | (simp [Sh.agg] at h)
theorem Sh.toD_size (s : Sh) (x : s.T) : (s.toD x).size = s.size := by
  cases s with
  | cons a t => exact ((Sh.cons a t).toD2_agg x rfl).2
  | nil => rfl
  | _ => rfl
theorem Sh.toD_isAgg (s : Sh) (x : s.T) : (s.toD x).isAgg = s.agg := by
  cases s <;> rfl
theorem Sh.sv2_dat : ∀ (s : Sh) (x : s.T), (s.sv2 x).1.dat = some (s.toD2 x).1 ∧ SV.dats (s.sv2 x).2 = some (s.toD2 x).2
  | .i k, x => ⟨rfl, rfl⟩
  | .b, x => ⟨rfl, rfl⟩
  | .s, x => ⟨rfl, rfl⟩
  | .ints k, x => ⟨rfl, rfl⟩
  | .row e, x => ⟨rfl, rfl⟩
  | .nil, x => ⟨rfl, rfl⟩
  | .cons h t, x => by
    have h1 := (h.sv2_dat x.1).1
    have h2 := (t.sv2_dat x.2).2
    constructor <;> simp only [Sh.sv2, Sh.toD2, SV.dat, SV.dats, h1, h2]
theorem Sh.sv_dat (s : Sh) (x : s.T) : (s.sv x).dat = some (s.toD x) := (s.sv2_dat x).1
/-- Well formed: a struct's cells are no structs. -/
def Sh.ok : Sh → Bool
  | .cons h t => !h.agg && t.ok
  | _ => true
theorem Sh.sv_one (s : Sh) (x : s.T) (h : s.agg = false) : (s.sv x).toAV = .d (s.toD x) := by
  cases s <;> first | (simp [Sh.agg] at h; done) | (simp [Sh.sv, Sh.sv2, SV.toAV, Sh.toD, Sh.toD2])
theorem Sh.svs_map : ∀ (s : Sh) (x : s.T), s.ok = true → SV.toAVs (s.sv2 x).2 = (s.toD2 x).2.map .d
  | .cons h t, x, hk => by
    simp only [Sh.ok, Bool.and_eq_true, Bool.not_eq_true'] at hk
    have h1 := h.sv_one x.1 hk.1
    simp only [Sh.sv, Sh.toD] at h1
    simp only [Sh.sv2, Sh.toD2, SV.toAVs, List.map_cons, h1, t.svs_map x.2 hk.2]
  | .nil, x, _ => rfl
  | .i k, x, _ => rfl
  | .b, x, _ => rfl
  | .s, x, _ => rfl
  | .ints k, x, _ => rfl
  | .row e, x, _ => rfl
/-- A struct's data are its cells. -/
theorem Sh.sv_le (s : Sh) (x : s.T) (hk : s.ok = true) : AVLe (.d (s.toD x)) (s.sv x).toAV := by
  cases hg : s.agg with
  | false => exact AVLe.of_eq (s.sv_one x hg).symm
  | true =>
    intro w F m u hr
    have h0 := (s.toD2_agg x hg).1
    have h1 : RepV w F m (.agg ((s.toD2 x).2.map .d)) u := repAgg_cells (m := m) (by rw [← h0]; exact repV_d.1 hr)
    have h2 : s.sv x = .agg (s.sv2 x).2 := by
      cases s <;> first | rfl | (simp [Sh.agg] at hg)
    rw [h2]
    simp only [SV.toAV, s.svs_map x hk]
    exact h1

/-! ### A value taken as one of a shape -/
def castSh (a b : Sh) (xs : List a.T) : Option (List b.T) := if h : a = b then some (h ▸ xs) else none
theorem castSh_some {a b : Sh} {xs : List a.T} {ys : List b.T} (h : castSh a b xs = some ys) : a.size = b.size ∧ xs.map a.toD = ys.map b.toD := by
  unfold castSh at h
  split at h
  · rename_i e; subst e; cases h; exact ⟨rfl, rfl⟩
  · cases h
/-- One cell. -/
def SV.asC : (s : Sh) → SV → Option s.T
  | .i k, .i k' x => if k = k' then some x else none
  | .i k, .d (.v (.int k' x)) => if k = k' then some x else none
  | .b, .b x => some x
  | .b, .d (.v (.bool x)) => some x
  | .s, .s x => some x
  | .s, .d (.v (.string x)) => some x
  | .ints k, .ints k' xs _ => if k = k' then some xs else none
  | .ints k, .d (.v (.slice none 0 0)) => some ([] : List Int)
  | .ints k, .d (.ints k' xs _) => if k = k' then some xs else none
  | .row e, .row e' xs _ => castSh e' e xs
  | .row e, .d (.v (.slice none 0 0)) => some ([] : List e.T)
  | .row e, .d (.sl n [] _) => if n = e.size then some ([] : List e.T) else none
  | _, _ => none
def SV.asCs : (s : Sh) → List SV → Option s.T
  | .nil, [] => some ()
  | .cons h t, v :: l => match SV.asC h v, SV.asCs t l with
    | some x, some y => some (x, y)
    | _, _ => none
  | _, _ => none
def SV.asT (s : Sh) (v : SV) : Option s.T :=
  match s with
  | .cons h t => match v with
    | .agg l => SV.asCs (.cons h t) l
    | .d (.agg ds) => SV.asCs (.cons h t) (ds.map .d)
    | _ => none
  | .nil => none
  | s => SV.asC s v
theorem repD_nil {w : World} {F : Nat → Prop} {x : Value} {u : Value} (h : RepD w F (.v x) u) : u = x := by simp only [RepD] at h; exact h.1
theorem repD_ints_cap {w : World} {F : Nat → Prop} {k : IntKind} {xs : List Int} {c : Option Nat} {u : Value} (h : RepD w F (.ints k xs c) u) : RepD w F (.ints k xs none) u := by
  have := uncap_rep h
  simpa only [uncap] using this
theorem repD_sl_cap {w : World} {F : Nat → Prop} {n : Nat} {xs : List D} {c : Option Nat} {u : Value} (h : RepD w F (.sl n xs c) u) : RepD w F (.sl n xs none) u := by
  have := uncap_rep h
  simpa only [uncap] using this
theorem nil_ints {k : IntKind} : DLe (.v (.slice none 0 0)) (.ints k [] none) := fun w F u h => by
  have := repD_nil h; subst this
  simp only [RepD]
  exact ⟨none, 0, rfl, Nat.le_refl _, Nat.zero_le _, fun _ => rfl, by simp, fun h => absurd rfl h⟩
theorem nil_row {n : Nat} : DLe (.v (.slice none 0 0)) (.sl n [] none) := fun w F u h => by
  have := repD_nil h; subst this
  simp only [RepD]
  exact ⟨none, 0, [], rfl, Nat.le_refl _, Nat.zero_le _, fun _ => rfl, by simp, by simp only [RepRow], fun h => absurd rfl h⟩
theorem asC_le {s : Sh} {v : SV} {x : s.T} (h : SV.asC s v = some x) : AVLe v.toAV (.d (s.toD x)) := by
  unfold SV.asC at h
  split at h
  all_goals first
    | (cases h; done)
    | (split at h; rotate_left; · cases h
       rename_i e; subst e; simp only [Option.some.injEq] at h; subst h; intro w F m u hr; simp only [SV.toAV, repV_d, Sh.toD, Sh.toD2] at hr ⊢; first | exact hr | exact repD_ints_cap hr)
    | (simp only [Option.some.injEq] at h; subst h; intro w F m u hr; simp only [SV.toAV, repV_d, Sh.toD, Sh.toD2] at hr ⊢; first | exact hr | exact nil_ints _ _ _ hr | (simp only [List.map_nil]; exact nil_row _ _ _ hr))
    | skip
  · obtain ⟨h1, h2⟩ := castSh_some h
    intro w F m u hr
    simp only [SV.toAV, repV_d] at hr ⊢
    have := repD_sl_cap hr
    simp only [Sh.toD, Sh.toD2]
    rw [h1, h2] at this; exact this
  · split at h
    · rename_i e; subst e; cases h
      intro w F m u hr
      simp only [SV.toAV, repV_d, Sh.toD, Sh.toD2, List.map_nil] at hr ⊢
      exact repD_sl_cap hr
    · cases h
theorem asCs_le : ∀ {s : Sh} {l : List SV} {x : s.T}, SV.asCs s l = some x → ∀ (w : World) (F : Nat → Prop) (m : Nat → Value) (us : List Value), RepVs w F m (SV.toAVs l) us → RepVs w F m ((s.toD2 x).2.map .d) us
  | .nil, l, x, h, w, F, m, us, hr => by
    cases l with
    | nil => exact hr
    | cons v l => simp [SV.asCs] at h
  | .cons a t, l, x, h, w, F, m, us, hr => by
    cases l with
    | nil => simp [SV.asCs] at h
    | cons v l =>
      simp only [SV.asCs] at h
      split at h
      · rename_i y z h1 h2
        cases h
        simp only [SV.toAVs, RepVs, Sh.toD2, List.map_cons] at hr ⊢
        obtain ⟨u, rest, e, r1, r2⟩ := hr
        exact ⟨u, rest, e, asC_le h1 w F m u r1, asCs_le h2 w F m rest r2⟩
      · cases h
  | .i k, l, x, h, w, F, m, us, hr => by simp [SV.asCs] at h
  | .b, l, x, h, w, F, m, us, hr => by simp [SV.asCs] at h
  | .s, l, x, h, w, F, m, us, hr => by simp [SV.asCs] at h
  | .ints k, l, x, h, w, F, m, us, hr => by simp [SV.asCs] at h
  | .row e, l, x, h, w, F, m, us, hr => by simp [SV.asCs] at h
theorem asAgg_le {h t : Sh} {l : List SV} {x : (Sh.cons h t).T} (hx : SV.asCs (.cons h t) l = some x) : AVLe (.agg (SV.toAVs l)) (.d ((Sh.cons h t).toD x)) := by
  intro w F m u hr
  refine repV_d.2 (repAgg_back (m := m) ?_)
  simp only [RepV] at hr ⊢
  obtain ⟨us, rfl, h1, h2⟩ := hr
  exact ⟨us, rfl, asCs_le hx w F m us h1, h2⟩
theorem asT_le {s : Sh} {v : SV} {x : s.T} (h : SV.asT s v = some x) : AVLe v.toAV (.d (s.toD x)) := by
  unfold SV.asT at h
  split at h
  · split at h
    · simp only [SV.toAV]; exact asAgg_le h
    · rename_i ds
      have h1 := asAgg_le h
      refine AVLe.trans ?_ h1
      have := D.sv_le (.agg ds)
      simpa only [D.sv, SV.toAV] using this
    · cases h
  · cases h
  · exact asC_le h
end Go.Proofs.Ytpdbekbobkjfgaa
