/-
  An abstract view of the machine, part 8: structs that are built, and one function for all operations that turn nothing.
  Conditions: none; nothing here speaks of one program.
-/
import Derived.Test.YtpdbekbobkjfgaaAM7
namespace Go.Proofs.Ytpdbekbobkjfgaa
open Go.RowKit
set_option linter.unusedVariables false

/-- The cells of a value. -/
def AV.parts : AV → Option (List AV)
  | .agg cs => some cs
  | .d (.agg ds) => some (ds.map .d)
  | .tup _ => none
  | .bot => none
  | v => some [v]

theorem repV_one {w : World} {F : Nat → Prop} {m : Nat → Value} {v : AV} {u : Value} (h : RepV w F m v u) (h1 : v.fields = none) (h2 : ∀ vs, v ≠ .tup vs) (h3 : v ≠ .bot) : u.oneCell' = true := by
  cases v with
  | d x =>
    simp only [RepV] at h
    refine repD_notAgg h ?_
    cases x <;> first | rfl | simp [AV.fields] at h1
  | ptr κ off => simp only [RepV] at h; obtain ⟨b, _, rfl⟩ := h; rfl
  | own κ => simp only [RepV] at h; exact h.2
  | pel κ off => simp only [RepV] at h; obtain ⟨b, _, _, _, rfl⟩ := h; rfl
  | eaddr x => simp only [RepV] at h; obtain ⟨b, _, _, rfl, _⟩ := h; rfl
  | agg cs => simp [AV.fields] at h1
  | tup vs => exact absurd rfl (h2 vs)
  | clos f caps => simp only [RepV] at h; obtain ⟨us, rfl, _⟩ := h; rfl
  | wrap k v => simp only [RepV] at h; obtain ⟨u0, rfl, _⟩ := h; exact k.one u0
  | bot => exact absurd rfl h3

theorem parts_rep {w : World} {F : Nat → Prop} {m : Nat → Value} {v : AV} {u : Value} {cs : List AV} (h : RepV w F m v u) (hp : v.parts = some cs) : RepVs w F m cs u.cells.toList ∧ ∀ z ∈ u.cells.toList, z.oneCell' = true := by
  by_cases hf : ∃ l, v.fields = some l
  · obtain ⟨l, hf⟩ := hf
    have : l = cs := by
      cases v with
      | agg l' => simp [AV.fields, AV.parts] at hf hp; rw [← hf, hp]
      | d x => cases x <;> simp [AV.fields, AV.parts] at hf hp; rw [← hf, hp]
      | _ => simp [AV.fields] at hf
    subst this
    obtain ⟨us, rfl, hr, h1⟩ := fields_rep h hf
    exact ⟨by simpa [Value.cells] using hr, by simpa [Value.cells] using h1⟩
  · have hn : v.fields = none := by
      cases hv : v.fields with
      | none => rfl
      | some l => exact absurd ⟨l, hv⟩ hf
    have h2 : ∀ vs, v ≠ .tup vs := by rintro vs rfl; simp [AV.parts] at hp
    have h3 : v ≠ .bot := by rintro rfl; simp [AV.parts] at hp
    have h0 := repV_one h hn h2 h3
    have : cs = [v] := by
      cases v with
      | d x => cases x <;> simp [AV.parts, AV.fields] at hp hn ⊢ <;> exact hp.symm
      | agg l => simp [AV.fields] at hn
      | tup vs => exact absurd rfl (h2 vs)
      | bot => exact absurd rfl h3
      | _ => simp [AV.parts] at hp; exact hp.symm
    subst this
    rw [cells_one h0]
    simp only [RepVs]
    exact ⟨⟨u, [], by simp, h, rfl⟩, by simpa using h0⟩

/-- Parts laid into a row of cells. -/
def layA (place : Nat → Option (Nat × Nat)) : List AV → List (Nat × AV) → Option (List AV)
  | cs, [] => some cs
  | cs, (i, v) :: rest => match place i, v.parts with
    | some (off, n), some ps => if ps.length = n ∧ off + n ≤ cs.length then layA place (cs.take off ++ ps ++ cs.drop (off + n)) rest else none
    | _, _ => none

theorem fold_set (vs : List Value) : ∀ (i : Nat) (off : Nat) (cs : Array Value), off + i + vs.length ≤ cs.size → ((vs.zipIdx i).foldl (fun (cs : Array Value) (p : Value × Nat) => cs.setIfInBounds (off + p.2) p.1) cs).toList = cs.toList.take (off + i) ++ vs ++ cs.toList.drop (off + i + vs.length) := by
  induction vs with
  | nil => intro i off cs h; simp
  | cons v vs ih =>
    intro i off cs h
    simp only [List.length_cons] at h
    rw [List.zipIdx_cons, List.foldl_cons]
    rw [ih (i + 1) off (cs.setIfInBounds (off + i) v) (by simp; omega)]
    simp only [Array.toList_setIfInBounds]
    have e1 : (cs.toList.set (off + i) v).take (off + (i + 1)) = cs.toList.take (off + i) ++ [v] := by
      rw [show off + (i + 1) = off + i + 1 by omega, List.take_add_one]
      have hlt : off + i < cs.toList.length := by simp; omega
      rw [List.getElem?_set_self hlt, List.take_set, List.set_eq_of_length_le (by rw [List.length_take]; omega)]
      rfl
    have e2 : (cs.toList.set (off + i) v).drop (off + (i + 1) + vs.length) = cs.toList.drop (off + i + (vs.length + 1)) := by
      rw [List.drop_set_of_lt (by omega)]
      congr 1; omega
    rw [e1, e2]
    simp

theorem layA_rep {w : World} {F : Nat → Prop} {m : Nat → Value} {place : Nat → Option (Nat × Nat)} : ∀ {ps : List (Nat × AV)} {us : List (Nat × Value)} {cs cs' : List AV} {zs : Array Value},
    layA place cs ps = some cs' → ps.length = us.length → (∀ (j : Nat) i v, ps[j]? = some (i, v) → ∃ u, us[j]? = some (i, u) ∧ RepV w F m v u) → RepVs w F m cs zs.toList → (∀ z ∈ zs.toList, z.oneCell' = true) →
    ∃ zs', Instr.fill place zs us = some zs' ∧ RepVs w F m cs' zs'.toList ∧ ∀ z ∈ zs'.toList, z.oneCell' = true
  | [], us, cs, cs', zs, h, hl, hu, hr, h1 => by
    simp only [layA, Option.some.injEq] at h; subst h
    have : us = [] := List.eq_nil_of_length_eq_zero hl.symm
    subst this
    exact ⟨zs, rfl, hr, h1⟩
  | (i, v) :: rest, us, cs, cs', zs, h, hl, hu, hr, h1 => by
    simp only [layA] at h
    split at h
    · rename_i off n qs hpl hpa
      split at h
      · rename_i hcond
        obtain ⟨hc1, hc2⟩ := hcond
        obtain ⟨u, hu0, hru⟩ := hu 0 i v rfl
        cases us with
        | nil => simp at hu0
        | cons p us =>
          simp at hu0; subst hu0
          obtain ⟨hq, hq1⟩ := parts_rep hru hpa
          have hql := (RepVs_iff.1 hq).1
          have hrl := (RepVs_iff.1 hr).1
          have hsz : u.cells.size = n := by
            have : u.cells.toList.length = n := by omega
            simpa using this
          have hzl : zs.size = cs.length := by rw [hrl]; simp
          have hfold := fold_set u.cells.toList 0 off zs (by simp; omega)
          have hfill : Instr.fill place zs ((i, u) :: us) = Instr.fill place (u.cells.zipIdx.foldl (fun cs (c, j) => cs.setIfInBounds (off + j) c) zs) us := by
            rw [Instr.fill, hpl]
            have hb : (u.cells.size ≠ n || decide (off + u.cells.size > zs.size)) = false := by
              simp; omega
            simp only [hb]
            rfl
          have hset : (u.cells.zipIdx.foldl (fun cs (c, j) => cs.setIfInBounds (off + j) c) zs).toList = zs.toList.take off ++ u.cells.toList ++ zs.toList.drop (off + n) := by
            have e : u.cells.zipIdx.foldl (fun cs (c, j) => cs.setIfInBounds (off + j) c) zs = (u.cells.toList.zipIdx 0).foldl (fun (cs : Array Value) (p : Value × Nat) => cs.setIfInBounds (off + p.2) p.1) zs := by
              rw [← Array.foldl_toList, Array.toList_zipIdx]
            rw [e, hfold]
            simp [hsz]
          rw [hfill]
          refine layA_rep (zs := u.cells.zipIdx.foldl (fun cs (c, j) => cs.setIfInBounds (off + j) c) zs) h (by simpa using hl) (fun j i' v' hj => by
            obtain ⟨u', h3, h4⟩ := hu (j + 1) i' v' (by simpa using hj)
            exact ⟨u', by simpa using h3, h4⟩) ?_ ?_
          · rw [hset, RepVs_iff]
            rw [RepVs_iff] at hr hq
            refine ⟨by simp [hq.1, hr.1], fun j x hj => ?_⟩
            have ht : (cs.take off).length = (zs.toList.take off).length := by simp [hr.1]
            rw [List.append_assoc] at hj ⊢
            rw [List.getElem?_append] at hj ⊢
            rw [ht] at hj
            split at hj
            · rename_i hlt
              rw [if_pos hlt]
              rw [List.getElem?_take] at hj ⊢
              split at hj
              · rename_i h5; rw [if_pos h5]; exact hr.2 j x hj
              · cases hj
            · rename_i hge
              rw [if_neg hge]
              rw [List.getElem?_append] at hj ⊢
              rw [hq.1] at hj
              split at hj
              · rename_i hlt; rw [if_pos hlt]; exact hq.2 _ x hj
              · rename_i hge2
                rw [if_neg hge2]
                rw [List.getElem?_drop] at hj ⊢
                exact hr.2 _ x hj
          · rw [hset]
            intro z hz
            rcases List.mem_append.1 hz with hz | hz
            · rcases List.mem_append.1 hz with hz | hz
              · exact h1 z (List.mem_of_mem_take hz)
              · exact hq1 z hz
            · exact h1 z (List.mem_of_mem_drop hz)
      · cases h
    · cases h

/-- The operands of parts. -/
def St.evP (s : St) : List (Nat × Operand) → Option (List (Nat × AV))
  | [] => some []
  | (i, x) :: l => match s.ev x, s.evP l with
    | some v, some r => some ((i, v) :: r)
    | _, _ => none

theorem evP_rep {c : Ctx} {m : Nat → Value} {s : St} {a : Act} {w : World} (h : SRep c m s a w) : ∀ {l : List (Nat × Operand)} {ps : List (Nat × AV)}, s.evP l = some ps → ps.length = (l.map fun p => (p.1, a.eval p.2)).length ∧ ∀ (j : Nat) i v, ps[j]? = some (i, v) → ∃ u, (l.map fun p => (p.1, a.eval p.2))[j]? = some (i, u) ∧ RepV w (Forb c m s.hp) m v u
  | [], ps, hp => by simp only [St.evP, Option.some.injEq] at hp; subst hp; simp
  | (i, x) :: l, ps, hp => by
    simp only [St.evP] at hp
    split at hp
    · rename_i v r hv hr
      cases hp
      obtain ⟨h1, h2⟩ := evP_rep h hr
      refine ⟨by simp at h1 ⊢; exact h1, fun j i' v' hj => ?_⟩
      cases j with
      | zero => simp at hj; obtain ⟨rfl, rfl⟩ := hj; exact ⟨_, by simp, h.ev hv⟩
      | succ j => simp at hj; obtain ⟨u, h3, h4⟩ := h2 j i' v' hj; exact ⟨u, by simpa using h3, h4⟩
    · cases hp

/-- The cells of a type's zero value. -/
def zeroT (P : Program) (t : TypeId) : Option (List Value) :=
  match (P.info? t).bind (·.zero) with
  | some z => if z.cells.toList.all (·.oneCell') then some z.cells.toList else none
  | none => none
theorem zeroT_run {P : Program} {t : TypeId} {zs : List Value} (h : zeroT P t = some zs) (w : World) : ∃ z, (zeroValue t).run P w = .ok z w ∧ z.cells.toList = zs ∧ ∀ u ∈ zs, u.oneCell' = true := by
  unfold zeroT at h
  split at h
  · rename_i z hz
    obtain ⟨i, hi, hz⟩ := Option.bind_eq_some_iff.1 hz
    split at h
    · rename_i hall
      cases h
      refine ⟨z, by simp [zeroValue, typeInfo, hi, hz], rfl, fun u hu => List.all_eq_true.1 hall u hu⟩
    · cases h
  · cases h
theorem zeros_rep {w : World} {F : Nat → Prop} {m : Nat → Value} {zs : List Value} (h : ∀ u ∈ zs, u.oneCell' = true) : RepVs w F m (zs.map fun z => .d (.v z)) zs := by
  rw [RepVs_iff]
  refine ⟨by simp, fun i v hi => ?_⟩
  rw [List.getElem?_map] at hi
  obtain ⟨z, hz, rfl⟩ := Option.map_eq_some_iff.1 hi
  exact ⟨z, hz, repV_v.2 ⟨rfl, h z (List.mem_of_getElem? hz)⟩⟩

/-- Where the parts of a struct or an array lie. -/
def placeT (P : Program) (t : TypeId) : Option (Nat → Option (Nat × Nat)) :=
  match P.underlying t with
  | some (.struct fs) => (fs.toList.mapM (fun f => (P.info? f.type).map fun i => (f.offset, i.size))).map fun pl => fun i => pl.toArray[i]?
  | some (.array _ e) => (P.info? e).map fun ie => fun i => some (i * ie.size, ie.size)
  | _ => none
def buildV (P : Program) (t : TypeId) (ps : List (Nat × AV)) : Option AV :=
  match placeT P t, zeroT P t with
  | some place, some zs => omap (layA place (zs.map fun z => .d (.v z)) ps) mkAgg
  | _, _ => none

theorem built_of {P : Program} {t : TypeId} {place : Nat → Option (Nat × Nat)} {z : Value} {ti : TypeInfo} (hp : placeT P t = some place) (hi : P.info? t = some ti) (hz : ti.zero = some z) (us : List (Nat × Value)) : P.built t us = Instr.fill place z.cells us := by
  unfold placeT at hp
  unfold Program.built
  split at hp
  · rename_i fs hu
    obtain ⟨pl, hpl, rfl⟩ := Option.map_eq_some_iff.1 hp
    simp only [hi, hu, hz, hpl]
  · rename_i n e hu
    obtain ⟨ie, hie, rfl⟩ := Option.map_eq_some_iff.1 hp
    simp only [hi, hu, hz, hie]
  · cases hp

theorem buildV_sound {P : Program} {c : Ctx} {m : Nat → Value} {s : St} {a : Act} {w : World} (h : SRep c m s a w) {o : Oper} {t : TypeId} {l : Array (Nat × Operand)} {ps : List (Nat × AV)} {v : AV}
    (ho : o.op = .build t l) (hp : s.evP l.toList = some ps) (hv : buildV P t ps = some v) : ∃ u, Yld P o a w u ∧ RepV w (Forb c m s.hp) m v u := by
  obtain ⟨e1, e2⟩ := evP_rep h hp
  unfold buildV at hv
  split at hv
  · rename_i place zs hpl hz
    obtain ⟨cs', hlay, rfl⟩ := Option.map_eq_some_iff.1 hv
    unfold zeroT at hz
    split at hz
    · rename_i z hz0
      obtain ⟨ti, hi, hz0⟩ := Option.bind_eq_some_iff.1 hz0
      split at hz
      · rename_i hall
        cases hz
        have hz3 : ∀ u ∈ z.cells.toList, u.oneCell' = true := fun u hu => List.all_eq_true.1 hall u hu
        obtain ⟨zs', hf1, hf2, hf3⟩ := layA_rep (zs := z.cells) hlay e1 e2 (zeros_rep hz3) hz3
        refine ⟨.agg zs', ?_, by simpa using mkAgg_rep hf2 hf3⟩
        have hb := run_build (P := P) w t (l.map fun p => (p.1, a.eval p.2)) zs' (by rw [built_of hpl hi hz0]; simpa using hf1)
        unfold Yld
        simp only [execOp, ho, Sem.run_bind]
        rw [hb]; rfl
      · cases hz
    · cases hz
  · cases hv

/-- The smallest of integers. -/
def minI : List AV → Option AV
  | [.d (.v (.int k a)), .d (.v (.int k' b))] => if k = k' then some (.d (.v (.int k (if b < a then b else a)))) else none
  | _ => none

def St.evL (s : St) : List Operand → Option (List AV)
  | [] => some []
  | x :: l => match s.ev x, s.evL l with
    | some v, some r => some (v :: r)
    | _, _ => none
theorem evL_rep {c : Ctx} {m : Nat → Value} {s : St} {a : Act} {w : World} (h : SRep c m s a w) : ∀ {l : List Operand} {vs : List AV}, s.evL l = some vs → RepVs w (Forb c m s.hp) m vs (l.map a.eval)
  | [], vs, hp => by simp only [St.evL, Option.some.injEq] at hp; subst hp; simp [RepVs]
  | x :: l, vs, hp => by
    simp only [St.evL] at hp
    split at hp
    · rename_i v r hv hr
      cases hp
      simp only [RepVs, List.map_cons]
      exact ⟨_, _, rfl, h.ev hv, evL_rep h hr⟩
    · cases hp

/-- An own row as data. -/
def St.asD (s : St) : AV → AV
  | .own κ => match obind (gt κ s.hp) Blk.data with
    | some d => .d d
    | none => .own κ
  | v => v
theorem asD_any {w : World} {F : Nat → Prop} {m : Nat → Value} {v : AV} {u : Value} (h : RepV w F m v u) : RepV w (fun _ => False) m v u := RepV.kept (fun b _ _ => ⟨fun h => h, rfl⟩) (Nat.le_refl _) v u h
theorem asD_rep {c : Ctx} {m : Nat → Value} {s : St} {a : Act} {w : World} (h : SRep c m s a w) {v : AV} {u : Value} (hv : RepV w (Forb c m s.hp) m v u) : RepV w (fun _ => False) m (s.asD v) u := by
  unfold St.asD
  split
  · rename_i κ
    split
    · rename_i d hd
      obtain ⟨B, hB, hd⟩ := Option.bind_eq_some_iff.1 hd
      simp only [RepV] at hv ⊢
      rw [hv.1]
      exact RepB.data (h.heap κ B hB) hd (fun b _ _ => ⟨fun h => h, rfl⟩) (fun b _ h => h)
    · exact asD_any hv
  · exact asD_any hv

/-- The method of a type, where its receiver is the value itself. -/
def methA (P : Program) (t : TypeId) (n : String) : Option FuncId :=
  match P.info? t with
  | some i => match i.methods.find? (·.name == n) with
    | some mt => if mt.path.isEmpty then
        (match mt.func with
        | some (f, pr) => match P.underlying t with
          | some (.pointer _) => if pr then some f else none
          | some _ => if pr then none else some f
          | none => none
        | none => none) else none
    | none => none
  | none => none
theorem methA_run {P : Program} {t : TypeId} {n : String} {f : FuncId} (h : methA P t n = some f) (k : Nat) (v : Value) (w : World) : (method (k + 1) t v n).run P w = .ok (f, v) w := by
  unfold methA at h
  split at h
  · rename_i i hi
    split at h
    · rename_i mt hm
      split at h
      · rename_i hp
        have hp' : mt.path.toList = [] := by
          have : mt.path = #[] := by simpa using hp
          rw [this]
        split at h
        · rename_i f' pr hf
          split at h
          · rename_i e hu
            split at h
            · rename_i hpr
              cases h
              subst hpr
              simp [method, typeInfo, hi, hm, hp', follow, hf, receiverAt, run_underlying hu, Place.get]
            · cases h
          · rename_i d hne hu
            split at h
            · cases h
            · rename_i hpr
              cases h
              have hpr : pr = false := by simpa using hpr
              subst hpr
              cases d <;> first | exact absurd rfl (hne _) | simp [method, typeInfo, hi, hm, hp', follow, hf, receiverAt, run_underlying hu, Place.get]
          · cases h
        · cases h
      · cases h
    · cases h
  · cases h
/-- A method's receiver is seen to be no nil pointer. -/
def nilOk (P : Program) (t : TypeId) (n : String) : Bool :=
  match P.info? t with
  | some i => match i.methods.find? (·.name == n) with
    | some mt => if mt.path.isEmpty then
        (match mt.func with
        | some (_, true) => true
        | some (_, false) => (match P.underlying t with
          | some (.pointer _) => false
          | some _ => true
          | none => false)
        | none => false) else false
    | none => false
  | none => false

theorem nilOk_run {P : Program} {t : TypeId} {n : String} (h : nilOk P t n = true) (k : Nat) (v : Value) (w : World) : (nilAhead (k + Made.depth) t v n).run P w = .ok (some false) w := by
  obtain ⟨k', hk⟩ : ∃ k', k + Made.depth = k' + 1 := ⟨k + Made.depth - 1, by unfold Made.depth; omega⟩
  rw [hk]
  unfold nilOk at h
  split at h
  · rename_i i hi
    split at h
    · rename_i mt hm
      split at h
      · rename_i hp
        have hp' : mt.path.toList = [] := by
          have : mt.path = #[] := by simpa using hp
          rw [this]
        split at h
        · rename_i f hf
          simp [nilAhead, typeInfo, hi, hm, hp', followBlind, hf]
        · rename_i f hf
          split at h
          · cases h
          · rename_i d hu hne
            cases d <;> first | exact (hu _ rfl).elim | simp [nilAhead, typeInfo, hi, hm, hp', followBlind, hf, run_underlying hne]
          · cases h
        · cases h
      · cases h
    · cases h
  · cases h

/-- The value of an operation that turns nothing. -/
def valOp (P : Program) (s : St) (op : Op) : Option AV :=
  match op with
  | .move x => s.ev x
  | .assign x => s.ev x
  | .pick cc x y => match s.ev cc with
    | some (.d (.v (.bool b))) => match s.ev x, s.ev y with
      | some (.d (.v (.bool p))), some (.d (.v (.bool q))) => some (.d (.v (.bool (if b then p else q))))
      | p, q => if b then p else q
    | _ => none
  | .binOp op t x y _ => match s.ev x, s.ev y with
    | some vx, some vy => match binV P op t vx vy with
      | some v => some v
      | none => match nilV P op t (s.asD vx) (s.asD vy) with
        | some v => some v
        | none => match nilI P op t y vx with
          | some v => some v
          | none => structV P op t vx vy
    | _, _ => none
  | .unOp op _ x => obind (s.ev x) (unV op)
  | .convert a b x => match s.ev x with
    | some (.own κ) => obind (obind (gt κ s.hp) Blk.data) fun d => cvtV P a b (.d d)
    | some v => cvtV P a b v
    | none => none
  | .load t x => obind (s.ev x) (loadV P s t)
  | .fieldAddr t x i => obind (s.ev x) (fieldAddrV P t i)
  | .field t x i => obind (s.ev x) (fieldV P t i)
  | .indexAddr t x y => match s.ev x, s.ev y with
    | some vx, some (.d (.v (.int _ i))) => indexAddrV P s t vx i
    | _, _ => none
  | .index t x y => match s.ev x, s.ev y with
    | some vx, some (.d (.v (.int _ i))) => indexV P t vx i
    | _, _ => none
  | .slice t x l h mx => match s.ev x, s.evI l, s.evI h, s.evI mx with
    | some vx, some il, some ih, some im => sliceV P t vx il ih im
    | _, _, _, _ => none
  | .extract x i => match s.ev x with
    | some (.tup vs) => vs[i]?
    | _ => none
  | .build t l => obind (s.evP l.toList) (buildV P t)
  | .nilCheck x => match s.ev x with
    | some (.ptr κ off) => some (.ptr κ off)
    | some (.pel κ off) => some (.pel κ off)
    | some (.eaddr d) => some (.eaddr d)
    | some (.clos f cs) => some (.clos f cs)
    | some (.d (.v (.func (.func f) p q))) => some (.d (.v (.func (.func f) p q)))
    | some (.wrap (.ifc t) v) => some (.wrap (.ifc t) v)
    | some (.wrap (.mth n) (.wrap (.ifc t) v)) => if nilOk P t n = true then some (.wrap (.mth n) (.wrap (.ifc t) v)) else none
    | _ => none
  | .makeFunc (.func f) first caps => if first.toList.isEmpty then (if caps.toList.isEmpty then some (.d (.v (.func (.func f) #[] #[]))) else omap (s.evL caps.toList) (.clos f)) else none
  | .makeFunc (.method n) first caps => match first.toList, caps.toList with
    | [x], [] => omap (s.ev x) (.wrap (.mth n))
    | _, _ => none
  | .makeInterface t x => if ifaceT P t = true then none else match P.underlying t with
    | some _ => omap (s.ev x) (.wrap (.ifc t))
    | none => none
  | .call c => match c.callee with
    | .builtin .len => match c.args.toList, c.argTypes.toList with
      | [x], [t] => omap (obind (s.ev x) (lenV P s t)) fun n => .d (.v (.int .i64 n))
      | _, _ => none
    | .builtin .cap => match c.args.toList, c.argTypes.toList with
      | [x], [t] => omap (obind (s.ev x) (capV P s t)) fun n => .d (.v (.int .i64 n))
      | _, _ => none
    | .builtin .min => match c.args.toList with
      | [x, y] => obind (s.evL [x, y]) minI
      | _ => none
    | _ => none
  | _ => none

theorem valOp_sound {P : Program} {c : Ctx} {m : Nat → Value} {s : St} {a : Act} {w : World} (h : SRep c m s a w) {o : Oper} {v : AV} (hv : valOp P s o.op = some v) : ∃ u, Yld P o a w u ∧ RepV w (Forb c m s.hp) m v u := by
  unfold valOp at hv
  split at hv
  · rename_i x ho
    exact ⟨a.eval x, by unfold Yld; simp only [execOp, ho]; rfl, h.ev hv⟩
  · rename_i x ho
    exact ⟨a.eval x, by unfold Yld; simp only [execOp, ho]; rfl, h.ev hv⟩
  · rename_i cc x y ho
    split at hv
    · rename_i b hb
      have rb := (repV_v.1 (h.ev hb)).1
      have key : ∀ v, (if b then s.ev x else s.ev y) = some v → ∃ u, Yld P o a w u ∧ RepV w (Forb c m s.hp) m v u := by
        intro v hv
        refine ⟨if b then a.eval x else a.eval y, ?_, ?_⟩
        · unfold Yld; simp only [execOp, ho, rb, asBool, Sem.run_bind, Sem.run_pure, Result.andThen_ok]
        · cases b with
          | true => exact h.ev hv
          | false => exact h.ev hv
      split at hv
      · rename_i p q hp hq
        apply key
        rw [hp, hq, ← hv]
        cases b <;> rfl
      · exact key v hv
    · cases hv
  · rename_i op t x y t' ho
    split at hv
    · rename_i vx vy hx hy
      split at hv
      · rename_i v' hb; cases hv; exact binV_sound h ho hx hy hb
      · split at hv
        · rename_i v' hb; cases hv; exact nilV_sound ho (asD_rep h (h.ev hx)) (asD_rep h (h.ev hy)) hb
        · split at hv
          · rename_i v' hb; cases hv; exact nilI_sound ho (h.ev hx) hb
          · exact structV_sound ho (h.ev hx) (h.ev hy) hv
    · cases hv
  · rename_i op t x ho
    obtain ⟨vx, hx, hv⟩ := Option.bind_eq_some_iff.1 hv
    exact unV_sound h ho hx hv
  · rename_i p q x ho
    have fin : ∀ {u : Value}, a.eval x = u → (∃ z, (convert p q u).run P w = .ok z w ∧ RepV w (Forb c m s.hp) m v z) → ∃ u, Yld P o a w u ∧ RepV w (Forb c m s.hp) m v u := by
      rintro u hu ⟨z, h1, h2⟩
      refine ⟨z, ?_, h2⟩
      unfold Yld
      simp only [execOp, ho, hu, Sem.run_bind, h1]; rfl
    split at hv
    · rename_i κ hx
      obtain ⟨d, hd, hv⟩ := Option.bind_eq_some_iff.1 hv
      obtain ⟨B, hB, hd⟩ := Option.bind_eq_some_iff.1 hd
      have rx := h.ev hx
      simp only [RepV] at rx
      have hdat : RepV w (fun _ => False) m (.d d) (m κ) := by
        simp only [RepV]
        exact RepB.data (h.heap κ B hB) hd (fun b _ _ => ⟨fun h => h, rfl⟩) (fun b _ h => h)
      exact fin rx.1 (cvtV_run hdat hv)
    · rename_i vx _ hx
      exact fin rfl (cvtV_run (h.ev hx) hv)
    · cases hv
  · rename_i t x ho
    obtain ⟨vx, hx, hv⟩ := Option.bind_eq_some_iff.1 hv
    exact loadV_sound h ho hx hv
  · rename_i t x i ho
    obtain ⟨vx, hx, hv⟩ := Option.bind_eq_some_iff.1 hv
    exact fieldAddrV_sound h ho hx hv
  · rename_i t x i ho
    obtain ⟨vx, hx, hv⟩ := Option.bind_eq_some_iff.1 hv
    exact fieldV_sound h ho hx hv
  · rename_i t x y ho
    split at hv
    · rename_i vx k i hx hy; exact indexAddrV_sound h ho hx hy hv
    · cases hv
  · rename_i t x y ho
    split at hv
    · rename_i vx k i hx hy; exact indexV_sound h ho hx hy hv
    · cases hv
  · rename_i t x l hh mx ho
    split at hv
    · rename_i vx il ih im hx h1 h2 h3; exact sliceV_sound h ho hx h1 h2 h3 hv
    · cases hv
  · rename_i x i ho
    split at hv
    · rename_i vs hx
      have rx := h.ev hx
      simp only [RepV] at rx
      obtain ⟨us, hu, hr⟩ := rx
      obtain ⟨u, h1, h2⟩ := (RepVs_iff.1 hr).2 i v hv
      refine ⟨u, ?_, h2⟩
      have h3 : us.toArray[i]? = some u := by simpa using h1
      unfold Yld; simp only [execOp, ho, hu, Instr.extract, h3, Sem.run_bind, Sem.run_pure, Result.andThen_ok]
    · cases hv
  · rename_i t l ho
    obtain ⟨ps, hp, hv⟩ := Option.bind_eq_some_iff.1 hv
    exact buildV_sound h ho hp hv
  · rename_i x ho
    split at hv
    · rename_i κ off hx
      cases hv
      have rx := h.ev hx
      refine ⟨a.eval x, ?_, rx⟩
      simp only [RepV] at rx
      obtain ⟨b, _, hu⟩ := rx
      unfold Yld; simp only [execOp, ho, hu]; rfl
    · rename_i κ off hx
      cases hv
      have rx := h.ev hx
      refine ⟨a.eval x, ?_, rx⟩
      simp only [RepV] at rx
      obtain ⟨b, _, _, _, hu⟩ := rx
      unfold Yld; simp only [execOp, ho, hu]; rfl
    · rename_i d hx
      cases hv
      have rx := h.ev hx
      refine ⟨a.eval x, ?_, rx⟩
      simp only [RepV] at rx
      obtain ⟨b, _, _, hu, _⟩ := rx
      unfold Yld; simp only [execOp, ho, hu]; rfl
    · rename_i f cs hx
      cases hv
      have rx := h.ev hx
      refine ⟨a.eval x, ?_, rx⟩
      simp only [RepV] at rx
      obtain ⟨us, hu, _⟩ := rx
      unfold Yld; simp only [execOp, ho, hu]; rfl
    · rename_i f p q hx
      cases hv
      have rx := h.ev hx
      refine ⟨a.eval x, ?_, rx⟩
      have hu := (repV_v.1 rx).1
      unfold Yld; simp only [execOp, ho, hu]; rfl
    · rename_i t vx hx
      cases hv
      have rx := h.ev hx
      refine ⟨a.eval x, ?_, rx⟩
      simp only [RepV] at rx
      obtain ⟨u0, hu, _⟩ := rx
      unfold Yld; simp only [execOp, ho, hu, Wr.val]; rfl
    · rename_i n t vx hx
      split at hv
      · rename_i hok
        cases hv
        have rx := h.ev hx
        refine ⟨a.eval x, ?_, rx⟩
        simp only [RepV] at rx
        obtain ⟨u1, hu, u0, rfl, _⟩ := rx
        unfold Yld
        simp only [execOp, ho, hu, Wr.val]
        have := nilOk_run hok P.types.size u0 w
        simp [this]
      · cases hv
    · cases hv
  · rename_i f first caps ho
    split at hv
    · rename_i hfirst
      have hf : first = #[] := by simpa using hfirst
      subst hf
      split at hv
      · rename_i hcaps
        cases hv
        have hc : caps = #[] := by simpa using hcaps
        subst hc
        refine ⟨.func (.func f) #[] #[], ?_, repV_v.2 ⟨rfl, rfl⟩⟩
        unfold Yld; simp only [execOp, ho, Instr.makeFunc]; simp
      · obtain ⟨vs, hvs, rfl⟩ := Option.map_eq_some_iff.1 hv
        have := evL_rep h hvs
        refine ⟨.func (.func f) #[] (caps.map a.eval), ?_, ?_⟩
        · unfold Yld; simp only [execOp, ho, Instr.makeFunc]; simp
        · simp only [RepV]; exact ⟨_, by rw [← Array.toArray_toList (xs := caps.map a.eval)], by simpa using this⟩
    · cases hv
  · rename_i n first caps ho
    split at hv
    · rename_i x hf hc
      obtain ⟨vx, hx, rfl⟩ := Option.map_eq_some_iff.1 hv
      have hf : first = #[x] := by rw [← Array.toArray_toList (xs := first), hf]
      have hc : caps = #[] := by rw [← Array.toArray_toList (xs := caps), hc]
      subst hf hc
      refine ⟨.func (.method n) #[a.eval x] #[], ?_, ?_⟩
      · unfold Yld; simp only [execOp, ho, Instr.makeFunc]; simp
      · simp only [RepV, Wr.val]; exact ⟨_, rfl, h.ev hx⟩
    · cases hv
  · rename_i t x ho
    split at hv
    · cases hv
    · rename_i hni
      split at hv
      · rename_i d hd
        obtain ⟨vx, hx, rfl⟩ := Option.map_eq_some_iff.1 hv
        refine ⟨.iface t (a.eval x), ?_, ?_⟩
        · unfold Yld
          simp only [execOp, ho, Instr.makeInterface, Sem.run_bind, run_underlying hd, Result.andThen_ok]
          unfold ifaceT at hni
          rw [hd] at hni
          cases d <;> first | rfl | exact absurd rfl hni
        · simp only [RepV, Wr.val]; exact ⟨_, rfl, h.ev hx⟩
      · cases hv
  · rename_i cl ho
    obtain ⟨cal, args, tys⟩ := cl
    simp only at hv
    split at hv
    · split at hv
      · rename_i x t hx ht
        have hx : args = #[x] := by rw [← Array.toArray_toList (xs := args), hx]
        have ht : tys = #[t] := by rw [← Array.toArray_toList (xs := tys), ht]
        subst hx ht
        obtain ⟨n, hn, rfl⟩ := Option.map_eq_some_iff.1 hv
        obtain ⟨vx, hx, hn⟩ := Option.bind_eq_some_iff.1 hn
        exact ⟨_, lenV_sound h ho hx hn, repV_v.2 ⟨rfl, rfl⟩⟩
      · cases hv
    · split at hv
      · rename_i x t hx ht
        have hx : args = #[x] := by rw [← Array.toArray_toList (xs := args), hx]
        have ht : tys = #[t] := by rw [← Array.toArray_toList (xs := tys), ht]
        subst hx ht
        obtain ⟨n, hn, rfl⟩ := Option.map_eq_some_iff.1 hv
        obtain ⟨vx, hx, hn⟩ := Option.bind_eq_some_iff.1 hn
        exact ⟨_, capV_sound h ho hx hn, repV_v.2 ⟨rfl, rfl⟩⟩
      · cases hv
    · split at hv
      · rename_i x y hx
        have hx : args = #[x, y] := by rw [← Array.toArray_toList (xs := args), hx]
        subst hx
        obtain ⟨vs, hvs, hv⟩ := Option.bind_eq_some_iff.1 hv
        have hr := evL_rep h hvs
        unfold minI at hv
        split at hv
        · rename_i k p k' q
          split at hv
          · rename_i hkk
            subst hkk
            cases hv
            simp only [RepVs, List.map_cons, List.map_nil] at hr
            obtain ⟨u1, r1, e1, h1, u2, r2, e2, h2, e3⟩ := hr
            rw [repV_v] at h1 h2
            simp only [List.cons.injEq] at e1
            obtain ⟨e1, e1'⟩ := e1
            rw [← e1'] at e2
            simp only [List.cons.injEq] at e2
            have hx : a.eval x = .int k p := e1.trans h1.1
            have hy : a.eval y = .int k q := e2.1.trans h2.1
            refine ⟨_, ?_, repV_v.2 ⟨rfl, rfl⟩⟩
            unfold Yld
            simp only [execOp, ho, resolve, invoke, builtin, Sem.run_bind, Sem.run_pure, Result.andThen_ok, List.map_toArray, List.map_cons, List.map_nil, hx, hy, Builtin.min_, List.foldlM, Builtin.min2]
          · cases hv
        · cases hv
      · cases hv
    · cases hv
  · cases hv

/-- A box of data alone may be left to be read for good. -/
theorem SRep.fix {c : Ctx} {m : Nat → Value} {s : St} {a : Act} {w : World} (h : SRep c m s a w) {κ : Nat} {e : TypeId} {cs : List AV} {ds : List D} (hB : gt κ s.hp = some (.box e cs)) (hds : allD cs = some ds) : SRep c m (s.fix κ (.agg ds)) a w := by
  have hdom : ∀ j B', gt j (s.fix κ (.agg ds)).hp = some B' → j ≠ κ ∧ ∃ B0, gt j s.hp = some B0 ∧ B' = fixB κ (.agg ds) B0 := by
    intro j B' hj
    obtain ⟨B0, h1, h2⟩ := gt_some_mapv (f := fixB κ (.agg ds)) hj
    rw [gt_del] at h1
    split at h1
    · cases h1
    · rename_i hne; exact ⟨hne, B0, h1, h2⟩
  have hF : ∀ b, Forb c m (s.fix κ (.agg ds)).hp b → Forb c m s.hp b := by
    rintro b (hX | ⟨j, B', h1, h2⟩)
    · exact .inl hX
    · obtain ⟨_, B0, h3, _⟩ := hdom j B' h1
      exact .inr ⟨j, B0, h3, h2⟩
  have hk : Kept w (Forb c m s.hp) w (Forb c m (s.fix κ (.agg ds)).hp) := fun b _ hb => ⟨fun h' => hb (hF b h'), rfl⟩
  obtain ⟨b, cells, h1, h2, h3, h4⟩ := h.heap κ _ hB
  have hx : ∀ u, RepV w (Forb c m (s.fix κ (.agg ds)).hp) m (.ptr κ 0) u → RepV w (Forb c m (s.fix κ (.agg ds)).hp) m (.eaddr (.agg ds)) u := by
    intro u hu
    simp only [RepV] at hu
    obtain ⟨b', h5, rfl⟩ := hu
    rw [h1] at h5; simp at h5; subst h5
    simp only [RepV, RepD]
    refine ⟨b, 0, .agg cells, rfl, ?_, ⟨cells.toList, by simp, allD_rep hds (RepVs.kept hk (Nat.le_refl _) _ _ h3) (by simpa using h4)⟩, (Array.getElem?_eq_some_iff.1 h2).1, fun i z hz => ?_⟩
    · rintro (hX | ⟨j, B', h6, h7⟩)
      · exact h.nox κ _ b hB (by rw [h1]; rfl) hX
      · obtain ⟨hne, B0, h8, _⟩ := hdom j B' h6
        exact h.sep j κ B0 _ b h8 hB hne h7 (by rw [h1]; rfl)
    · rw [Nat.zero_add, cell_of_row w b i cells e (0, 0) h2]; simpa [Value.cells] using hz
  refine ⟨h.defers, h.nt, fun t v ht => ?_, fun j B' hj => ?_, ?_, ?_, ?_, h.fr, h.xlt, h.pin, h.pinp⟩
  · obtain ⟨v0, k1, rfl⟩ := gt_some_mapv (f := fixV κ (.agg ds)) ht
    exact RepV.fix hx v0 _ (RepV.kept hk (Nat.le_refl _) v0 _ (h.slot t v0 k1))
  · obtain ⟨hne, B0, k1, rfl⟩ := hdom j B' hj
    have := RepB.kept hk (Nat.le_refl _) (fun _ _ _ => rfl) (h.heap j B0 k1)
    cases B0 with
    | box e' cs' =>
      obtain ⟨b', c', k2, k3, k4, k5⟩ := this
      exact ⟨b', c', k2, k3, RepVs.fix hx _ _ k4, k5⟩
    | ints e' k xs cc => exact this
    | row e' n xs cc => exact this
  · intro j j' B1 B2 b' k1 k2
    obtain ⟨_, B3, k3, _⟩ := hdom j B1 k1
    obtain ⟨_, B4, k4, _⟩ := hdom j' B2 k2
    exact h.sep j j' B3 B4 b' k3 k4
  · intro j B1 b' k1
    obtain ⟨_, B3, k3, _⟩ := hdom j B1 k1
    exact h.nox j B3 b' k3
  · intro j B1 b' k1
    obtain ⟨_, B3, k3, _⟩ := hdom j B1 k1
    exact h.old j B3 b' k3

end Go.Proofs.Ytpdbekbobkjfgaa
