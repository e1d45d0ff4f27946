/-
  Walks that the kernel reckons out, part 4: operations that make a block or turn one.
  Conditions: none; nothing here speaks of one program.
-/
import Derived.Test.YtpdbekbobkjfgaaAN3
namespace Go.Proofs.Ytpdbekbobkjfgaa
open Go.RowKit
set_option linter.unusedVariables false
set_option linter.constructorNameAsVariable false

/-! ### The view's steps -/
mutual
def killS (κ : Nat) : SV → SV
  | .ptr κ' off => if κ' = κ then .bot else .ptr κ' off
  | .own κ' => if κ' = κ then .bot else .own κ'
  | .pel κ' z n => if κ' = κ then .bot else .pel κ' z n
  | .agg l => .agg (killSs κ l)
  | .tup l => .tup (killSs κ l)
  | .clos f l => .clos f (killSs κ l)
  | .wrap k v => .wrap k (killS κ v)
  | .d x => .d x
  | .i k x => .i k x
  | .b x => .b x
  | .s x => .s x
  | .ints k xs c => .ints k xs c
  | .row e xs c => .row e xs c
  | .eaddr v => .eaddr v
  | .bot => .bot
termination_by structural v => v
def killSs (κ : Nat) : List SV → List SV
  | [] => []
  | v :: l => killS κ v :: killSs κ l
termination_by structural l => l
end
mutual
theorem killS_img (κ : Nat) : ∀ v : SV, (killS κ v).toAV = killV κ v.toAV
  | .ptr κ' off => by simp only [killS, SV.toAV, killV]; split <;> simp only [SV.toAV]
  | .own κ' => by simp only [killS, SV.toAV, killV]; split <;> simp only [SV.toAV]
  | .pel κ' z n => by simp only [killS, SV.toAV, killV]; split <;> simp only [SV.toAV]
  | .agg l => by simp only [killS, SV.toAV, killV, killSs_img κ l]
  | .tup l => by simp only [killS, SV.toAV, killV, killSs_img κ l]
  | .clos f l => by simp only [killS, SV.toAV, killV, killSs_img κ l]
  | .wrap k v => by simp only [killS, SV.toAV, killV, killS_img κ v]
  | .d x => by simp only [killS, SV.toAV, killV]
  | .i k x => by simp only [killS, SV.toAV, killV]
  | .b x => by simp only [killS, SV.toAV, killV]
  | .s x => by simp only [killS, SV.toAV, killV]
  | .ints k xs c => by simp only [killS, SV.toAV, killV]
  | .row e xs c => by simp only [killS, SV.toAV, killV]
  | .eaddr v => by simp only [killS, SV.toAV]; split <;> simp only [killV]
  | .bot => by simp only [killS, SV.toAV, killV]
theorem killSs_img (κ : Nat) : ∀ l : List SV, SV.toAVs (killSs κ l) = killVs κ (SV.toAVs l)
  | [] => rfl
  | v :: l => by simp only [killSs, SV.toAVs, killVs, killS_img κ v, killSs_img κ l]
end
def killSB (κ : Nat) : SB → SB
  | .box e cs => .box e (killSs κ cs)
  | .raw B => .raw (killB κ B)
  | B => B
theorem killSB_img (κ : Nat) (B : SB) : (killSB κ B).toB = killB κ B.toB := by
  cases B <;> simp only [killSB, SB.toB, killB, killSs_img]
def SSt.put (s : SSt) (dst : Option Nat) (v : SV) : SSt :=
  match dst with
  | some d => { s with tm := ins d v s.tm }
  | none => s
theorem put_img (s : SSt) (dst : Option Nat) (v : SV) : (s.put dst v).toSt = s.toSt.put dst v.toAV := by
  cases dst <;> simp only [SSt.put, St.put, SSt.toSt, ins_mapk]
def SSt.setB (s : SSt) (kill : Bool) (κ : Nat) (B : SB) : SSt :=
  if kill then { s with tm := mapv (killS κ) s.tm, hp := ins κ B (mapv (killSB κ) s.hp) } else { s with hp := ins κ B s.hp }
theorem setB_img (s : SSt) (kill : Bool) (κ : Nat) (B : SB) : (s.setB kill κ B).toSt = s.toSt.setB kill κ B.toB := by
  cases kill
  · simp only [SSt.setB, St.setB, SSt.toSt, Bool.false_eq_true, if_false, ins_mapk]
  · simp only [SSt.setB, St.setB, SSt.toSt, if_true, ins_mapk, mapv_mapk (killS_img κ), mapv_mapk (killSB_img κ)]
def SSt.okDst (s : SSt) : Option Nat → Bool
  | some d => decide (d < s.n)
  | none => true
theorem okDst_img (s : SSt) (d : Option Nat) : s.toSt.okDst d = s.okDst d := by cases d <;> rfl
mutual
def datS (κ : Nat) (x : SV) : SV → SV
  | .own κ' => if κ' = κ then x else .own κ'
  | .ptr κ' off => .ptr κ' off
  | .pel κ' z n => .pel κ' z n
  | .agg l => .agg (datSs κ x l)
  | .tup l => .tup (datSs κ x l)
  | .clos f l => .clos f (datSs κ x l)
  | .wrap k v => .wrap k (datS κ x v)
  | .d x => .d x
  | .i k x => .i k x
  | .b x => .b x
  | .s x => .s x
  | .ints k xs c => .ints k xs c
  | .row e xs c => .row e xs c
  | .eaddr v => .eaddr v
  | .bot => .bot
termination_by structural v => v
def datSs (κ : Nat) (x : SV) : List SV → List SV
  | [] => []
  | v :: l => datS κ x v :: datSs κ x l
termination_by structural l => l
end
mutual
theorem datS_img {κ : Nat} {x : SV} {y : D} (hx : x.toAV = .d y) : ∀ v : SV, (datS κ x v).toAV = datV κ y v.toAV
  | .own κ' => by simp only [datS, SV.toAV, datV]; split <;> simp only [SV.toAV, hx]
  | .ptr κ' off => by simp only [datS, SV.toAV, datV]
  | .pel κ' z n => by simp only [datS, SV.toAV, datV]
  | .agg l => by simp only [datS, SV.toAV, datV, datSs_img hx l]
  | .tup l => by simp only [datS, SV.toAV, datV, datSs_img hx l]
  | .clos f l => by simp only [datS, SV.toAV, datV, datSs_img hx l]
  | .wrap k v => by simp only [datS, SV.toAV, datV, datS_img hx v]
  | .d x => by simp only [datS, SV.toAV, datV]
  | .i k x => by simp only [datS, SV.toAV, datV]
  | .b x => by simp only [datS, SV.toAV, datV]
  | .s x => by simp only [datS, SV.toAV, datV]
  | .ints k xs c => by simp only [datS, SV.toAV, datV]
  | .row e xs c => by simp only [datS, SV.toAV, datV]
  | .eaddr v => by simp only [datS, SV.toAV]; split <;> simp only [datV]
  | .bot => by simp only [datS, SV.toAV, datV]
theorem datSs_img {κ : Nat} {x : SV} {y : D} (hx : x.toAV = .d y) : ∀ l : List SV, SV.toAVs (datSs κ x l) = datVs κ y (SV.toAVs l)
  | [] => rfl
  | v :: l => by simp only [datSs, SV.toAVs, datVs, datS_img hx v, datSs_img hx l]
end
def datSB (κ : Nat) (x : SV) (y : D) : SB → SB
  | .box e cs => .box e (datSs κ x cs)
  | .raw B => .raw (datB κ y B)
  | B => B
theorem datSB_img {κ : Nat} {x : SV} {y : D} (hx : x.toAV = .d y) (B : SB) : (datSB κ x y B).toB = datB κ y B.toB := by
  cases B <;> simp only [datSB, SB.toB, datB, datSs_img hx]
/-- What a row reads as. -/
def SB.data : SB → Option (SV × D)
  | .ints e k xs c => some (.ints k xs c, .ints k xs c)
  | .row e sh xs c => some (.row sh xs c, .sl sh.size (xs.map sh.toD) c)
  | .raw B => match B.data with
    | some y => some (.d y, y)
    | none => none
  | _ => none
theorem SB.data_img {B : SB} {x : SV} {y : D} (h : B.data = some (x, y)) : B.toB.data = some y ∧ x.toAV = .d y := by
  cases B <;> simp only [SB.data] at h
  · cases h
  · cases h; exact ⟨rfl, by simp only [SV.toAV]⟩
  · cases h; exact ⟨rfl, by simp only [SV.toAV]⟩
  · split at h
    · rename_i hy; cases h; exact ⟨hy, by simp only [SV.toAV]⟩
    · cases h
def SSt.freeze (s : SSt) (κ : Nat) : Option SSt :=
  match gt κ s.hp with
  | some B => match B.data with
    | some (x, y) => some { s with tm := mapv (datS κ x) s.tm, hp := mapv (datSB κ x y) (del κ s.hp) }
    | none => none
  | none => none
theorem freeze_le {s s' : SSt} {κ : Nat} (h : s.freeze κ = some s') : LeSt s'.toSt s.toSt := by
  unfold SSt.freeze at h
  split at h
  · rename_i B hB
    split at h
    · rename_i x y hd
      cases h
      obtain ⟨h1, h2⟩ := SB.data_img hd
      have e : ({ s with tm := mapv (datS κ x) s.tm, hp := mapv (datSB κ x y) (del κ s.hp) } : SSt).toSt = s.toSt.freeze κ y := by
        simp only [SSt.toSt, St.freeze, mapv_mapk (datS_img h2), mapv_mapk (datSB_img h2), del_mapk]
      rw [e]
      exact fun c m a w hr => hr.freeze (gt_hp hB) h1
    · cases h
  · cases h
def SSt.freezeL (s : SSt) : List Nat → Option SSt
  | [] => some s
  | κ :: l => match s.freeze κ with
    | some s' => s'.freezeL l
    | none => none
theorem freezeL_le : ∀ {l : List Nat} {s s' : SSt}, s.freezeL l = some s' → LeSt s'.toSt s.toSt
  | [], s, s', h => by simp only [SSt.freezeL] at h; cases h; exact LeSt.refl _
  | κ :: l, s, s', h => by
    simp only [SSt.freezeL] at h
    split at h
    · rename_i s1 h1; exact (freezeL_le h).trans (freeze_le h1)
    · cases h

/-! ### Rows of which less is said -/
def DsLe : List D → List D → Prop
  | [], [] => True
  | d :: l, d' :: l' => DLe d d' ∧ DsLe l l'
  | _, _ => False
theorem DsLe.refl : ∀ l : List D, DsLe l l
  | [] => trivial
  | d :: l => ⟨DLe.refl d, DsLe.refl l⟩
theorem DsLe.len : ∀ {l l' : List D}, DsLe l l' → l.length = l'.length
  | [], [], _ => rfl
  | d :: l, d' :: l', h => by simp [DsLe.len h.2]
  | [], _ :: _, h => h.elim
  | _ :: _, [], h => h.elim
theorem DsLe.row {w : World} {F : Nat → Prop} {c : Value → Prop} : ∀ {l l' : List D} {vals : List Value}, DsLe l l' → RepRow w F c l vals → RepRow w F c l' vals
  | [], [], vals, _, h => h
  | d :: l, d' :: l', vals, h, hr => by
    simp only [RepRow] at hr ⊢
    obtain ⟨v, rest, h1, h2, h3, h4⟩ := hr
    exact ⟨v, rest, h1, h2, h.1 _ _ _ h3, DsLe.row h.2 h4⟩
  | [], _ :: _, _, h, _ => h.elim
  | _ :: _, [], _, h, _ => h.elim
theorem DsLe.append : ∀ {a a' b b' : List D}, DsLe a a' → DsLe b b' → DsLe (a ++ b) (a' ++ b')
  | [], [], b, b', _, h => h
  | d :: l, d' :: l', b, b', h, h' => ⟨h.1, DsLe.append h.2 h'⟩
  | [], _ :: _, _, _, h, _ => h.elim
  | _ :: _, [], _, _, h, _ => h.elim
theorem DsLe.set : ∀ {a a' : List D} {i : Nat} {x x' : D}, DsLe a a' → DLe x x' → DsLe (a.set i x) (a'.set i x')
  | [], [], i, x, x', _, _ => trivial
  | d :: l, d' :: l', 0, x, x', h, hx => ⟨hx, h.2⟩
  | d :: l, d' :: l', i + 1, x, x', h, hx => ⟨h.1, DsLe.set h.2 hx⟩
  | [], _ :: _, _, _, _, h, _ => h.elim
  | _ :: _, [], _, _, _, h, _ => h.elim
theorem capIs_none {u : Value} : CapIs none u := fun n h => by cases h
theorem row_ble {e n : Nat} {l l' : List D} {c c' : Option Nat} (h : DsLe l l') (hc : c' = c ∨ c' = none) : BLe (.row e n l c) (.row e n l' c') := by
  intro w F m κ hr
  simp only [RepB] at hr ⊢
  obtain ⟨vals, h1, h2, h3⟩ := hr
  refine ⟨vals, by rw [← h.len]; exact h1, ?_, h.row h3⟩
  rcases hc with rfl | rfl
  · exact h2
  · exact capIs_none
theorem ints_ble {e : Nat} {k : IntKind} {xs : List Int} {c c' : Option Nat} (hc : c' = c ∨ c' = none) : BLe (.ints e k xs c) (.ints e k xs c') := by
  intro w F m κ hr
  simp only [RepB] at hr ⊢
  refine ⟨hr.1, ?_⟩
  rcases hc with rfl | rfl
  · exact hr.2
  · exact capIs_none
theorem dle_of_av {d d' : D} (h : AVLe (.d d) (.d d')) : DLe d d' := fun w F u hr => repV_d.1 (h w F (fun _ => undef) u (repV_d.2 hr))
/-- The data of a value, as one of a shape. -/
theorem toD_asT {v : SV} {s : Sh} {x : s.T} {d : D} (h : SV.asT s v = some x) (hd : v.toAV.toD = some d) : DLe d (s.toD x) := by
  refine dle_of_av (AVLe.trans ?_ (asT_le h))
  unfold AV.toD at hd
  split at hd
  · rename_i y hy; cases hd; exact AVLe.of_eq hy.symm
  · rename_i cs hcs
    split at hd
    · rename_i y hy
      cases hd
      rw [hcs]
      have := mkAgg_le cs
      rw [hy] at this; exact this
    · cases hd
  · cases hd

/-! ### Shapes of types -/
def Sh.join : Sh → Sh → Sh
  | .cons h t, u => .cons h (t.join u)
  | _, u => u
def joinAll (f : TypeId → Option Sh) : List Field → Option Sh
  | [] => some .nil
  | x :: l => match f x.type, joinAll f l with
    | some s, some r => some (if s.agg then s.join r else .cons s r)
    | _, _ => none
def shN (P : Program) : Nat → TypeId → Option Sh
  | 0, _ => none
  | n + 1, t => match P.underlying t with
    | some (.int k) => some (.i k)
    | some .bool => some .b
    | some .string => some .s
    | some (.slice e) => match intT P e with
      | some k => some (.ints k)
      | none => match shN P n e with
        | some s => some (.row s)
        | none => none
    | some (.struct fs) => joinAll (shN P n) fs.toList
    | _ => none
def shT (P : Program) (t : TypeId) : Option Sh := shN P 8 t

/-! ### Blocks -/
def growOb (by' n : Nat) : Bool := decide (n * by' ≤ 140737488355328) && decide (n ≤ maxLen)
theorem growOb_iff {by' n : Nat} : growOb by' n = true ↔ n * by' ≤ 140737488355328 ∧ n ≤ maxLen := by simp [growOb]
/-- What an operand reads as. -/
def SSt.intsS (s : SSt) (k : IntKind) : SV → Option (List Int)
  | .ints k' xs _ => if k = k' then some xs else none
  | .d (.v (.slice none 0 0)) => some []
  | .d (.ints k' xs _) => if k = k' then some xs else none
  | .own κ => match gt κ s.hp with
    | some (.ints _ k' xs _) => if k = k' then some xs else none
    | _ => none
  | _ => none
theorem intsS_img {s : SSt} {k : IntKind} {v : SV} {xs : List Int} (h : s.intsS k v = some xs) : s.toSt.intsA k v.toAV = some xs := by
  unfold SSt.intsS at h
  split at h
  · simp only [SV.toAV, St.intsA]; exact h
  · simp only [SV.toAV, St.intsA]; exact h
  · simp only [SV.toAV, St.intsA]; exact h
  · split at h
    · rename_i hB
      have hB := gt_hp hB
      simp only [SB.toB] at hB
      simp only [SV.toAV, St.intsA, hB]; exact h
    · cases h
  · cases h
def SSt.rowS (s : SSt) (e : Sh) : SV → Option (List e.T)
  | .row e' xs _ => castSh e' e xs
  | .d (.v (.slice none 0 0)) => some []
  | .own κ => match gt κ s.hp with
    | some (.row _ e' xs _) => castSh e' e xs
    | _ => none
  | _ => none
theorem rowS_img {s : SSt} {e : Sh} {v : SV} {xs : List e.T} (h : s.rowS e v = some xs) : s.toSt.rowA e.size v.toAV = some (xs.map e.toD) := by
  unfold SSt.rowS at h
  split at h
  · obtain ⟨h1, h2⟩ := castSh_some h
    simp only [SV.toAV, St.rowA, h1, if_true, h2]
  · cases h; simp only [SV.toAV, St.rowA, List.map_nil]
  · split at h
    · rename_i hB
      have hB := gt_hp hB
      simp only [SB.toB] at hB
      obtain ⟨h1, h2⟩ := castSh_some h
      simp only [SV.toAV, St.rowA, hB, h1, if_true, h2]
    · cases h
  · cases h
def growS (s : SSt) (by' : Nat) (B : SB) (x : SV) : Option (Bool × SB) :=
  match B with
  | .ints e k xs c => match s.intsS k x with
    | some ys => some (growOb by' (xs.length + ys.length), .ints e k (xs ++ ys) none)
    | none => none
  | .row e sh xs c => match s.rowS sh x with
    | some ys => some (growOb by' (xs.length + ys.length), .row e sh (xs ++ ys) none)
    | none => none
  | _ => none
theorem growS_img {s : SSt} {by' : Nat} {B B' : SB} {x : SV} {ob : Bool} (h : growS s by' B x = some (ob, B')) (hob : ob = true) : ∃ B0, growB s.toSt by' B.toB x.toAV = some B0 ∧ BLe B0 B'.toB := by
  subst hob
  unfold growS at h
  split at h
  · split at h
    · rename_i ys hy
      simp only [Option.some.injEq, Prod.mk.injEq] at h
      obtain ⟨h1, rfl⟩ := h
      refine ⟨_, by simp only [SB.toB, growB, intsS_img hy, if_pos (growOb_iff.1 h1)]; rfl, ints_ble (.inr rfl)⟩
    · cases h
  · rename_i e sh xs c
    split at h
    · rename_i ys hy
      simp only [Option.some.injEq, Prod.mk.injEq] at h
      obtain ⟨h1, rfl⟩ := h
      refine ⟨_, by simp only [SB.toB, growB, rowS_img hy, List.length_map, if_pos (growOb_iff.1 h1)]; rfl, ?_⟩
      simp only [SB.toB, List.map_append]
      exact row_ble (DsLe.refl _) (.inr rfl)
    · cases h
  · cases h
def asTs (e : Sh) : List SV → Option (List e.T)
  | [] => some []
  | v :: l => match SV.asT e v, asTs e l with
    | some x, some r => some (x :: r)
    | _, _ => none
theorem toDs_asTs {e : Sh} : ∀ {vs : List SV} {ds : List D} {xs : List e.T}, toDs (SV.toAVs vs) = some ds → asTs e vs = some xs → DsLe ds (xs.map e.toD)
  | [], ds, xs, h, hx => by
    simp only [SV.toAVs, toDs] at h; simp only [asTs] at hx; cases h; cases hx; trivial
  | v :: vs, ds, xs, h, hx => by
    simp only [SV.toAVs, toDs] at h; simp only [asTs] at hx
    split at h
    · rename_i d r h1 h2
      split at hx
      · rename_i x r' h3 h4
        cases h; cases hx
        exact ⟨toD_asT h3 h1, toDs_asTs h2 h4⟩
      · cases hx
    · cases h
def snds {α : Type} : List (Nat × α) → List α
  | [] => []
  | (_, v) :: l => v :: snds l
theorem snds_img : ∀ ps : List (Nat × SV), (mapk SV.toAV ps).map (·.2) = SV.toAVs (snds ps)
  | [] => rfl
  | (i, v) :: l => by simp only [mapk, List.map_cons, snds, SV.toAVs, snds_img l]
/-- The row that a composite literal lays. -/
def litBS (P : Program) (t : TypeId) (n : Nat) (ps : List (Nat × SV)) : Option SB :=
  match litB P t n (mapk SV.toAV ps) with
  | some (.ints e k xs c) => some (.ints e k xs c)
  | some (.row e sz ds c) => match shT P e with
    | some sh => match asTs sh (snds ps) with
      | some xs => if sh.size = sz then some (.row e sh xs c) else none
      | none => some (.raw (.row e sz ds c))
    | none => some (.raw (.row e sz ds c))
  | _ => none
theorem litB_ds {P : Program} {t : TypeId} {n : Nat} {ps : List (Nat × AV)} {e sz : Nat} {ds : List D} {c : Option Nat} (h : litB P t n ps = some (.row e sz ds c)) : toDs (ps.map (·.2)) = some ds := by
  unfold litB at h
  split at h
  · split at h
    · split at h
      · rename_i ds' hd
        split at h
        · split at h
          · obtain ⟨x, _, he⟩ := Option.map_eq_some_iff.1 h; cases he
          · cases h
        · split at h
          · cases h; exact hd
          · cases h
      · cases h
    · cases h
  · cases h
theorem litBS_img {P : Program} {t : TypeId} {n : Nat} {ps : List (Nat × SV)} {B : SB} (h : litBS P t n ps = some B) : ∃ B0, litB P t n (mapk SV.toAV ps) = some B0 ∧ BLe B0 B.toB := by
  unfold litBS at h
  split at h
  · rename_i hl; cases h; exact ⟨_, hl, BLe.refl _⟩
  · rename_i e sz ds c hl
    split at h
    · rename_i sh hs
      split at h
      · rename_i xs hx
        split at h
        · rename_i hn
          subst hn
          cases h
          refine ⟨_, hl, ?_⟩
          have := litB_ds hl
          rw [snds_img] at this
          exact row_ble (toDs_asTs this hx) (.inl rfl)
        · cases h
      · cases h; exact ⟨_, hl, BLe.refl _⟩
    · cases h; exact ⟨_, hl, BLe.refl _⟩
  · cases h
def rep0 (n : Nat) : List Int := List.replicate n 0
def makeOb (by' : Nat) (l c : Int) (any : Bool) : Bool := decide (0 ≤ c) && (decide ((by' : Int) * c ≤ 281474976710656) && (decide (l = 0) || any && decide (l = c)))
def makeS (P : Program) (t : TypeId) (l c : Int) : Option (Bool × SB) :=
  match appT P t with
  | some (e, n, by') => if 0 < by' then
    match zeroT P e with
    | some [.int k z] => match intT P e with
      | some k' => if n = 1 ∧ k = k' ∧ z = 0 then some (makeOb by' l c true, .ints e k (List.replicate l.toNat 0) (some c.toNat)) else none
      | none => none
    | some zs => match intT P e with
      | some _ => none
      | none => match zeroD P e with
        | some d => if d.size = n ∧ zs.length = n then match shT P e with
            | some sh => match SV.asT sh d.sv with
              | some x => if sh.size = n then some (makeOb by' l c (decide (n = 1)), .row e sh (List.replicate l.toNat x) (some c.toNat)) else none
              | none => none
            | none => none
          else none
        | none => none
    | none => none
    else none
  | none => none
theorem makeOb_iff {by' : Nat} {l c : Int} {any : Bool} (h0 : 0 < by') (h : makeOb by' l c any = true) : 0 ≤ c ∧ (by' : Int) * c ≤ 281474976710656 ∧ c ≤ 9223372036854775807 ∧ (l = 0 ∨ (l = c ∧ any = true)) := by
  simp only [makeOb, Bool.and_eq_true, Bool.or_eq_true, decide_eq_true_eq] at h
  obtain ⟨h1, h2, h3⟩ := h
  refine ⟨h1, h2, ?_, h3.imp id fun h => ⟨h.2, h.1⟩⟩
  have : c ≤ (by' : Int) * c := by
    have h4 : (1 : Int) * c ≤ (by' : Int) * c := Int.mul_le_mul_of_nonneg_right (by omega) h1
    omega
  omega
theorem dsle_replicate {d d' : D} (h : DLe d d') : ∀ n, DsLe (List.replicate n d) (List.replicate n d')
  | 0 => trivial
  | n + 1 => ⟨h, dsle_replicate h n⟩
theorem makeS_img {P : Program} {t : TypeId} {l c : Int} {ob : Bool} {B : SB} (h : makeS P t l c = some (ob, B)) (hob : ob = true) : ∃ B0, makeB P t l c = some B0 ∧ BLe B0 B.toB := by
  subst hob
  unfold makeS at h
  split at h
  · rename_i e n by' ha
    split at h
    · rename_i hby
      unfold makeB
      rw [ha]
      simp only
      split at h
      · rename_i k z hz
        split at h
        · rename_i k' hk
          split at h
          · rename_i hc
            simp only [Option.some.injEq, Prod.mk.injEq] at h
            obtain ⟨h1, rfl⟩ := h
            obtain ⟨a1, a2, a3, a4⟩ := makeOb_iff hby h1
            rw [if_pos ⟨a1, a2, a3, a4.imp id fun h => ⟨h.1, hc.1⟩⟩]
            simp only [hz, hk, if_pos hc]
            exact ⟨_, rfl, BLe.refl _⟩
          · cases h
        · cases h
      · rename_i zs hne hz
        split at h
        · cases h
        · rename_i hk
          split at h
          · rename_i d hd
            split at h
            · rename_i hc
              split at h
              · rename_i sh hsh
                split at h
                · rename_i x hx
                  split at h
                  · rename_i hn
                    simp only [Option.some.injEq, Prod.mk.injEq] at h
                    obtain ⟨h1, rfl⟩ := h
                    obtain ⟨a1, a2, a3, a4⟩ := makeOb_iff hby h1
                    rw [if_pos ⟨a1, a2, a3, a4.imp id fun h => ⟨h.1, by simpa using h.2⟩⟩]
                    simp only [hz, hk, hd, if_pos hc]
                    refine ⟨_, rfl, ?_⟩
                    simp only [SB.toB, hn, List.map_replicate]
                    exact row_ble (dsle_replicate (dle_of_av (D.sv_le d |>.trans (asT_le hx))) _) (.inl rfl)
                  · cases h
                · cases h
              · cases h
            · cases h
          · cases h
      · cases h
    · cases h
  · cases h
def storeS (P : Program) (s : SSt) (t : TypeId) (ad v : SV) : Option (Bool × Nat × SB) :=
  match ad with
  | .ptr κ off => match gt κ s.hp with
    | some (.box e cs) => match v.parts, szT P t with
      | some ps, some n => if ps.length = n ∧ off + n ≤ cs.length then some (true, κ, .box e (cs.take off ++ ps ++ cs.drop (off + n))) else none
      | _, _ => none
    | _ => none
  | .pel κ z n => match gt κ s.hp with
    | some (.ints e k xs c) => match v.int? with
      | some (k', x) => if k = k' ∧ szT P t = some 1 ∧ n = 1 then some (decide (z < xs.length), κ, .ints e k (xs.set z x) c) else none
      | none => none
    | some (.row e sh xs c) => match SV.asT sh v, v.toAV.toD with
      | some x, some d => if n = sh.size ∧ n ≠ 0 ∧ d.size = n ∧ szT P t = some n then some (decide (z < xs.length), κ, .row e sh (xs.set z x) c) else none
      | _, _ => none
    | _ => none
  | _ => none
theorem storeS_img {P : Program} {s : SSt} {t : TypeId} {ad v : SV} {ob : Bool} {κ : Nat} {B : SB} (h : storeS P s t ad v = some (ob, κ, B)) (hob : ob = true) : ∃ B0, storeB P s.toSt t ad.toAV v.toAV = some (κ, B0) ∧ BLe B0 B.toB := by
  subst hob
  unfold storeS at h
  split at h
  · rename_i κ' off
    split at h
    · rename_i e cs hB
      have hB := gt_hp hB
      simp only [SB.toB] at hB
      split at h
      · rename_i ps n h1 h2
        split at h
        · rename_i hc
          cases h
          refine ⟨_, by simp only [SV.toAV, storeB, hB, parts_img h1, h2, toAVs_len, if_pos hc]; rfl, ?_⟩
          simp only [SB.toB, toAVs_append, toAVs_take, toAVs_drop]
          exact BLe.refl _
        · cases h
      · cases h
    · cases h
  · rename_i κ' z n
    split at h
    · rename_i e k xs c hB
      have hB := gt_hp hB
      simp only [SB.toB] at hB
      split at h
      · rename_i k' x hx
        split at h
        · rename_i hc
          simp only [Option.some.injEq, Prod.mk.injEq, decide_eq_true_eq] at h
          obtain ⟨h1, rfl, rfl⟩ := h
          obtain ⟨rfl, h2, rfl⟩ := hc
          refine ⟨_, by simp only [SV.toAV, storeB, hB, SV.int_img hx, Nat.mul_one]; rw [if_pos ⟨trivial, h1, h2⟩]; rfl, BLe.refl _⟩
        · cases h
      · cases h
    · rename_i e sh xs c hB
      have hB := gt_hp hB
      simp only [SB.toB] at hB
      split at h
      · rename_i x d hx hd
        split at h
        · rename_i hc
          simp only [Option.some.injEq, Prod.mk.injEq, decide_eq_true_eq] at h
          obtain ⟨h1, rfl, rfl⟩ := h
          obtain ⟨rfl, h2, h3, h4⟩ := hc
          refine ⟨.row e sh.size ((xs.map sh.toD).set z d) c, ?_, ?_⟩
          · simp only [SV.toAV, storeB, hB, hd]
            rw [if_pos ⟨h2, Nat.mul_mod_left _ _, by rw [Nat.mul_div_cancel _ (by omega), List.length_map]; exact h1, h3, h4⟩, Nat.mul_div_cancel _ (by omega)]
          · simp only [SB.toB, List.map_set]
            exact row_ble (DsLe.set (DsLe.refl _) (toD_asT hx hd)) (.inl rfl)
        · cases h
      · cases h
    · cases h
  · cases h
/-- An empty row of a slice type. -/
def emptyS (P : Program) (t : TypeId) : Option SB :=
  match appT P t with
  | some (e, n, _) => match intT P e with
    | some k => if n = 1 then some (.ints e k [] (some 0)) else none
    | none => match shT P e with
      | some sh => if sh.size = n then some (.row e sh [] (some 0)) else none
      | none => none
  | none => none
theorem emptyS_img {P : Program} {t : TypeId} {B : SB} (h : emptyS P t = some B) : emptyB P t = some B.toB := by
  unfold emptyS at h
  split at h
  · rename_i e n by' ha
    split at h
    · rename_i k hk
      split at h
      · rename_i hn; cases h; simp only [emptyB, ha, hk, if_pos hn, SB.toB]
      · cases h
    · rename_i hk
      split at h
      · rename_i sh hs
        split at h
        · rename_i hn; subst hn; cases h; simp only [emptyB, ha, hk, SB.toB, List.map_nil]
        · cases h
      · cases h
  · cases h
structure BlkR where
  ob : Bool
  kill : Bool
  κ : Nat
  B : SB
  v : SV
def appS (P : Program) (s : SSt) (dst : Option Nat) (t : TypeId) (vx vy : SV) : Option BlkR :=
  match appT P t with
  | some (e, n, by') => match vx with
    | .own κ => match gt κ s.hp with
      | some B => if B.toB.isRow n = true ∧ B.toB.elem = e then match growS s by' B vy with
          | some (ob, B') => some ⟨ob, true, κ, B', .own κ⟩
          | none => none
        else none
      | none => none
    | .d x => match dst, emptyS P t with
      | some q, some B => if isEmptyA (.d x) = true then match growS (s.setB true (kL q) B) by' B (killS (kL q) vy) with
          | some (ob, B') => some ⟨ob, true, kL q, B', .own (kL q)⟩
          | none => none
        else none
      | _, _ => none
    | _ => none
  | none => none
/-- A step that makes a block or turns one. -/
def blkS (P : Program) (s : SSt) (o : Oper) : Option BlkR :=
  match o.op with
  | .alloc e => match o.dst, zeroT P e with
    | some q, some zs => some ⟨true, true, kL q, .box e (zs.map fun z => .d (.v z)), .ptr (kL q) 0⟩
    | _, _ => none
  | .box e x => match o.dst, s.ev x with
    | some q, some v => match v.parts with
      | some ps => some ⟨true, true, kL q, .box e (killSs (kL q) ps), .ptr (kL q) 0⟩
      | none => none
    | _, _ => none
  | .buildSlice t n l => match o.dst, s.evP l.toList with
    | some q, some ps => match litBS P t n ps with
      | some B => some ⟨true, true, kL q, B, .own (kL q)⟩
      | none => none
    | _, _ => none
  | .makeSlice t l cp => match o.dst, s.ev l, s.ev cp with
    | some q, some vl, some vc => match vl.int?, vc.int? with
      | some (_, i), some (_, j) => match makeS P t i j with
        | some (ob, B) => some ⟨ob, true, kL q, B, .own (kL q)⟩
        | none => none
      | _, _ => none
    | _, _, _ => none
  | .store t ad x => match s.ev ad, s.ev x with
    | some va, some vx => match storeS P s t va vx with
      | some (ob, κ, B) => some ⟨ob, false, κ, B, .bot⟩
      | none => none
    | _, _ => none
  | .call { callee := .builtin .append, args := args, argTypes := tys } => match args.toList, tys.toList with
    | [x, y], [t, t'] => if t ≠ t' then none else match s.ev x, s.ev y with
      | some vx, some vy => appS P s o.dst t vx vy
      | _, _ => none
    | _, _ => none
  | _ => none
theorem killVs_killVs (κ : Nat) (vs : List AV) : killVs κ vs = killVs κ vs := rfl
theorem toAV_own {v : SV} {κ : Nat} (h : v.toAV = .own κ) : v = .own κ := by
  cases v <;> simp only [SV.toAV] at h <;> try cases h
  · rfl
  · split at h <;> cases h
theorem blkS_img {P : Program} {s : SSt} {o : Oper} {r : BlkR} (h : blkS P s o = some r) (hob : r.ob = true) : ∃ B0, blkE P s.toSt o = some (r.kill, r.κ, B0, r.v.toAV) ∧ BLe B0 r.B.toB := by
  unfold blkS at h
  split at h
  · rename_i e ho
    split at h
    · rename_i q zs hd hz
      cases h
      refine ⟨_, by simp only [blkE, ho, hd, hz, SV.toAV]; rfl, ?_⟩
      have e : SV.toAVs (zs.map fun z => SV.d (.v z)) = zs.map fun z => AV.d (.v z) := by
        simp only [toAVs_map, List.map_map]; congr 1
      simp only [SB.toB, e]
      exact BLe.refl _
    · cases h
  · rename_i e x ho
    split at h
    · rename_i q v hd hx
      split at h
      · rename_i ps hp
        cases h
        refine ⟨_, by simp only [blkE, ho, hd, SSt.ev_img hx, obind_some, parts_img hp, SV.toAV]; rfl, ?_⟩
        simp only [SB.toB, killSs_img]
        exact BLe.refl _
      · cases h
    · cases h
  · rename_i t n l ho
    split at h
    · rename_i q ps hd hp
      split at h
      · rename_i B hB
        cases h
        obtain ⟨B0, h1, h2⟩ := litBS_img hB
        exact ⟨B0, by simp only [blkE, ho, hd, evP_img hp, obind_some, h1, SV.toAV], h2⟩
      · cases h
    · cases h
  · rename_i t l cp ho
    split at h
    · rename_i q vl vc hd hl hc
      split at h
      · rename_i k1 i k2 j e1 e2
        split at h
        · rename_i ob B hB
          cases h
          obtain ⟨B0, h1, h2⟩ := makeS_img hB hob
          exact ⟨B0, by simp only [blkE, ho, hd, SSt.ev_img hl, SSt.ev_img hc, SV.int_img e1, SV.int_img e2, h1, omap_some, SV.toAV], h2⟩
        · cases h
      · cases h
    · cases h
  · rename_i t ad x ho
    split at h
    · rename_i va vx h1 h2
      split at h
      · rename_i ob κ B hB
        cases h
        obtain ⟨B0, h3, h4⟩ := storeS_img hB hob
        exact ⟨B0, by simp only [blkE, ho, SSt.ev_img h1, SSt.ev_img h2, h3, omap_some, SV.toAV], h4⟩
      · cases h
    · cases h
  · rename_i args tys ho
    split at h
    · rename_i x y t t' ha ht
      split at h
      · cases h
      · rename_i htt
        split at h
        · rename_i vx vy hx hy
          unfold appS at h
          split at h
          · rename_i e n by' hT
            split at h
            · rename_i κ
              split at h
              · rename_i B hB
                split at h
                · rename_i hc
                  split at h
                  · rename_i ob B' hg
                    cases h
                    obtain ⟨B0, h3, h4⟩ := growS_img hg hob
                    refine ⟨B0, ?_, h4⟩
                    simp only [blkE, ho, ha, ht, if_neg htt, hT, SSt.ev_img hx, SSt.ev_img hy, SV.toAV, gt_hp hB, if_pos hc, h3, omap_some]
                  · cases h
                · cases h
              · cases h
            · rename_i x'
              split at h
              · rename_i q B hd hE
                split at h
                · rename_i he
                  split at h
                  · rename_i ob B' hg
                    cases h
                    obtain ⟨B0, h3, h4⟩ := growS_img hg hob
                    refine ⟨B0, ?_, h4⟩
                    rw [setB_img, killS_img] at h3
                    simp only [blkE, ho, ha, ht, if_neg htt, hT, SSt.ev_img hx, SSt.ev_img hy, SV.toAV, hd, emptyS_img hE, if_pos he, h3, omap_some]
                  · cases h
                · cases h
              · cases h
            · cases h
          · cases h
        · cases h
    · cases h
  · cases h
end Go.Proofs.Ytpdbekbobkjfgaa
