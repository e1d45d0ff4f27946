/-
  Walks that the kernel reckons out, part 3: operations that turn nothing, all of them.
  Conditions: none; nothing here speaks of one program.
-/
import Derived.Test.YtpdbekbobkjfgaaAN2
namespace Go.Proofs.Ytpdbekbobkjfgaa
open Go.RowKit
set_option linter.unusedVariables false
set_option linter.constructorNameAsVariable false

/-! ### Lengths -/
def lenS (P : Program) (s : SSt) (t : TypeId) : SV → Option (Bool × SV)
  | .d x => match lenV P ⟨0, [], []⟩ t (.d x) with
    | some n => some (true, .d (.v (.int .i64 n)))
    | none => none
  | .ints _ xs _ => if (elemT P t).isSome then some (true, .i .i64 xs.length) else none
  | .row _ xs _ => if (elemT P t).isSome then some (true, .i .i64 xs.length) else none
  | .s x => match P.underlying t with
    | some .string => some (true, .i .i64 x.size)
    | _ => none
  | .own κ => if (elemT P t).isSome then match gt κ s.hp with
    | some (.ints _ _ xs _) => some (true, .i .i64 xs.length)
    | some (.row _ _ xs _) => some (true, .i .i64 xs.length)
    | some (.raw (.row _ _ xs _)) => some (true, .d (.v (.int .i64 xs.length)))
    | _ => none
    else none
  | _ => none
theorem lenS_sound {P : Program} {s : SSt} {t : TypeId} {x : SV} {ob : Bool} {v : SV} (h : lenS P s t x = some (ob, v)) : ValOk (omap (lenV P s.toSt t x.toAV) fun n => .d (.v (.int .i64 n))) v := by
  unfold lenS at h
  split at h
  · rename_i y
    split at h
    · rename_i n hn
      cases h
      refine ValOk.of_eq ?_
      have e : lenV P s.toSt t (SV.d y).toAV = lenV P ⟨0, [], []⟩ t (.d y) := by
        simp only [SV.toAV]
        exact lenV_k (fun κ h => by simp [keysV] at h)
      rw [e, hn]; simp only [omap_some, SV.toAV]
    · cases h
  · split at h
    · rename_i he; cases h; exact ValOk.of_eq (by simp only [SV.toAV, lenV, if_pos he, omap_some])
    · cases h
  · split at h
    · rename_i he; cases h; exact ValOk.of_eq (by simp only [SV.toAV, lenV, if_pos he, omap_some, List.length_map])
    · cases h
  · split at h
    · rename_i he; cases h; exact ValOk.of_eq (by simp only [SV.toAV, lenV, he, omap_some])
    · cases h
  · rename_i κ
    split at h
    · rename_i he
      split at h
      · rename_i hB
        have hB := gt_hp hB
        simp only [SB.toB] at hB
        cases h; exact ValOk.of_eq (by simp only [SV.toAV, lenV, if_pos he, hB, omap_some])
      · rename_i hB
        have hB := gt_hp hB
        simp only [SB.toB] at hB
        cases h; exact ValOk.of_eq (by simp only [SV.toAV, lenV, if_pos he, hB, omap_some, List.length_map])
      · rename_i hB
        have hB := gt_hp hB
        simp only [SB.toB] at hB
        cases h; exact ValOk.of_eq (by simp only [SV.toAV, lenV, if_pos he, hB, omap_some])
      · cases h
    · cases h
  · cases h
def capS (P : Program) (s : SSt) (t : TypeId) : SV → Option (Bool × SV)
  | .d x => match capV P ⟨0, [], []⟩ t (.d x) with
    | some n => some (true, .d (.v (.int .i64 n)))
    | none => none
  | .ints _ xs (some c) => if (elemT P t).isSome then some (true, .i .i64 c) else none
  | .row _ xs (some c) => if (elemT P t).isSome then some (true, .i .i64 c) else none
  | .own κ => if (elemT P t).isSome then match gt κ s.hp with
    | some (.ints _ _ xs (some c)) => some (true, .i .i64 c)
    | some (.row _ _ xs (some c)) => some (true, .i .i64 c)
    | _ => none
    else none
  | _ => none
theorem capS_sound {P : Program} {s : SSt} {t : TypeId} {x : SV} {ob : Bool} {v : SV} (h : capS P s t x = some (ob, v)) : ValOk (omap (capV P s.toSt t x.toAV) fun n => .d (.v (.int .i64 n))) v := by
  unfold capS at h
  split at h
  · rename_i y
    split at h
    · rename_i n hn
      cases h
      refine ValOk.of_eq ?_
      have e : capV P s.toSt t (SV.d y).toAV = capV P ⟨0, [], []⟩ t (.d y) := by
        simp only [SV.toAV]
        exact capV_k (fun κ h => by simp [keysV] at h)
      rw [e, hn]; simp only [omap_some, SV.toAV]
    · cases h
  · split at h
    · rename_i he; cases h; exact ValOk.of_eq (by simp only [SV.toAV, capV, if_pos he, omap_some])
    · cases h
  · split at h
    · rename_i he; cases h; exact ValOk.of_eq (by simp only [SV.toAV, capV, if_pos he, omap_some])
    · cases h
  · rename_i κ
    split at h
    · rename_i he
      split at h
      · rename_i hB
        have hB := gt_hp hB
        simp only [SB.toB] at hB
        cases h; exact ValOk.of_eq (by simp only [SV.toAV, capV, if_pos he, hB, omap_some])
      · rename_i hB
        have hB := gt_hp hB
        simp only [SB.toB] at hB
        cases h; exact ValOk.of_eq (by simp only [SV.toAV, capV, if_pos he, hB, omap_some])
      · cases h
    · cases h
  · cases h

/-! ### Parts of slices -/
def SSt.evI (s : SSt) : Option Operand → Option (Option Int)
  | none => some none
  | some x => match s.ev x with
    | some v => match v.int? with
      | some (_, i) => some (some i)
      | none => none
    | none => none
theorem evI_img {s : SSt} {x : Option Operand} {i : Option Int} (h : s.evI x = some i) : s.toSt.evI x = some i := by
  unfold SSt.evI at h
  split at h
  · cases h; rfl
  · split at h
    · rename_i v hv
      split at h
      · rename_i k j hj
        cases h
        simp only [St.evI, SSt.ev_img hv, SV.int_img hj]
      · cases h
    · cases h
def cutL {α : Type} (xs : List α) (lo hi : Option Int) : List α :=
  match lo, hi with
  | none, none => xs
  | some l, none => xs.drop l.toNat
  | none, some h => xs.take h.toNat
  | some l, some h => (xs.take h.toNat).drop l.toNat
def cutOb (n : Nat) (lo hi mx : Option Int) : Option Bool :=
  match mx with
  | none => some (match lo, hi with
    | none, none => true
    | some l, none => decide (0 ≤ l) && decide (l.toNat ≤ n)
    | none, some h => decide (0 ≤ h) && decide (h.toNat ≤ n)
    | some l, some h => decide (0 ≤ l) && (decide (l ≤ h) && decide (h.toNat ≤ n)))
  | some m => match lo, hi with
    | none, some h => some (decide (0 ≤ h) && (decide (h ≤ m) && decide (m.toNat ≤ n)))
    | some l, some h => some (decide (0 ≤ l) && (decide (l ≤ h) && (decide (h ≤ m) && decide (m.toNat ≤ n))))
    | _, _ => none
def cutC (c : Option Nat) (lo mx : Option Int) : Option Nat :=
  match mx, lo with
  | none, none => c
  | none, some l => match c with | some n => some (n - l.toNat) | none => none
  | some m, none => some m.toNat
  | some m, some l => some (m.toNat - l.toNat)
theorem cut_img {α : Type} {xs : List α} {lo hi mx : Option Int} {c : Option Nat} (h : cutOb xs.length lo hi mx = some true) : ∃ b, cutB xs.length lo hi mx = some b ∧ (xs.take b.h).drop b.l = cutL xs lo hi ∧ capC c b = cutC c lo mx := by
  unfold cutOb at h
  cases mx with
  | none =>
    simp only [Option.some.injEq] at h
    unfold cutB
    cases lo with
    | none =>
      cases hi with
      | none =>
        refine ⟨⟨0, xs.length, none⟩, ?_, by simp [cutL], by cases c <;> simp [capC, cutC]⟩
        simp
      | some h' =>
        simp only [Bool.and_eq_true, decide_eq_true_eq] at h
        refine ⟨⟨0, h'.toNat, none⟩, ?_, by simp [cutL], by cases c <;> simp [capC, cutC]⟩
        simp [h.1, h.2]
    | some l =>
      cases hi with
      | none =>
        simp only [Bool.and_eq_true, decide_eq_true_eq] at h
        refine ⟨⟨l.toNat, xs.length, none⟩, ?_, by simp [cutL], by cases c <;> simp [capC, cutC]⟩
        simp [h.1, h.2]
      | some h' =>
        simp only [Bool.and_eq_true, decide_eq_true_eq] at h
        refine ⟨⟨l.toNat, h'.toNat, none⟩, ?_, by simp [cutL], by cases c <;> simp [capC, cutC]⟩
        simp only [Option.getD_some]
        rw [if_pos ⟨by omega, h.1, by omega, h.2.2⟩]
  | some m =>
    unfold cutB
    cases lo with
    | none =>
      cases hi with
      | none => cases h
      | some h' =>
        simp only [Option.some.injEq, Bool.and_eq_true, decide_eq_true_eq] at h
        refine ⟨⟨0, h'.toNat, some m.toNat⟩, ?_, by simp [cutL], by simp [capC, cutC]⟩
        simp only [Option.getD_some, Option.getD_none]
        rw [if_pos ⟨h.1, by omega, by simp, by omega⟩, if_pos ⟨by omega, by omega, h.2.2, rfl⟩]; rfl
    | some l =>
      cases hi with
      | none => cases h
      | some h' =>
        simp only [Option.some.injEq, Bool.and_eq_true, decide_eq_true_eq] at h
        refine ⟨⟨l.toNat, h'.toNat, some m.toNat⟩, ?_, by simp [cutL], by simp [capC, cutC]⟩
        simp only [Option.getD_some]
        rw [if_pos ⟨by omega, h.1, by omega, by omega⟩, if_pos ⟨by omega, by omega, h.2.2.2, rfl⟩]
def strEnd (n : Nat) : Option Int → Nat
  | none => n
  | some h => h.toNat
def strBeg : Option Int → Nat
  | none => 0
  | some l => l.toNat
def sliceS (P : Program) (t : TypeId) (x : SV) (lo hi mx : Option Int) : Option (Bool × SV) :=
  match x with
  | .ints k xs c => match elemT P t with
    | some (_, 1, _) => match cutOb xs.length lo hi mx with
      | some ob => some (ob, .ints k (cutL xs lo hi) (cutC c lo mx))
      | none => none
    | _ => none
  | .row e xs c => match elemT P t with
    | some (_, n, _) => if e.size = n then match cutOb xs.length lo hi mx with
      | some ob => some (ob, .row e (cutL xs lo hi) (cutC c lo mx))
      | none => none
      else none
    | none => none
  | .s x => match P.underlying t with
    | some .string => match mx with
      | none => match cutOb x.size lo hi none with
        | some ob => some (ob, .s (x.extract (strBeg lo) (strEnd x.size hi)))
        | none => none
      | some _ => none
    | _ => none
  | .d y => litS (sliceV P t (.d y) lo hi mx)
  | _ => none
theorem cutL_map {α β : Type} (f : α → β) (xs : List α) (lo hi : Option Int) : (cutL xs lo hi).map f = cutL (xs.map f) lo hi := by
  cases lo <;> cases hi <;> simp [cutL]
theorem sliceS_sound {P : Program} {t : TypeId} {x : SV} {lo hi mx : Option Int} {ob : Bool} {v : SV} (h : sliceS P t x lo hi mx = some (ob, v)) (hob : ob = true) : ValOk (sliceV P t x.toAV lo hi mx) v := by
  subst hob
  unfold sliceS at h
  split at h
  · rename_i k xs c
    split at h
    · rename_i e g he
      split at h
      · rename_i ob hc
        simp only [Option.some.injEq, Prod.mk.injEq] at h
        obtain ⟨rfl, rfl⟩ := h
        obtain ⟨b, h1, h2, h3⟩ := cut_img (c := c) hc
        exact ValOk.of_eq (by simp only [SV.toAV, sliceV, he, h1, omap_some, h2, h3])
      · cases h
    · cases h
  · rename_i e xs c
    split at h
    · rename_i e' n g he
      split at h
      · rename_i hn
        subst hn
        split at h
        · rename_i ob hc
          simp only [Option.some.injEq, Prod.mk.injEq] at h
          obtain ⟨rfl, rfl⟩ := h
          have hc' : cutOb (xs.map e.toD).length lo hi mx = some true := by rw [List.length_map]; exact hc
          obtain ⟨b, h1, h2, h3⟩ := cut_img (c := c) hc'
          exact ValOk.of_eq (by simp only [SV.toAV, sliceV, he, if_true, h1, omap_some, h2, h3, cutL_map])
        · cases h
      · cases h
    · cases h
  · rename_i x
    split at h
    · rename_i hu
      split at h
      · split at h
        · rename_i ob hc
          simp only [Option.some.injEq, Prod.mk.injEq] at h
          obtain ⟨rfl, rfl⟩ := h
          refine ValOk.of_eq ?_
          have hb : cutB x.size lo hi none = some ⟨strBeg lo, strEnd x.size hi, none⟩ := by
            unfold cutOb at hc
            simp only [Option.some.injEq] at hc
            unfold cutB
            cases lo <;> cases hi <;> simp only [Bool.and_eq_true, decide_eq_true_eq] at hc <;> simp only [Option.getD_some, Option.getD_none, strBeg, strEnd] <;> rw [if_pos (by refine ⟨?_, ?_, ?_, ?_⟩ <;> omega)] <;> simp
          simp only [SV.toAV, sliceV, hu, hb, omap_some]; rfl
        · cases h
      · cases h
    · cases h
  · exact litS_le h
  · cases h

/-! ### Structs and arrays that are built -/
def SSt.evL (s : SSt) : List Operand → Option (List SV)
  | [] => some []
  | x :: l => match s.ev x, s.evL l with
    | some v, some r => some (v :: r)
    | _, _ => none
theorem evL_img {s : SSt} : ∀ {l : List Operand} {vs : List SV}, s.evL l = some vs → s.toSt.evL l = some (SV.toAVs vs)
  | [], vs, h => by simp only [SSt.evL] at h; cases h; rfl
  | x :: l, vs, h => by
    simp only [SSt.evL] at h
    split at h
    · rename_i v r h1 h2; cases h; simp only [St.evL, SSt.ev_img h1, evL_img h2, SV.toAVs]
    · cases h
def SSt.evP (s : SSt) : List (Nat × Operand) → Option (List (Nat × SV))
  | [] => some []
  | (i, x) :: l => match s.ev x, s.evP l with
    | some v, some r => some ((i, v) :: r)
    | _, _ => none
theorem evP_img {s : SSt} : ∀ {l : List (Nat × Operand)} {vs : List (Nat × SV)}, s.evP l = some vs → s.toSt.evP l = some (mapk SV.toAV vs)
  | [], vs, h => by simp only [SSt.evP] at h; cases h; rfl
  | (i, x) :: l, vs, h => by
    simp only [SSt.evP] at h
    split at h
    · rename_i v r h1 h2; cases h; simp only [St.evP, SSt.ev_img h1, evP_img h2, mapk]
    · cases h
def SV.parts : SV → Option (List SV)
  | .agg l => some l
  | .d (.agg ds) => some (ds.map .d)
  | .tup _ => none
  | .bot => none
  | .eaddr v => match v.dat with
    | some _ => some [.eaddr v]
    | none => none
  | v => some [v]
theorem parts_img {v : SV} {l : List SV} (h : v.parts = some l) : v.toAV.parts = some (SV.toAVs l) := by
  unfold SV.parts at h
  split at h
  · cases h; simp only [SV.toAV, AV.parts]
  · cases h
    simp only [SV.toAV, AV.parts, toAVs_map, List.map_map]
    congr 1
  · cases h
  · cases h
  · split at h
    · rename_i x hx; cases h; simp only [SV.toAV, SV.toAVs, hx, AV.parts]
    · cases h
  · rename_i h1 h2 h3 h4 h5
    cases h
    cases v with
    | d x => cases x with
      | agg ds => exact absurd rfl (h2 ds)
      | _ => simp only [SV.toAV, SV.toAVs, AV.parts]
    | agg l => exact absurd rfl (h1 l)
    | tup l => exact absurd rfl (h3 l)
    | bot => exact absurd rfl h4
    | eaddr v => exact absurd rfl (h5 v)
    | _ => simp only [SV.toAV, SV.toAVs, AV.parts]
def layS (place : Nat → Option (Nat × Nat)) : List SV → List (Nat × SV) → Option (List SV)
  | cs, [] => some cs
  | cs, (i, v) :: rest => match place i, v.parts with
    | some (off, n), some ps => if ps.length = n ∧ off + n ≤ cs.length then layS place (cs.take off ++ ps ++ cs.drop (off + n)) rest else none
    | _, _ => none
theorem toAVs_append (a b : List SV) : SV.toAVs (a ++ b) = SV.toAVs a ++ SV.toAVs b := by simp only [toAVs_map, List.map_append]
theorem layS_img {place : Nat → Option (Nat × Nat)} : ∀ {ps : List (Nat × SV)} {cs r : List SV}, layS place cs ps = some r → layA place (SV.toAVs cs) (mapk SV.toAV ps) = some (SV.toAVs r)
  | [], cs, r, h => by simp only [layS] at h; cases h; simp only [mapk, layA]
  | (i, v) :: rest, cs, r, h => by
    simp only [layS] at h
    split at h
    · rename_i off n ps h1 h2
      split at h
      · rename_i hc
        have := layS_img h
        simp only [mapk, layA, h1, parts_img h2, toAVs_len, if_pos hc]
        simpa only [toAVs_append, toAVs_take, toAVs_drop] using this
      · cases h
    · cases h
def buildS (P : Program) (t : TypeId) (ps : List (Nat × SV)) : Option (Bool × SV) :=
  match placeT P t, zeroT P t with
  | some place, some zs => match layS place (zs.map fun z => .d (.v z)) ps with
    | some cs => some (true, .agg cs)
    | none => none
  | _, _ => none
theorem buildS_sound {P : Program} {t : TypeId} {ps : List (Nat × SV)} {ob : Bool} {v : SV} (h : buildS P t ps = some (ob, v)) : ValOk (buildV P t (mapk SV.toAV ps)) v := by
  unfold buildS at h
  split at h
  · rename_i place zs h1 h2
    split at h
    · rename_i cs hc
      cases h
      have e : SV.toAVs (zs.map fun z => SV.d (.v z)) = zs.map fun z => AV.d (.v z) := by
        simp only [toAVs_map, List.map_map]; congr 1
      have := layS_img hc
      rw [e] at this
      exact ⟨mkAgg (SV.toAVs cs), by simp only [buildV, h1, h2, this, omap_some], by simp only [SV.toAV]; exact mkAgg_le _⟩
    · cases h
  · cases h
def nilCheckS (P : Program) (v : SV) : Option (Bool × SV) :=
  match v with
  | .ptr _ _ => some (true, v)
  | .pel _ _ _ => some (true, v)
  | .eaddr u => match u.dat with
    | some _ => some (true, v)
    | none => none
  | .clos _ _ => some (true, v)
  | .d (.v (.func (.func _) _ _)) => some (true, v)
  | .wrap (.ifc _) _ => some (true, v)
  | .wrap (.mth n) (.wrap (.ifc t) u) => if nilOk P t n = true then some (true, v) else none
  | _ => none
theorem nilCheckS_sound {P : Program} {s : SSt} {x : Operand} {vx : SV} {ob : Bool} {v : SV} (hx : s.ev x = some vx) (h : nilCheckS P vx = some (ob, v)) : ValOk (valOp P s.toSt (.nilCheck x)) v := by
  unfold nilCheckS at h
  split at h
  · cases h; exact ValOk.of_eq (by simp only [valOp, SSt.ev_img hx, SV.toAV])
  · cases h; exact ValOk.of_eq (by simp only [valOp, SSt.ev_img hx, SV.toAV])
  · split at h
    · rename_i y hy; cases h; exact ValOk.of_eq (by simp only [valOp, SSt.ev_img hx, SV.toAV, hy])
    · cases h
  · cases h; exact ValOk.of_eq (by simp only [valOp, SSt.ev_img hx, SV.toAV])
  · cases h; exact ValOk.of_eq (by simp only [valOp, SSt.ev_img hx, SV.toAV])
  · cases h; exact ValOk.of_eq (by simp only [valOp, SSt.ev_img hx, SV.toAV])
  · split at h
    · rename_i hn; cases h; exact ValOk.of_eq (by simp only [valOp, SSt.ev_img hx, SV.toAV, hn, if_true])
    · cases h
  · cases h
/-- One of two values, by a test that is known; one of two bools, by any test. -/
def pickS (c : SV) (x y : Option SV) : Option (Bool × SV) :=
  match c with
  | .d (.v (.bool true)) => match x with | some v => some (true, v) | none => none
  | .d (.v (.bool false)) => match y with | some v => some (true, v) | none => none
  | .b b => match x, y with
    | some p, some q => match p.bool?, q.bool? with
      | some p, some q => some (true, .b (if b then p else q))
      | _, _ => none
    | _, _ => none
  | _ => none
theorem pickS_sound {P : Program} {s : SSt} {c x y : Operand} {vc : SV} {ob : Bool} {v : SV} (hc : s.ev c = some vc) (h : pickS vc (s.ev x) (s.ev y) = some (ob, v)) : ValOk (valOp P s.toSt (.pick c x y)) v := by
  have hb : ∀ u : AV, (∀ z, u = .d (.v (.bool z)) → True) := fun _ _ _ => trivial
  unfold pickS at h
  split at h
  · split at h
    · rename_i u hu
      cases h
      refine ValOk.of_eq ?_
      simp only [valOp, SSt.ev_img hc, SV.toAV, SSt.ev_img hu]
      split
      · rename_i p q h1 h2; simp only [Option.some.injEq] at h1; simp only [if_true, h1]
      · simp only [if_true]
    · cases h
  · split at h
    · rename_i u hu
      cases h
      refine ValOk.of_eq ?_
      simp only [valOp, SSt.ev_img hc, SV.toAV, SSt.ev_img hu]
      split
      · rename_i p q h1 h2; simp only [Option.some.injEq] at h2; simp only [Bool.false_eq_true, if_false, h2]
      · simp only [Bool.false_eq_true, if_false]
    · cases h
  · rename_i b
    split at h
    · rename_i p q hp hq
      split at h
      · rename_i p' q' h1 h2
        cases h
        refine ValOk.of_eq ?_
        simp only [valOp, SSt.ev_img hc, SV.toAV, SSt.ev_img hp, SSt.ev_img hq, SV.bool_img h1, SV.bool_img h2]
      · cases h
    · cases h
  · cases h
def minS (x y : SV) : Option (Bool × SV) :=
  match x.int?, y.int? with
  | some (k, a), some (k', b) => if k = k' then some (true, .i k (if b < a then b else a)) else none
  | _, _ => none
def cvtOwn (P : Program) (a b : TypeId) (s : SSt) (v : SV) : Option (Bool × SV) :=
  match v with
  | .own κ => match gt κ s.hp with
    | some (.ints _ k xs c) => cvtS P a b (.ints k xs c)
    | _ => none
  | v => cvtS P a b v
/-- The value of an operation that turns nothing: whether it may be carried out; the value. -/
def valS (P : Program) (s : SSt) (op : Op) : Option (Bool × SV) :=
  match op with
  | .move x => match s.ev x with | some v => some (true, v) | none => none
  | .assign x => match s.ev x with | some v => some (true, v) | none => none
  | .pick c x y => match s.ev c with | some v => pickS v (s.ev x) (s.ev y) | none => none
  | .binOp op t x y _ => match s.ev x, s.ev y with
    | some vx, some vy => binS P op t y vx vy
    | _, _ => none
  | .unOp op _ x => match s.ev x with | some v => unS op v | none => none
  | .convert a b x => match s.ev x with | some v => cvtOwn P a b s v | none => none
  | .load t x => match s.ev x with | some v => loadS P s t v | none => none
  | .fieldAddr t x i => match s.ev x with | some v => fieldAddrS P t i v | none => none
  | .field t x i => match s.ev x with | some v => fieldS P t i v | none => none
  | .indexAddr t x y => match s.ev x, s.ev y with
    | some vx, some vy => match vy.int? with | some (_, i) => indexAddrS P s t vx i | none => none
    | _, _ => none
  | .index t x y => match s.ev x, s.ev y with
    | some vx, some vy => match vy.int? with | some (_, i) => indexS P t vx i | none => none
    | _, _ => none
  | .slice t x l h mx => match s.ev x, s.evI l, s.evI h, s.evI mx with
    | some vx, some il, some ih, some im => sliceS P t vx il ih im
    | _, _, _, _ => none
  | .extract x i => match s.ev x with
    | some (.tup vs) => part1 vs i
    | _ => none
  | .build t l => match s.evP l.toList with | some ps => buildS P t ps | none => none
  | .nilCheck x => match s.ev x with | some v => nilCheckS P v | none => none
  | .makeFunc (.func f) first caps => if first.toList.isEmpty then (if caps.toList.isEmpty then some (true, .d (.v (.func (.func f) #[] #[]))) else match s.evL caps.toList with | some vs => some (true, .clos f vs) | none => none) else none
  | .makeFunc (.method n) first caps => match first.toList, caps.toList with
    | [x], [] => match s.ev x with | some v => some (true, .wrap (.mth n) v) | none => none
    | _, _ => none
  | .makeInterface t x => if ifaceT P t = true then none else match P.underlying t with
    | some _ => match s.ev x with | some v => some (true, .wrap (.ifc t) v) | none => none
    | none => none
  | .call c => match c.callee with
    | .builtin .len => match c.args.toList, c.argTypes.toList with
      | [x], [t] => match s.ev x with | some v => lenS P s t v | none => none
      | _, _ => none
    | .builtin .cap => match c.args.toList, c.argTypes.toList with
      | [x], [t] => match s.ev x with | some v => capS P s t v | none => none
      | _, _ => none
    | .builtin .min => match c.args.toList with
      | [x, y] => match s.ev x, s.ev y with | some vx, some vy => minS vx vy | _, _ => none
      | _ => none
    | _ => none
  | _ => none
theorem valS_sound {P : Program} {s : SSt} {op : Op} {ob : Bool} {v : SV} (h : valS P s op = some (ob, v)) (hob : ob = true) : ValOk (valOp P s.toSt op) v := by
  unfold valS at h
  split at h
  · split at h
    · rename_i u hu; cases h; exact ValOk.of_eq (by simp only [valOp, SSt.ev_img hu])
    · cases h
  · split at h
    · rename_i u hu; cases h; exact ValOk.of_eq (by simp only [valOp, SSt.ev_img hu])
    · cases h
  · split at h
    · rename_i u hu; exact pickS_sound hu h
    · cases h
  · split at h
    · rename_i vx vy hx hy; exact binS_sound hx hy h hob
    · cases h
  · split at h
    · rename_i u hu
      have := unS_sound h
      simpa only [valOp, SSt.ev_img hu, obind_some] using this
    · cases h
  · split at h
    · rename_i a b x u hu
      unfold cvtOwn at h
      split at h
      · rename_i κ
        split at h
        · rename_i e k xs c hB
          have hB := gt_hp hB
          simp only [SB.toB] at hB
          have := cvtS_sound h
          simpa only [valOp, SSt.ev_img hu, SV.toAV, hB, obind_some, Blk.data] using this
        · cases h
      · rename_i hno
        have := cvtS_sound h
        obtain ⟨z, h1, h2⟩ := this
        refine ⟨z, ?_, h2⟩
        simp only [valOp, SSt.ev_img hu]
        split
        · rename_i κ e
          have : u.toAV = .own κ := by simpa using e
          exfalso
          cases u <;> simp only [SV.toAV] at this <;> try cases this
          · exact hno κ rfl
          · split at this <;> cases this
        · rename_i e; cases e; exact h1
        · rename_i e; cases e
    · cases h
  · split at h
    · rename_i u hu
      have := loadS_sound h hob
      simpa only [valOp, SSt.ev_img hu, obind_some] using this
    · cases h
  · split at h
    · rename_i u hu
      have := fieldAddrS_sound h
      simpa only [valOp, SSt.ev_img hu, obind_some] using this
    · cases h
  · split at h
    · rename_i u hu
      have := fieldS_sound h
      simpa only [valOp, SSt.ev_img hu, obind_some] using this
    · cases h
  · split at h
    · rename_i vx vy hx hy
      split at h
      · rename_i k i hi
        have := indexAddrS_sound h hob
        simpa only [valOp, SSt.ev_img hx, SSt.ev_img hy, SV.int_img hi] using this
      · cases h
    · cases h
  · split at h
    · rename_i vx vy hx hy
      split at h
      · rename_i k i hi
        have := indexS_sound h hob
        simpa only [valOp, SSt.ev_img hx, SSt.ev_img hy, SV.int_img hi] using this
      · cases h
    · cases h
  · split at h
    · rename_i vx il ih im h1 h2 h3 h4
      have := sliceS_sound h hob
      simpa only [valOp, SSt.ev_img h1, evI_img h2, evI_img h3, evI_img h4] using this
    · cases h
  · split at h
    · rename_i vs hu
      have := part1_sound h
      refine ValOk.of_eq ?_
      simp only [valOp, SSt.ev_img hu, SV.toAV]
      exact this
    · cases h
  · split at h
    · rename_i ps hp
      have := buildS_sound h
      simpa only [valOp, evP_img hp, obind_some] using this
    · cases h
  · split at h
    · rename_i u hu; exact nilCheckS_sound hu h
    · cases h
  · split at h
    · rename_i h1
      split at h
      · rename_i h2; cases h; exact ValOk.of_eq (by simp only [valOp, h1, h2, if_true, SV.toAV])
      · rename_i h2
        split at h
        · rename_i vs hv; cases h; exact ValOk.of_eq (by simp only [valOp, h1, if_true, if_neg h2, evL_img hv, omap_some, SV.toAV])
        · cases h
    · cases h
  · split at h
    · rename_i x h1 h2
      split at h
      · rename_i u hu; cases h; exact ValOk.of_eq (by simp only [valOp, h1, h2, SSt.ev_img hu, omap_some, SV.toAV])
      · cases h
    · cases h
  · split at h
    · cases h
    · rename_i h1
      split at h
      · rename_i h2
        split at h
        · rename_i u hu; cases h; exact ValOk.of_eq (by simp only [valOp, if_neg h1, h2, SSt.ev_img hu, omap_some, SV.toAV])
        · cases h
      · cases h
  · split at h
    · rename_i hc
      split at h
      · rename_i x t h1 h2
        split at h
        · rename_i u hu
          have := lenS_sound h
          simpa only [valOp, hc, h1, h2, SSt.ev_img hu, obind_some] using this
        · cases h
      · cases h
    · rename_i hc
      split at h
      · rename_i x t h1 h2
        split at h
        · rename_i u hu
          have := capS_sound h
          simpa only [valOp, hc, h1, h2, SSt.ev_img hu, obind_some] using this
        · cases h
      · cases h
    · rename_i hc
      split at h
      · rename_i x y h1
        split at h
        · rename_i vx vy hx hy
          unfold minS at h
          split at h
          · rename_i k a k' b e1 e2
            split at h
            · rename_i hk; subst hk; cases h
              exact ValOk.of_eq (by simp only [valOp, hc, h1, St.evL, SSt.ev_img hx, SSt.ev_img hy, SV.int_img e1, SV.int_img e2, obind_some, minI, if_true, SV.toAV])
            · cases h
          · cases h
        · cases h
      · cases h
    · cases h
  · cases h
end Go.Proofs.Ytpdbekbobkjfgaa
