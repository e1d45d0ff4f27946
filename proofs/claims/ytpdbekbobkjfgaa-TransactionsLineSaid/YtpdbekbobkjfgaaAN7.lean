/-
  Walks that the kernel reckons out, part 7: what states and results look like.
  Conditions: none; nothing here speaks of one program.
-/
import Derived.Test.YtpdbekbobkjfgaaAN6
namespace Go.Proofs.Ytpdbekbobkjfgaa
open Go.RowKit
set_option linter.unusedVariables false
set_option linter.constructorNameAsVariable false

/-- Less is said of slots and blocks. -/
theorem le_st {s' s : St} (hn : s'.n = s.n) (ht : ∀ t v', gt t s'.tm = some v' → ∃ v, gt t s.tm = some v ∧ AVLe v v') (hb : ∀ κ B', gt κ s'.hp = some B' → ∃ B, gt κ s.hp = some B ∧ BLe B B') : LeSt s' s := by
  intro c m a w hr
  have ho : ∀ b, Owned m s'.hp b → Owned m s.hp b := by
    rintro b ⟨j, C, hC, hb'⟩
    obtain ⟨C0, h0, _⟩ := hb j C hC
    exact ⟨j, C0, h0, hb'⟩
  have hk : Kept w (Forb c m s.hp) w (Forb c m s'.hp) := fun b _ hnb => ⟨fun h => hnb (h.imp id (ho b)), rfl⟩
  refine ⟨hr.defers, by rw [hn]; exact hr.nt, ?_, ?_, ?_, ?_, ?_, hr.fr, hr.xlt, hr.pin, hr.pinp⟩
  · intro t v' hv
    obtain ⟨v, h1, h2⟩ := ht t v' hv
    exact h2 _ _ _ _ (RepV.kept hk (Nat.le_refl _) _ _ (hr.slot t v h1))
  · intro κ B' hB
    obtain ⟨B, h1, h2⟩ := hb κ B' hB
    refine h2 _ _ _ _ ?_
    have := hr.heap κ B h1
    exact RepB.kept hk (Nat.le_refl _) (fun b _ _ => rfl) this
  · intro κ κ' B B' b h1 h2
    obtain ⟨_, h1, _⟩ := hb κ B h1
    obtain ⟨_, h2, _⟩ := hb κ' B' h2
    exact hr.sep κ κ' _ _ b h1 h2
  · intro κ B b h1
    obtain ⟨_, h1, _⟩ := hb κ B h1
    exact hr.nox κ _ b h1
  · intro κ B b h1
    obtain ⟨_, h1, _⟩ := hb κ B h1
    exact hr.old κ _ b h1

def RepsLe (vs vs' : List AV) : Prop := ∀ (w : World) (F : Nat → Prop) (m : Nat → Value) (us : List Value), RepVs w F m vs us → RepVs w F m vs' us
/-- What a value looks like: how its leaves are got, how it is put together again. -/
structure VPat (X : Type) where
  get : SV → Option X
  put : X → SV
  le : ∀ v x, get v = some x → AVLe v.toAV (put x).toAV
structure VsPat (X : Type) where
  get : List SV → Option X
  put : X → List SV
  le : ∀ v x, get v = some x → RepsLe (SV.toAVs v) (SV.toAVs (put x))
/-- Data of a shape. -/
def shp (s : Sh) : VPat s.T where
  get v := if s.ok = true then SV.asT s v else none
  put x := s.sv x
  le v x h := by
    split at h
    · rename_i hk; exact AVLe.trans (asT_le h) (s.sv_le _ hk)
    · cases h
/-- This very data. -/
def datp (x : D) : VPat Unit where
  get v := match v with
    | .d y => if sqD y x = true then some () else none
    | _ => none
  put _ := .d x
  le v _ h := by
    split at h
    · split at h
      · rename_i hq
        have := sqD_eq _ _ hq
        subst this
        exact AVLe.refl _
      · cases h
    · cases h
def ptrp (κ off : Nat) : VPat Unit where
  get v := match v with
    | .ptr κ' off' => if κ' = κ ∧ off' = off then some () else none
    | _ => none
  put _ := .ptr κ off
  le v _ h := by
    split at h
    · split at h
      · rename_i hq; obtain ⟨rfl, rfl⟩ := hq; exact AVLe.refl _
      · cases h
    · cases h
def ownp (κ : Nat) : VPat Unit where
  get v := match v with
    | .own κ' => if κ' = κ then some () else none
    | _ => none
  put _ := .own κ
  le v _ h := by
    split at h
    · split at h
      · rename_i hq; obtain rfl := hq; exact AVLe.refl _
      · cases h
    · cases h
def anyp : VPat Unit where
  get _ := some ()
  put _ := .bot
  le v _ _ := fun w F m u _ => by simp only [SV.toAV, RepV]
def aggp {X : Type} (p : VsPat X) : VPat X where
  get v := match v with
    | .agg vs => p.get vs
    | .d (.agg ds) => p.get (ds.map .d)
    | _ => none
  put x := .agg (p.put x)
  le v x h := by
    split at h
    · have h1 := p.le _ _ h
      intro w F m u hr
      simp only [SV.toAV, RepV] at hr ⊢
      obtain ⟨us, rfl, h3, h4⟩ := hr
      exact ⟨us, rfl, h1 w F m us h3, h4⟩
    · rename_i ds
      have h1 := p.le _ _ h
      intro w F m u hr
      have hr := D.sv_le (.agg ds) w F m u (by simpa only [SV.toAV] using hr)
      simp only [D.sv, SV.toAV, RepV] at hr ⊢
      obtain ⟨us, rfl, h3, h4⟩ := hr
      exact ⟨us, rfl, h1 w F m us h3, h4⟩
    · cases h
def tupp {X : Type} (p : VsPat X) : VPat X where
  get v := match v with
    | .tup vs => p.get vs
    | _ => none
  put x := .tup (p.put x)
  le v x h := by
    split at h
    · have h1 := p.le _ _ h
      intro w F m u hr
      simp only [SV.toAV, RepV] at hr ⊢
      obtain ⟨us, rfl, h3⟩ := hr
      exact ⟨us, rfl, h1 w F m us h3⟩
    · cases h
def closp {X : Type} (f : FuncId) (p : VsPat X) : VPat X where
  get v := match v with
    | .clos f' vs => if f' = f then p.get vs else none
    | _ => none
  put x := .clos f (p.put x)
  le v x h := by
    split at h
    · split at h
      · rename_i hq
        obtain rfl := hq
        have h1 := p.le _ _ h
        intro w F m u hr
        simp only [SV.toAV, RepV] at hr ⊢
        obtain ⟨us, rfl, h3⟩ := hr
        exact ⟨us, rfl, h1 w F m us h3⟩
      · cases h
    · cases h
def ifcp {X : Type} (t : TypeId) (p : VPat X) : VPat X where
  get v := match v with
    | .wrap (.ifc t') u => if t' = t then p.get u else none
    | _ => none
  put x := .wrap (.ifc t) (p.put x)
  le v x h := by
    split at h
    · split at h
      · rename_i hq
        obtain rfl := hq
        have h1 := p.le _ _ h
        intro w F m u hr
        simp only [SV.toAV, RepV] at hr ⊢
        obtain ⟨u0, rfl, h3⟩ := hr
        exact ⟨u0, rfl, h1 w F m u0 h3⟩
      · cases h
    · cases h
def vnil : VsPat Unit where
  get v := match v with
    | [] => some ()
    | _ => none
  put _ := []
  le v x h := by
    split at h
    · exact fun w F m us hr => hr
    · cases h
def bothO {A B : Type} (x : Option A) (y : Option B) : Option (A × B) :=
  match x, y with
  | some a, some b => some (a, b)
  | _, _ => none
theorem bothO_some {A B : Type} {x : Option A} {y : Option B} {z : A × B} (h : bothO x y = some z) : x = some z.1 ∧ y = some z.2 := by
  unfold bothO at h
  split at h
  · cases h; exact ⟨rfl, rfl⟩
  · cases h
def vcons {A B : Type} (p : VPat A) (q : VsPat B) : VsPat (A × B) where
  get v := match v with
    | v :: vs => bothO (p.get v) (q.get vs)
    | [] => none
  put x := p.put x.1 :: q.put x.2
  le v x h := by
    split at h
    · obtain ⟨h1, h2⟩ := bothO_some h
      have h1 := p.le _ _ h1
      have h2 := q.le _ _ h2
      intro w F m us hr
      simp only [SV.toAVs, RepVs] at hr ⊢
      obtain ⟨u, rest, e, r1, r2⟩ := hr
      exact ⟨u, rest, e, h1 w F m u r1, h2 w F m rest r2⟩
    · cases h
/-- The same, with nothing to be got. -/
def vcon0 {B : Type} (p : VPat Unit) (q : VsPat B) : VsPat B where
  get v := match v with
    | v :: vs => match p.get v with
      | some _ => q.get vs
      | none => none
    | [] => none
  put x := p.put () :: q.put x
  le v x h := by
    split at h
    · split at h
      · rename_i h1
        have h1 := p.le _ _ h1
        have h2 := q.le _ _ h
        intro w F m us hr
        simp only [SV.toAVs, RepVs] at hr ⊢
        obtain ⟨u, rest, e, r1, r2⟩ := hr
        exact ⟨u, rest, e, h1 w F m u r1, h2 w F m rest r2⟩
      · cases h
    · cases h

/-- What a block looks like. -/
structure BPat (X : Type) where
  get : SB → Option X
  put : X → SB
  le : ∀ v x, get v = some x → BLe v.toB (put x).toB
def boxp {X : Type} (e : TypeId) (p : VsPat X) : BPat X where
  get B := match B with
    | .box e' vs => if e' = e then p.get vs else none
    | _ => none
  put x := .box e (p.put x)
  le B x h := by
    split at h
    · split at h
      · rename_i hq
        obtain rfl := hq
        have h1 := p.le _ _ h
        intro w F m κ hr
        simp only [SB.toB, RepB] at hr ⊢
        obtain ⟨b, c, r1, r2, r3, r4⟩ := hr
        exact ⟨b, c, r1, r2, h1 w F m _ r3, r4⟩
      · cases h
    · cases h
def intsp (e : TypeId) (k : IntKind) : BPat (List Int) where
  get B := match B with
    | .ints e' k' xs _ => if e' = e ∧ k' = k then some xs else none
    | _ => none
  put x := .ints e k x none
  le B x h := by
    split at h
    · split at h
      · rename_i hq; obtain ⟨rfl, rfl⟩ := hq; cases h; exact ints_ble (.inr rfl)
      · cases h
    · cases h
def rowp (e : TypeId) (s : Sh) : BPat (List s.T) where
  get B := match B with
    | .row e' s' xs _ => if e' = e then castSh s' s xs else none
    | _ => none
  put x := .row e s x none
  le B x h := by
    split at h
    · split at h
      · rename_i hq
        obtain rfl := hq
        obtain ⟨h1, h2⟩ := castSh_some h
        simp only [SB.toB]
        rw [h1, h2]
        exact row_ble (DsLe.refl _) (.inr rfl)
      · cases h
    · cases h
def BsLe : List Blk → List Blk → Prop
  | [], [] => True
  | B :: l, B' :: l' => BLe B B' ∧ BsLe l l'
  | _, _ => False
theorem BsLe.len : ∀ {l l' : List Blk}, BsLe l l' → l.length = l'.length
  | [], [], _ => rfl
  | B :: l, B' :: l', h => by simp [BsLe.len h.2]
  | [], _ :: _, h => h.elim
  | _ :: _, [], h => h.elim
theorem BsLe.get : ∀ {l l' : List Blk}, BsLe l l' → ∀ (i : Nat) B', l'[i]? = some B' → ∃ B, l[i]? = some B ∧ BLe B B'
  | [], [], _, i, B', h => by simp at h
  | B :: l, C :: l', hl, i, B', h => by
    cases i with
    | zero => simp at h; subst h; exact ⟨B, rfl, hl.1⟩
    | succ i => exact BsLe.get hl.2 i B' (by simpa using h)
  | [], _ :: _, h, _, _, _ => h.elim
  | _ :: _, [], h, _, _, _ => h.elim
theorem le_bare {hs hs' : List Blk} (h : BsLe hs hs') : LeSt (St.bare hs') (St.bare hs) := by
  refine le_st rfl (fun t v hv => by simp [St.bare, gt] at hv) fun κ B' hB => ?_
  have hB : gt κ (hpFrom 0 hs') = some B' := hB
  obtain ⟨B, h1, h2⟩ := h.get κ B' (by simpa using (gt_hp0.1 hB))
  exact ⟨B, gt_hp0.2 (by simpa using h1), h2⟩
theorem forb_le {c : Ctx} {m : Nat → Value} {hs hs' : List Blk} (h : BsLe hs hs') : Forb c m (hpFrom 0 hs) = Forb c m (hpFrom 0 hs') := by
  funext b
  simp only [Forb]
  congr 1
  refine propext ⟨?_, ?_⟩
  · rintro ⟨κ, B, hB, hb⟩
    have hlt : κ < hs'.length := by
      rw [← h.len]
      exact (List.getElem?_eq_some_iff.1 (gt_hp0.1 hB)).1
    exact ⟨κ, hs'[κ], gt_hp0.2 (List.getElem?_eq_getElem hlt), hb⟩
  · rintro ⟨κ, B, hB, hb⟩
    obtain ⟨B0, h1, _⟩ := h.get κ B (gt_hp0.1 hB)
    exact ⟨κ, B0, gt_hp0.2 h1, hb⟩
/-- A function is told of more than it asks. -/
theorem ACall.le {P : Program} {f : FuncId} {vs vs' : List AV} {hs hs' : List Blk} {Post : AV → List Blk → Prop} (hv : RepsLe vs vs') (hb : BsLe hs hs') (h : ACall P f vs' hs' Post) : ACall P f vs hs Post := by
  intro cx m us w hr hu hp
  have := h cx m us w (le_bare hb _ _ _ _ hr) (hv _ _ _ _ (by rw [← forb_le hb]; exact hu)) (fun κ v h => by rw [← hb.len]; exact hp κ v h)
  rw [← hb.len] at this
  exact this

structure BsPat (X : Type) where
  get : List SB → Option X
  put : X → List SB
  le : ∀ v x, get v = some x → BsLe (v.map SB.toB) ((put x).map SB.toB)
def bnil : BsPat Unit where
  get v := match v with
    | [] => some ()
    | _ => none
  put _ := []
  le v x h := by
    split at h
    · exact trivial
    · cases h
def bcons {A B : Type} (p : BPat A) (q : BsPat B) : BsPat (A × B) where
  get v := match v with
    | v :: vs => bothO (p.get v) (q.get vs)
    | [] => none
  put x := p.put x.1 :: q.put x.2
  le v x h := by
    split at h
    · obtain ⟨h1, h2⟩ := bothO_some h
      exact ⟨p.le _ _ h1, q.le _ _ h2⟩
    · cases h
def bcon0 {B : Type} (p : BPat Unit) (q : BsPat B) : BsPat B where
  get v := match v with
    | v :: vs => match p.get v with
      | some _ => q.get vs
      | none => none
    | [] => none
  put x := p.put () :: q.put x
  le v x h := by
    split at h
    · split at h
      · rename_i h1; exact ⟨p.le _ _ h1, q.le _ _ h⟩
      · cases h
    · cases h
/-! ### States -/
structure TPat (X : Type) where
  get : List (Nat × SV) → Option X
  put : X → List (Nat × SV)
  le : ∀ tm x, get tm = some x → ∀ t v', gt t (put x) = some v' → ∃ v, gt t tm = some v ∧ AVLe v.toAV v'.toAV
def tnil : TPat Unit where
  get _ := some ()
  put _ := []
  le tm x h t v' hv := by simp [gt] at hv
def tcons {A B : Type} (t0 : Nat) (p : VPat A) (q : TPat B) : TPat (A × B) where
  get tm := match gt t0 tm with
    | some v => bothO (p.get v) (q.get tm)
    | none => none
  put x := (t0, p.put x.1) :: q.put x.2
  le tm x h t v' hv := by
    split at h
    · rename_i v hv0
      obtain ⟨h1, h2⟩ := bothO_some h
      simp only [gt] at hv
      split at hv
      · rename_i e; subst e; cases hv; exact ⟨v, hv0, p.le _ _ h1⟩
      · exact q.le _ _ h2 t v' hv
    · cases h
def tcon0 {B : Type} (t0 : Nat) (p : VPat Unit) (q : TPat B) : TPat B where
  get tm := match gt t0 tm with
    | some v => match p.get v with
      | some _ => q.get tm
      | none => none
    | none => none
  put x := (t0, p.put ()) :: q.put x
  le tm x h t v' hv := by
    split at h
    · rename_i v hv0
      split at h
      · rename_i h1
        simp only [gt] at hv
        split at hv
        · rename_i e; subst e; cases hv; exact ⟨v, hv0, p.le _ _ h1⟩
        · exact q.le _ _ h t v' hv
      · cases h
    · cases h
structure HPat (X : Type) where
  get : List (Nat × SB) → Option X
  put : X → List (Nat × SB)
  le : ∀ hp x, get hp = some x → ∀ t v', gt t (put x) = some v' → ∃ v, gt t hp = some v ∧ BLe v.toB v'.toB
def hnil : HPat Unit where
  get _ := some ()
  put _ := []
  le tm x h t v' hv := by simp [gt] at hv
def hcons {A B : Type} (t0 : Nat) (p : BPat A) (q : HPat B) : HPat (A × B) where
  get tm := match gt t0 tm with
    | some v => bothO (p.get v) (q.get tm)
    | none => none
  put x := (t0, p.put x.1) :: q.put x.2
  le tm x h t v' hv := by
    split at h
    · rename_i v hv0
      obtain ⟨h1, h2⟩ := bothO_some h
      simp only [gt] at hv
      split at hv
      · rename_i e; subst e; cases hv; exact ⟨v, hv0, p.le _ _ h1⟩
      · exact q.le _ _ h2 t v' hv
    · cases h
def hcon0 {B : Type} (t0 : Nat) (p : BPat Unit) (q : HPat B) : HPat B where
  get tm := match gt t0 tm with
    | some v => match p.get v with
      | some _ => q.get tm
      | none => none
    | none => none
  put x := (t0, p.put ()) :: q.put x
  le tm x h t v' hv := by
    split at h
    · rename_i v hv0
      split at h
      · rename_i h1
        simp only [gt] at hv
        split at hv
        · rename_i e; subst e; cases hv; exact ⟨v, hv0, p.le _ _ h1⟩
        · exact q.le _ _ h t v' hv
      · cases h
    · cases h
/-- What a state looks like. -/
structure SPat (X : Type) where
  get : SSt → Option X
  put : X → SSt
  le : ∀ s x, get s = some x → LeSt (put x).toSt s.toSt
def spat {A B : Type} (n : Nat) (p : TPat A) (q : HPat B) : SPat (A × B) where
  get s := if s.n = n then bothO (p.get s.tm) (q.get s.hp) else none
  put x := ⟨n, p.put x.1, q.put x.2⟩
  le s x h := by
    split at h
    · rename_i hn
      obtain ⟨h1, h2⟩ := bothO_some h
      refine le_st hn.symm ?_ ?_
      · intro t v' hv
        replace hv : gt t (mapk SV.toAV (p.put x.1)) = some v' := hv
        rw [gt_mapk] at hv
        obtain ⟨v, hv1, rfl⟩ := Option.map_eq_some_iff.1 hv
        obtain ⟨u, h4, h5⟩ := p.le _ _ h1 t v hv1
        exact ⟨u.toAV, by simp only [SSt.toSt, gt_mapk, h4, Option.map_some], h5⟩
      · intro κ B' hB
        replace hB : gt κ (mapk SB.toB (q.put x.2)) = some B' := hB
        rw [gt_mapk] at hB
        obtain ⟨B, hB1, rfl⟩ := Option.map_eq_some_iff.1 hB
        obtain ⟨u, h4, h5⟩ := q.le _ _ h2 κ B hB1
        exact ⟨u.toB, gt_hp h4, h5⟩
    · cases h

/-! ### Ghost steps: before a loop's head -/
inductive Gh where
  | fz (t : Nat)
  | fzk (κ : Nat)
  | mat (t κ : Nat) (B : SB)
  | matc (κb i κ : Nat) (B : SB)
def emptySB : SB → Bool
  | .ints _ _ [] (some 0) => true
  | .row _ _ [] (some 0) => true
  | _ => false
def Gh.run : Gh → SSt → SSt
  | .fz t, s => match gt t s.tm with
    | some (.own κ) => match s.freeze κ with
      | some s' => s'
      | none => s
    | _ => s
  | .fzk κ, s => match s.freeze κ with
    | some s' => s'
    | none => s
  | .matc κb i κ B, s => match gt κb s.hp with
    | some (.box e cs) => match cs[i]? with
      | some (.d x) => if isEmptyA (.d x) = true ∧ emptySB B = true ∧ 16 ≤ κ ∧ κb ≠ κ then { s.setB true κ B with hp := ins κb (.box e ((killSs κ cs).set i (.own κ))) (s.setB true κ B).hp } else s
      | _ => s
    | _ => s
  | .mat t κ B, s => match gt t s.tm with
    | some (.d x) => if isEmptyA (.d x) = true ∧ emptySB B = true ∧ 16 ≤ κ ∧ t < s.n then (s.setB true κ B).put (some t) (.own κ) else s
    | _ => s
/-- The same machine, seen otherwise. -/
def GSt (s' s : St) : Prop := ∀ (c : Ctx) (m : Nat → Value) (a : Act) (w : World), SRep c m s a w → ∃ m', SRep c m' s' a w
theorem LeSt.gst {s' s : St} (h : LeSt s' s) : GSt s' s := fun c m a w hr => ⟨m, h c m a w hr⟩
theorem GSt.trans {a b c : St} (h : GSt a b) (h' : GSt b c) : GSt a c := fun cx m ac w hr => by
  obtain ⟨m', h1⟩ := h' cx m ac w hr
  exact h cx m' ac w h1
theorem awp_gst {P : Program} {c : Code} {Q : Exit → St → Prop} {s s' : St} (h : GSt s' s) (ha : AWp P c Q s') : AWp P c Q s := fun cx m a w hr => by
  obtain ⟨m', h1⟩ := h cx m a w hr
  exact ha cx m' a w h1
theorem gst_mat {s : St} {t κ : Nat} {B : Blk} {v : AV} (ht : gt t s.tm = some v) (he : isEmptyA v = true) (h16 : 16 ≤ κ) (htn : t < s.n) (hB : (∃ e k, B = .ints e k [] (some 0)) ∨ (∃ e n, B = .row e n [] (some 0))) : GSt (s.mat t κ B) s := by
  intro cx m a w hr
  have hv := hr.slot t v ht
  obtain ⟨ad, had⟩ := isEmptyA_val hv he
  obtain ⟨h1, _⟩ := hr.mat κ B ad h16 hB
  have h2 := h1.put (dst := some t) (v := .own κ) (u := .slice ad 0 0) (by simp only [St.okDst, St.setB]; simpa using htn) (by simp only [RepV, upm_same]; exact ⟨trivial, rfl⟩)
  have e : a.put (some t) (.slice ad 0 0) = a := by
    have hlt : t < a.tmps.size := by rw [hr.nt]; exact htn
    have : a.tmps.setIfInBounds t (.slice ad 0 0) = a.tmps := by
      apply Array.ext_getElem?
      intro i
      by_cases e : t = i
      · subst e
        have had' : a.tmps[t] = .slice ad 0 0 := by rw [Array.getD_eq_getD_getElem?, Array.getElem?_eq_getElem hlt] at had; exact had
        rw [Array.getElem?_eq_getElem hlt, had']
        simp [hlt]
      · rw [Array.getElem?_setIfInBounds_ne e]
    simp only [Act.put, this]
  rw [e] at h2
  exact ⟨_, h2⟩
theorem gst_matc {s : St} {κb i κ : Nat} {e : TypeId} {cs : List AV} {B : Blk} {v : AV} (hb : gt κb s.hp = some (.box e cs)) (hi : cs[i]? = some v) (he : isEmptyA v = true) (h16 : 16 ≤ κ) (hne : κb ≠ κ) (hB : (∃ e k, B = .ints e k [] (some 0)) ∨ (∃ e n, B = .row e n [] (some 0))) :
    GSt { s.setB true κ B with hp := ins κb (.box e ((killVs κ cs).set i (.own κ))) (s.setB true κ B).hp } s := by
  intro cx m a w hr
  obtain ⟨b, c, h1, h2, h3, h4⟩ := hr.heap κb _ hb
  obtain ⟨u, hu, hv⟩ := (RepVs_iff.1 h3).2 i v hi
  obtain ⟨ad, had⟩ := isEmptyA_val hv he
  obtain ⟨r1, _⟩ := hr.mat κ B ad h16 hB
  have hg : gt κb (s.setB true κ B).hp = some (.box e (killVs κ cs)) := by
    rw [gt_setB, if_neg hne, hb]; rfl
  refine ⟨upm m κ (.slice ad 0 0), ?_⟩
  -- the block κb, one cell of which is told otherwise
  have hF : ∀ B', Forb cx (upm m κ (.slice ad 0 0)) (ins κb B' (s.setB true κ B).hp) = Forb cx (upm m κ (.slice ad 0 0)) (s.setB true κ B).hp := by
    intro B'
    funext z
    simp only [Forb]
    congr 1
    refine propext ⟨?_, ?_⟩
    · rintro ⟨j, C, hC, hz⟩
      rw [gt_ins] at hC
      split at hC
      · rename_i ej; subst ej; exact ⟨_, _, hg, hz⟩
      · exact ⟨j, C, hC, hz⟩
    · rintro ⟨j, C, hC, hz⟩
      by_cases ej : j = κb
      · exact ⟨j, B', by rw [gt_ins, if_pos ej], hz⟩
      · exact ⟨j, C, by rw [gt_ins, if_neg ej]; exact hC, hz⟩
  refine { r1 with slot := ?_, heap := ?_, sep := ?_, nox := ?_, old := ?_ }
  · intro t x hx
    show RepV w (Forb cx _ (ins κb _ (s.setB true κ B).hp)) _ x _
    rw [hF]; exact r1.slot t x hx
  · intro j C hC
    show RepB w (Forb cx _ (ins κb _ (s.setB true κ B).hp)) _ j C
    rw [hF]
    replace hC : gt j (ins κb _ (s.setB true κ B).hp) = some C := hC
    rw [gt_ins] at hC
    split at hC
    · rename_i ej
      subst ej
      simp only [Option.some.injEq] at hC
      subst hC
      obtain ⟨b', c', q1, q2, q3, q4⟩ := r1.heap _ _ hg
      refine ⟨b', c', q1, q2, ?_, q4⟩
      have hbb : b' = b ∧ c' = c := by
        have e1 : upm m κ (.slice ad 0 0) j = m j := upm_ne m _ hne
        rw [e1, h1] at q1
        have : b' = b := by simpa using q1.symm
        subst this
        rw [h2] at q2
        simp only [Option.some.injEq, Obj.cells.injEq] at q2
        exact ⟨rfl, q2.1.symm⟩
      obtain ⟨rfl, rfl⟩ := hbb
      obtain ⟨hl, hget⟩ := RepVs_iff.1 q3
      refine RepVs_iff.2 ⟨by rw [List.length_set]; exact hl, fun k x hx => ?_⟩
      rw [List.getElem?_set] at hx
      split at hx
      · rename_i ek
        subst ek
        split at hx
        · simp only [Option.some.injEq] at hx
          subst hx
          refine ⟨u, hu, ?_⟩
          simp only [RepV, upm_same]
          exact ⟨had, by rw [had]; rfl⟩
        · cases hx
      · exact hget k x hx
    · exact r1.heap j C hC
  · intro j j' C C' z hj hj'
    have f : ∀ {j C}, gt j (ins κb (.box e ((killVs κ cs).set i (.own κ))) (s.setB true κ B).hp) = some C → ∃ C0, gt j (s.setB true κ B).hp = some C0 := by
      intro j C hC
      rw [gt_ins] at hC
      split at hC
      · rename_i ej; subst ej; exact ⟨_, hg⟩
      · exact ⟨_, hC⟩
    obtain ⟨_, hj⟩ := f hj
    obtain ⟨_, hj'⟩ := f hj'
    exact r1.sep j j' _ _ z hj hj'
  · intro j C z hj
    have : ∃ C0, gt j (s.setB true κ B).hp = some C0 := by
      replace hj : gt j (ins κb _ (s.setB true κ B).hp) = some C := hj
      rw [gt_ins] at hj
      split at hj
      · rename_i ej; subst ej; exact ⟨_, hg⟩
      · exact ⟨_, hj⟩
    obtain ⟨_, hj⟩ := this
    exact r1.nox j _ z hj
  · intro j C z hj
    have : ∃ C0, gt j (s.setB true κ B).hp = some C0 := by
      replace hj : gt j (ins κb _ (s.setB true κ B).hp) = some C := hj
      rw [gt_ins] at hj
      split at hj
      · rename_i ej; subst ej; exact ⟨_, hg⟩
      · exact ⟨_, hj⟩
    obtain ⟨_, hj⟩ := this
    exact r1.old j _ z hj
theorem emptySB_img {B : SB} (h2 : emptySB B = true) : (∃ e k, B.toB = .ints e k [] (some 0)) ∨ (∃ e n, B.toB = .row e n [] (some 0)) := by
  unfold emptySB at h2
  split at h2
  · exact .inl ⟨_, _, rfl⟩
  · exact .inr ⟨_, _, rfl⟩
  · cases h2
theorem toAVs_set : ∀ (l : List SV) (i : Nat) (v : SV), SV.toAVs (l.set i v) = (SV.toAVs l).set i v.toAV
  | [], i, v => rfl
  | x :: l, 0, v => by simp only [List.set_cons_zero, SV.toAVs]
  | x :: l, i + 1, v => by simp only [List.set_cons_succ, SV.toAVs, toAVs_set l i v]
theorem Gh.run_le (g : Gh) (s : SSt) : GSt (g.run s).toSt s.toSt := by
  cases g with
  | fz t =>
    simp only [Gh.run]
    split
    · split
      · rename_i h; exact (freeze_le h).gst
      · exact (LeSt.refl _).gst
    · exact (LeSt.refl _).gst
  | fzk κ =>
    simp only [Gh.run]
    split
    · rename_i h; exact (freeze_le h).gst
    · exact (LeSt.refl _).gst
  | matc κb i κ B =>
    simp only [Gh.run]
    split
    · rename_i e cs hb
      split
      · rename_i x hx
        split
        · rename_i hc
          obtain ⟨h1, h2, h3, h4⟩ := hc
          have hbb := gt_hp hb
          simp only [SB.toB] at hbb
          have := gst_matc (B := B.toB) hbb (i := i) (v := .d x) (by rw [toAVs_get, hx]; simp only [Option.map_some, SV.toAV]) h1 h3 h4 (emptySB_img h2)
          have e1 : ({ s.setB true κ B with hp := ins κb (.box e ((killSs κ cs).set i (.own κ))) (s.setB true κ B).hp } : SSt).toSt = { s.toSt.setB true κ B.toB with hp := ins κb (.box e ((killVs κ (SV.toAVs cs)).set i (.own κ))) (s.toSt.setB true κ B.toB).hp } := by
            rw [← setB_img]
            simp only [SSt.toSt, ins_mapk, SB.toB, toAVs_set, killSs_img, SV.toAV]
          rw [e1]; exact this
        · exact (LeSt.refl _).gst
      · exact (LeSt.refl _).gst
    · exact (LeSt.refl _).gst
  | mat t κ B =>
    simp only [Gh.run]
    split
    · rename_i x hx
      split
      · rename_i hc
        obtain ⟨h1, h2, h3, h4⟩ := hc
        have hB : (∃ e k, B.toB = .ints e k [] (some 0)) ∨ (∃ e n, B.toB = .row e n [] (some 0)) := by
          unfold emptySB at h2
          split at h2
          · exact .inl ⟨_, _, rfl⟩
          · exact .inr ⟨_, _, rfl⟩
          · cases h2
        have ht : gt t s.toSt.tm = some (.d x) := by simp only [SSt.toSt, gt_mapk, hx, Option.map_some, SV.toAV]
        have := gst_mat ht h1 h3 h4 hB
        have e : ((s.setB true κ B).put (some t) (.own κ)).toSt = s.toSt.mat t κ B.toB := by rw [put_img, setB_img]; simp only [SV.toAV, St.mat]
        rw [e]; exact this
      · exact (LeSt.refl _).gst
    · exact (LeSt.refl _).gst
def Gh.runs : List Gh → SSt → SSt
  | [], s => s
  | g :: l, s => Gh.runs l (g.run s)
theorem Gh.runs_le : ∀ (l : List Gh) (s : SSt), GSt (Gh.runs l s).toSt s.toSt
  | [], s => (LeSt.refl _).gst
  | g :: l, s => (Gh.runs_le l (g.run s)).trans (g.run_le s)
end Go.Proofs.Ytpdbekbobkjfgaa
