/-
  An abstract view of the machine, part 13: calls: what is handed over is renamed, and comes back.
  Conditions: none; nothing here speaks of one program.
-/
import Derived.Test.YtpdbekbobkjfgaaAM12
namespace Go.Proofs.Ytpdbekbobkjfgaa
open Go.RowKit
set_option linter.unusedVariables false

/-- Where κ stands in ks. -/
def posOf (κ : Nat) : List Nat → Option Nat
  | [] => none
  | k :: l => if κ = k then some 0 else omap (posOf κ l) (· + 1)
theorem posOf_get {κ : Nat} : ∀ {ks : List Nat} {j : Nat}, posOf κ ks = some j → ks[j]? = some κ
  | k :: l, j, h => by
    simp only [posOf] at h
    split at h
    · rename_i e; cases h; subst e; rfl
    · obtain ⟨i, hi, rfl⟩ := Option.map_eq_some_iff.1 h
      simpa using posOf_get hi
theorem posOf_none {κ : Nat} : ∀ {ks : List Nat}, posOf κ ks = none → κ ∉ ks
  | [], _ => by simp
  | k :: l, h => by
    simp only [posOf] at h
    split at h
    · cases h
    · rename_i e
      have := posOf_none (Option.map_eq_none_iff.1 h)
      simp [e, this]
theorem posOf_self : ∀ {ks : List Nat} {j κ : Nat}, ks.Nodup → ks[j]? = some κ → posOf κ ks = some j
  | k :: l, 0, κ, _, h => by simp at h; subst h; simp [posOf]
  | k :: l, j + 1, κ, hn, h => by
    have h' : l[j]? = some κ := by simpa using h
    have hne : κ ≠ k := by
      intro e; subst e
      exact (List.nodup_cons.1 hn).1 (List.mem_of_getElem? h')
    simp [posOf, hne, posOf_self (List.nodup_cons.1 hn).2 h', omap]

mutual
/-- Keys renamed: f says how; a key without a new name is forgotten. -/
def renV (f : Nat → Option Nat) : AV → AV
  | .d x => .d x
  | .ptr κ off => match f κ with | some j => .ptr j off | none => .bot
  | .own κ => match f κ with | some j => .own j | none => .bot
  | .pel κ off => match f κ with | some j => .pel j off | none => .bot
  | .eaddr x => .eaddr x
  | .agg cs => .agg (renVs f cs)
  | .tup vs => .tup (renVs f vs)
  | .clos g caps => .clos g (renVs f caps)
  | .wrap k v => .wrap k (renV f v)
  | .bot => .bot
termination_by structural v => v
def renVs (f : Nat → Option Nat) : List AV → List AV
  | [] => []
  | v :: vs => renV f v :: renVs f vs
termination_by structural vs => vs
end
def renB (f : Nat → Option Nat) : Blk → Blk
  | .box e cs => .box e (renVs f cs)
  | b => b

mutual
theorem RepV.ren {w : World} {F : Nat → Prop} {m m' : Nat → Value} {f : Nat → Option Nat} (hf : ∀ κ j, f κ = some j → m' j = m κ) : ∀ (v : AV) (u : Value), RepV w F m v u → RepV w F m' (renV f v) u
  | .d x, u, h => by simpa only [renV, RepV] using h
  | .ptr κ off, u, h => by
    simp only [renV]
    split
    · rename_i j hj; simp only [RepV] at h ⊢; rw [hf κ j hj]; exact h
    · simp only [RepV]
  | .own κ, u, h => by
    simp only [renV]
    split
    · rename_i j hj; simp only [RepV] at h ⊢; rw [hf κ j hj]; exact h
    · simp only [RepV]
  | .pel κ off, u, h => by
    simp only [renV]
    split
    · rename_i j hj; simp only [RepV] at h ⊢; rw [hf κ j hj]; exact h
    · simp only [RepV]
  | .eaddr x, u, h => by simpa only [renV, RepV] using h
  | .agg cs, u, h => by
    simp only [renV, RepV] at h ⊢
    obtain ⟨us, h1, h2, h3⟩ := h
    exact ⟨us, h1, RepVs.ren hf cs us h2, h3⟩
  | .tup vs, u, h => by
    simp only [renV, RepV] at h ⊢
    obtain ⟨us, h1, h2⟩ := h
    exact ⟨us, h1, RepVs.ren hf vs us h2⟩
  | .clos g caps, u, h => by
    simp only [renV, RepV] at h ⊢
    obtain ⟨us, h1, h2⟩ := h
    exact ⟨us, h1, RepVs.ren hf caps us h2⟩
  | .wrap k v, u, h => by
    simp only [renV, RepV] at h ⊢
    obtain ⟨u0, h1, h2⟩ := h
    exact ⟨u0, h1, RepV.ren hf v u0 h2⟩
  | .bot, u, h => by simp only [renV, RepV]
theorem RepVs.ren {w : World} {F : Nat → Prop} {m m' : Nat → Value} {f : Nat → Option Nat} (hf : ∀ κ j, f κ = some j → m' j = m κ) : ∀ (vs : List AV) (us : List Value), RepVs w F m vs us → RepVs w F m' (renVs f vs) us
  | [], us, h => by simpa only [renVs, RepVs] using h
  | v :: vs, us, h => by
    simp only [renVs, RepVs] at h ⊢
    obtain ⟨u, rest, h1, h2, h3⟩ := h
    exact ⟨u, rest, h1, RepV.ren hf v u h2, RepVs.ren hf vs rest h3⟩
end

theorem RepB.ren {w : World} {F : Nat → Prop} {m m' : Nat → Value} {f : Nat → Option Nat} (hf : ∀ κ j, f κ = some j → m' j = m κ) {κ j : Nat} (hj : m' j = m κ) {B : Blk} (h : RepB w F m κ B) : RepB w F m' j (renB f B) := by
  cases B with
  | box e cs =>
    obtain ⟨b, c, h1, h2, h3, h4⟩ := h
    exact ⟨b, c, by rw [hj]; exact h1, h2, RepVs.ren hf _ _ h3, h4⟩
  | ints e k xs c => simp only [renB, RepB, hj] at h ⊢; exact h
  | row e n xs c => simp only [renB, RepB, hj] at h ⊢; exact h

/-- Blocks under the keys i, i + 1, .. -/
def hpFrom (i : Nat) : List Blk → List (Nat × Blk)
  | [] => []
  | B :: l => (i, B) :: hpFrom (i + 1) l
theorem gt_hpFrom : ∀ {bs : List Blk} {i j : Nat} {B : Blk}, gt j (hpFrom i bs) = some B ↔ i ≤ j ∧ bs[j - i]? = some B
  | [], i, j, B => by simp [hpFrom, gt]
  | b :: bs, i, j, B => by
    simp only [hpFrom, gt]
    split
    · rename_i e; subst e; simp
    · rename_i hne
      rw [gt_hpFrom (bs := bs)]
      constructor
      · rintro ⟨h1, h2⟩
        refine ⟨by omega, ?_⟩
        rw [show j - i = (j - (i + 1)) + 1 by omega]
        simpa using h2
      · rintro ⟨h1, h2⟩
        refine ⟨by omega, ?_⟩
        rw [show j - i = (j - (i + 1)) + 1 by omega] at h2
        simpa using h2
theorem gt_hp0 {bs : List Blk} {j : Nat} {B : Blk} : gt j (hpFrom 0 bs) = some B ↔ bs[j]? = some B := by simp [gt_hpFrom]

def St.bare (bs : List Blk) : St := ⟨0, [], hpFrom 0 bs⟩
def Act.none0 : Act := ⟨#[], []⟩

/-- The blocks ks of a heap, renamed by f. -/
def pickB (f : Nat → Option Nat) (hp : List (Nat × Blk)) : List Nat → Option (List Blk)
  | [] => some []
  | κ :: l => match gt κ hp, pickB f hp l with
    | some B, some r => some (renB f B :: r)
    | _, _ => none
theorem pickB_get {f : Nat → Option Nat} {hp : List (Nat × Blk)} : ∀ {ks : List Nat} {bs : List Blk}, pickB f hp ks = some bs → bs.length = ks.length ∧ ∀ (j κ : Nat), ks[j]? = some κ → ∃ B, gt κ hp = some B ∧ bs[j]? = some (renB f B)
  | [], bs, h => by simp only [pickB, Option.some.injEq] at h; subst h; simp
  | κ :: l, bs, h => by
    simp only [pickB] at h
    split at h
    · rename_i B r hB hr
      cases h
      obtain ⟨h1, h2⟩ := pickB_get hr
      refine ⟨by simp [h1], fun j κ' hj => ?_⟩
      cases j with
      | zero => simp at hj; subst hj; exact ⟨B, hB, rfl⟩
      | succ j => simpa using h2 j κ' (by simpa using hj)
    · cases h

def mapOf (m : Nat → Value) (ks : List Nat) : Nat → Value := fun j => m (ks.getD j 0)
theorem mapOf_get {m : Nat → Value} {ks : List Nat} {j κ : Nat} (h : ks[j]? = some κ) : mapOf m ks j = m κ := by simp [mapOf, List.getD, h]

/-- What is handed on of a view. -/
theorem SRep.hand {c c' : Ctx} {m : Nat → Value} {s : St} {a : Act} {w : World} (h : SRep c m s a w) (ks : List Nat) {bs : List Blk} (hn : ks.Nodup) (hb : pickB (posOf · ks) s.hp ks = some bs)
    (hX1 : ∀ b, c'.X b → Forb c m s.hp b) (hX2 : ∀ κ b, κ ∈ ks → blkOf (m κ) = some b → ¬ c'.X b)
    (hold : ∀ κ b, κ ∈ ks → blkOf (m κ) = some b → c'.S b ∨ c'.w0.heap.size ≤ b) (hfr : Fr c'.S c'.w0 w) (hxlt : ∀ b, c'.X b → b < c'.w0.heap.size)
    (hpin : ∀ j v, c'.pin j = some v → mapOf m ks j = v) (hpinp : ∀ j v, c'.pin j = some v → j < 16 ∧ ∃ b, v = .pointer b) :
    SRep c' (mapOf m ks) (St.bare bs) Act.none0 w ∧ (∀ v u, RepV w (Forb c m s.hp) m v u → RepV w (Forb c' (mapOf m ks) (hpFrom 0 bs)) (mapOf m ks) (renV (posOf · ks) v) u) := by
  obtain ⟨hl, hget⟩ := pickB_get hb
  have hf : ∀ κ j, posOf κ ks = some j → mapOf m ks j = m κ := fun κ j hj => mapOf_get (posOf_get hj)
  have hdom : ∀ j B, gt j (hpFrom 0 bs) = some B → ∃ κ B0, ks[j]? = some κ ∧ gt κ s.hp = some B0 ∧ B = renB (posOf · ks) B0 := by
    intro j B hj
    rw [gt_hp0] at hj
    have hlt : j < ks.length := by rw [← hl]; exact (List.getElem?_eq_some_iff.1 hj).1
    have hk : ks[j]? = some ks[j] := by simp [hlt]
    obtain ⟨B0, h1, h2⟩ := hget j _ hk
    rw [hj] at h2; cases h2
    exact ⟨_, B0, hk, h1, rfl⟩
  have hF : ∀ b, Forb c' (mapOf m ks) (hpFrom 0 bs) b → Forb c m s.hp b := by
    rintro b (hX | ⟨j, B, hj, hbb⟩)
    · exact hX1 b hX
    · obtain ⟨κ, B0, h1, h2, _⟩ := hdom j B hj
      rw [mapOf_get h1] at hbb
      exact .inr ⟨κ, B0, h2, hbb⟩
  have hk : Kept w (Forb c m s.hp) w (Forb c' (mapOf m ks) (hpFrom 0 bs)) := fun b _ hb => ⟨fun h' => hb (hF b h'), rfl⟩
  refine ⟨⟨rfl, rfl, by simp [St.bare, gt], ?_, ?_, ?_, ?_, hfr, hxlt, hpin, hpinp⟩, fun v u hv => RepV.ren hf v u (RepV.kept hk (Nat.le_refl _) v u hv)⟩
  · intro j B hj
    obtain ⟨κ, B0, h1, h2, rfl⟩ := hdom j B hj
    exact RepB.ren hf (mapOf_get h1) (RepB.kept hk (Nat.le_refl _) (fun _ _ _ => rfl) (h.heap κ B0 h2))
  · intro j j' B B' b hj hj' hne h1 h2
    obtain ⟨κ, B0, k1, k2, _⟩ := hdom j B hj
    obtain ⟨κ', B0', k3, k4, _⟩ := hdom j' B' hj'
    rw [mapOf_get k1] at h1
    rw [mapOf_get k3] at h2
    refine h.sep κ κ' B0 B0' b k2 k4 (fun e => hne ?_) h1 h2
    subst e
    have e1 := posOf_self hn k1
    have e2 := posOf_self hn k3
    rw [e1] at e2; simpa using e2
  · intro j B b hj h1
    obtain ⟨κ, B0, k1, k2, _⟩ := hdom j B hj
    rw [mapOf_get k1] at h1
    exact hX2 κ b (List.mem_of_getElem? k1) h1
  · intro j B b hj h1
    obtain ⟨κ, B0, k1, k2, _⟩ := hdom j B hj
    rw [mapOf_get k1] at h1
    exact hold κ b (List.mem_of_getElem? k1) h1

/-- The function number f, at the arguments vs and the blocks hs that they name: it returns, and what it returns and the blocks behind it are as Post says; new blocks stand behind the old ones; boxes stay where they are. -/
def ACall (P : Program) (f : FuncId) (vs : List AV) (hs : List Blk) (Post : AV → List Blk → Prop) : Prop :=
  ∀ (cx : Ctx) (m : Nat → Value) (us : List Value) (w : World), SRep cx m (St.bare hs) Act.none0 w → RepVs w (Forb cx m (hpFrom 0 hs)) m vs us → (∀ κ v, cx.pin κ = some v → κ < hs.length) →
    Calls P f us.toArray w fun e w' => ∃ u m' r hs', e = .returned u ∧ Post r hs' ∧ hs.length ≤ hs'.length ∧ SRep cx m' (St.bare hs') Act.none0 w' ∧ RepV w' (Forb cx m' (hpFrom 0 hs')) m' r u

theorem ACall.mono {P : Program} {f : FuncId} {vs : List AV} {hs : List Blk} {Post Post' : AV → List Blk → Prop} (h : ACall P f vs hs Post) (hp : ∀ r hs', Post r hs' → Post' r hs') : ACall P f vs hs Post' :=
  fun cx m us w h1 h2 h3 => (h cx m us w h1 h2 h3).mono fun e w' ⟨u, m', r, hs', h4, h5, h6⟩ => ⟨u, m', r, hs', h4, hp r hs' h5, h6⟩

/-! ### The body of a function -/
def tmFrom (i : Nat) : List AV → List (Nat × AV)
  | [] => []
  | v :: l => (i, v) :: tmFrom (i + 1) l
theorem gt_tmFrom : ∀ {vs : List AV} {i j : Nat} {v : AV}, gt j (tmFrom i vs) = some v → i ≤ j ∧ vs[j - i]? = some v
  | [], i, j, v, h => by simp [tmFrom, gt] at h
  | x :: vs, i, j, v, h => by
    simp only [tmFrom, gt] at h
    split at h
    · rename_i e; subst e; simp at h; subst h; simp
    · obtain ⟨h1, h2⟩ := gt_tmFrom h
      refine ⟨by omega, ?_⟩
      rw [show j - i = (j - (i + 1)) + 1 by omega]
      simpa using h2

/-- What a function returns. -/
def resOne (P : Program) (s : St) : ResultVar → Option AV
  | .tmp t => gt t s.tm
  | .cell t ty => obind (gt t s.tm) (loadV P s ty)
def resAll (P : Program) (s : St) : List ResultVar → Option (List AV)
  | [] => some []
  | x :: l => match resOne P s x, resAll P s l with
    | some v, some r => some (v :: r)
    | _, _ => none
def resA (P : Program) (s : St) (l : List ResultVar) : Option AV :=
  match resAll P s l with
  | some [v] => some v
  | some vs => some (.tup vs)
  | none => none

theorem resOne_run {P : Program} {c : Ctx} {m : Nat → Value} {s : St} {a : Act} {w : World} (h : SRep c m s a w) {x : ResultVar} {v : AV} (hx : resOne P s x = some v) :
    ∃ u, ((match x with | .tmp t => pure (a.tmps.getD t undef) | .cell t ty => do loadVar ty (← asAddr (a.tmps.getD t undef))) : Sem Value).run P w = .ok u w ∧ RepV w (Forb c m s.hp) m v u := by
  cases x with
  | tmp t => exact ⟨_, rfl, h.slot t v hx⟩
  | cell t ty =>
    simp only [resOne] at hx
    obtain ⟨va, h1, h2⟩ := Option.bind_eq_some_iff.1 hx
    obtain ⟨u, h3, h4⟩ := loadV_sound (o := ⟨none, .load ty (.tmp t), 0, "", #[], none⟩) (x := .tmp t) h rfl h1 h2
    refine ⟨u, ?_, h4⟩
    unfold Yld at h3
    simp only [execOp, Instr.loadAt, Act.eval, Sem.run_bind] at h3
    simp only [Sem.run_bind]
    cases hv : a.tmps.getD t undef with
    | pointer p =>
      cases p with
      | some ad =>
        rw [hv] at h3
        simp only [Instr.sureAddr, Sem.run_pure, Result.andThen_ok] at h3
        simp only [asAddr, Sem.run_pure, Result.andThen_ok]
        cases hl : (loadVar ty ad).run P w with
        | ok z w' => rw [hl] at h3; simp at h3; obtain ⟨rfl, rfl⟩ := h3; rfl
        | halt e w' => rw [hl] at h3; simp at h3
      | none => rw [hv] at h3; simp [Instr.sureAddr] at h3
    | _ => rw [hv] at h3; simp [Instr.sureAddr] at h3

theorem resAll_run {P : Program} {c : Ctx} {m : Nat → Value} {s : St} {a : Act} {w : World} (h : SRep c m s a w) : ∀ {l : List ResultVar} {vs : List AV}, resAll P s l = some vs →
    ∃ us : List Value, (l.mapM (m := Sem) fun | .tmp t => pure (a.tmps.getD t undef) | .cell t ty => do loadVar ty (← asAddr (a.tmps.getD t undef))).run P w = .ok us w ∧ RepVs w (Forb c m s.hp) m vs us
  | [], vs, hv => by simp only [resAll, Option.some.injEq] at hv; subst hv; exact ⟨[], by simp, by simp only [RepVs]⟩
  | x :: l, vs, hv => by
    simp only [resAll] at hv
    split at hv
    · rename_i v r h1 h2
      cases hv
      obtain ⟨u, h3, h4⟩ := resOne_run h h1
      obtain ⟨us, h5, h6⟩ := resAll_run h h2
      refine ⟨u :: us, ?_, by simp only [RepVs]; exact ⟨u, us, rfl, h4, h6⟩⟩
      simp only [List.mapM_cons, Sem.run_bind, Sem.run_pure]
      cases x with
      | tmp t =>
        simp only [Sem.run_pure] at h3 ⊢
        cases h3
        simp only [Result.andThen_ok, h5]
      | cell t ty =>
        simp only [Sem.run_bind] at h3 ⊢
        simp only [h3, Result.andThen_ok, h5]
    · cases hv

theorem resA_run {P : Program} {c : Ctx} {m : Nat → Value} {s : St} {a : Act} {w : World} (h : SRep c m s a w) {fn : Func} {r : AV} (hr : resA P s fn.results.toList = some r) : ∃ u, (results fn a.tmps).run P w = .ok u w ∧ RepV w (Forb c m s.hp) m r u := by
  unfold resA at hr
  have key : ∀ vs, resAll P s fn.results.toList = some vs → ∃ us : List Value, (results fn a.tmps).run P w = .ok (if h : us.toArray.size = 1 then us.toArray[0] else .tuple us.toArray) w ∧ RepVs w (Forb c m s.hp) m vs us := by
    intro vs hvs
    obtain ⟨us, h1, h2⟩ := resAll_run h hvs
    refine ⟨us, ?_, h2⟩
    unfold results
    rw [Array.mapM_eq_mapM_toList]
    simp only [Sem.run_bind, Sem.run_map, Sem.run_pure]
    exact congrArg (fun (r : Result (List Value)) => (r.andThen fun a w' => Result.ok a.toArray w').andThen fun a w' => Result.ok (if h : a.size = 1 then a[0] else Value.tuple a) w') h1
  split at hr
  · rename_i v hvs
    cases hr
    obtain ⟨us, h1, h2⟩ := key _ hvs
    have := (RepVs_iff.1 h2).1
    obtain ⟨u, rfl⟩ := List.length_eq_one_iff.1 this.symm
    refine ⟨u, by simpa using h1, ?_⟩
    simp only [RepVs] at h2
    obtain ⟨u', rest, h3, h4, _⟩ := h2
    simp at h3; rw [h3.1]; exact h4
  · rename_i vs hno hvs
    cases hr
    obtain ⟨us, h1, h2⟩ := key _ hvs
    have hl := (RepVs_iff.1 h2).1
    have hne : us.toArray.size ≠ 1 := by
      intro e
      have : vs.length = 1 := by rw [hl]; simpa using e
      obtain ⟨v, rfl⟩ := List.length_eq_one_iff.1 this
      exact hno v rfl
    rw [dif_neg hne] at h1
    exact ⟨_, h1, by simp only [RepV]; exact ⟨us, rfl, h2⟩⟩
  · cases hr

end Go.Proofs.Ytpdbekbobkjfgaa
