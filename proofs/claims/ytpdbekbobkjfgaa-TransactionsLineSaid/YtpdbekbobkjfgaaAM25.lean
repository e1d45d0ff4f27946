/-
  An abstract view of the machine, part 25: operations that make blocks or turn them, in drawn regions.
  Conditions: none; nothing here speaks of one program.
-/
import Derived.Test.YtpdbekbobkjfgaaAM24
namespace Go.Proofs.Ytpdbekbobkjfgaa
open Go.RowKit
set_option linter.unusedVariables false

theorem killV_id (κ : Nat) : ∀ v : AV, κ ∉ keysV v → killV κ v = v := by
  intro v
  induction v using AV.rec (motive_2 := fun vs => κ ∉ keysVs vs → killVs κ vs = vs) with
  | d x => intro _; rfl
  | ptr j off => intro h; simp only [keysV, List.mem_singleton] at h; simp only [killV, if_neg (Ne.symm h)]
  | own j => intro h; simp only [keysV, List.mem_singleton] at h; simp only [killV, if_neg (Ne.symm h)]
  | pel j off => intro h; simp only [keysV, List.mem_singleton] at h; simp only [killV, if_neg (Ne.symm h)]
  | eaddr x => intro _; rfl
  | agg cs ih => intro h; simp only [keysV] at h; simp only [killV, ih h]
  | tup vs ih => intro h; simp only [keysV] at h; simp only [killV, ih h]
  | clos f caps ih => intro h; simp only [keysV] at h; simp only [killV, ih h]
  | wrap k v ih => intro h; simp only [keysV] at h; simp only [killV, ih h]
  | bot => intro _; rfl
  | nil => rfl
  | cons v vs ih1 ih2 =>
    rename_i h
    simp only [keysVs, List.mem_append, not_or] at h
    simp only [killVs, ih1 h.1, ih2 h.2]
theorem keysV_kill (κ : Nat) : ∀ (v : AV) (j : Nat), j ∈ keysV (killV κ v) → j ≠ κ ∧ j ∈ keysV v := by
  intro v
  induction v using AV.rec (motive_2 := fun vs => ∀ j, j ∈ keysVs (killVs κ vs) → j ≠ κ ∧ j ∈ keysVs vs) with
  | d x => intro j h; simp [killV, keysV] at h
  | ptr i off =>
    intro j h
    simp only [killV] at h
    split at h
    · simp [keysV] at h
    · rename_i hne; simp only [keysV, List.mem_singleton] at h ⊢; subst h; exact ⟨hne, rfl⟩
  | own i =>
    intro j h
    simp only [killV] at h
    split at h
    · simp [keysV] at h
    · rename_i hne; simp only [keysV, List.mem_singleton] at h ⊢; subst h; exact ⟨hne, rfl⟩
  | pel i off =>
    intro j h
    simp only [killV] at h
    split at h
    · simp [keysV] at h
    · rename_i hne; simp only [keysV, List.mem_singleton] at h ⊢; subst h; exact ⟨hne, rfl⟩
  | eaddr x => intro j h; simp [killV, keysV] at h
  | agg cs ih => intro j h; simp only [killV, keysV] at h ⊢; exact ih j h
  | tup vs ih => intro j h; simp only [killV, keysV] at h ⊢; exact ih j h
  | clos f caps ih => intro j h; simp only [killV, keysV] at h ⊢; exact ih j h
  | wrap k v ih => intro j h; simp only [killV, keysV] at h ⊢; exact ih j h
  | bot => intro j h; simp [killV, keysV] at h
  | nil => rename_i h; simp [killVs, keysVs] at h
  | cons v vs ih1 ih2 =>
    rename_i j h
    simp only [killVs, keysVs, List.mem_append] at h ⊢
    rcases h with h | h
    · exact ⟨(ih1 j h).1, .inl (ih1 j h).2⟩
    · exact ⟨(ih2 j h).1, .inr (ih2 j h).2⟩
theorem killVs_map (κ : Nat) : ∀ vs : List AV, killVs κ vs = vs.map (killV κ)
  | [] => rfl
  | v :: vs => by simp only [killVs, List.map_cons, killVs_map κ vs]
theorem mem_keysVs {κ : Nat} : ∀ {vs : List AV} {v : AV}, v ∈ vs → κ ∈ keysV v → κ ∈ keysVs vs
  | u :: vs, v, h, hk => by
    simp only [keysVs, List.mem_append]
    rcases List.mem_cons.1 h with h | h
    · subst h; exact .inl hk
    · exact .inr (mem_keysVs h hk)
theorem killV_idem (κ : Nat) (v : AV) : killV κ (killV κ v) = killV κ v := killV_id κ _ fun h => (keysV_kill κ v κ h).1 rfl
theorem killB_id (κ : Nat) (B : Blk) (h : κ ∉ keysB B) : killB κ B = B := by
  cases B with
  | box e cs =>
    simp only [keysB] at h
    simp only [killB]
    rw [killVs_map]
    congr 1
    have : cs.map (killV κ) = cs.map id := List.map_congr_left fun v hv => killV_id κ v fun hk => h (mem_keysVs hv hk)
    rw [this, List.map_id]
  | _ => rfl
theorem killB_idem (κ : Nat) (B : Blk) : killB κ (killB κ B) = killB κ B := by
  cases B with
  | box e cs => simp only [killB, killVs_map, List.map_map]; congr 1; exact List.map_congr_left fun v _ => killV_idem κ v
  | _ => rfl
theorem nm_one {κ : Nat} {v : AV} (h : nm [κ] v = false) : κ ∉ keysV v := by
  intro hk
  have := List.any_eq_true.2 ⟨κ, hk, (by show List.contains [κ] κ = true; simp)⟩
  unfold nm at h; rw [h] at this; cases this
theorem nmB_one {κ : Nat} {B : Blk} (h : nmB [κ] B = false) : κ ∉ keysB B := by
  intro hk
  have := List.any_eq_true.2 ⟨κ, hk, (by show List.contains [κ] κ = true; simp)⟩
  unfold nmB at h; rw [h] at this; cases this
theorem gt_setB {s : St} {κ j : Nat} {B : Blk} : gt j (s.setB true κ B).hp = if j = κ then some B else (gt j s.hp).map (killB κ) := by
  simp only [St.setB, if_true, gt_ins, gt_mapv]

theorem setB_twice {s : St} {κ : Nat} {B B' : Blk} : Sub (s.setB true κ B') ((s.setB true κ B).setB true κ B') := by
  refine ⟨rfl, fun t v hv => .inr ?_, fun j B0 hB => ?_⟩
  · simp only [St.setB, if_true, gt_mapv] at hv ⊢
    rw [← hv, Option.map_map]
    congr 1
    funext x; exact killV_idem κ x
  · rw [gt_setB] at hB ⊢
    split
    · rename_i e; rw [if_pos e] at hB; exact hB
    · rename_i e
      rw [if_neg e] at hB
      rw [gt_setB, if_neg e, ← hB, Option.map_map]
      congr 1
      funext x; exact killB_idem κ x

/-- A step that makes a block or turns one: whether names are forgotten, the key, the block, the value. -/
def blkE (P : Program) (s : St) (o : Oper) : Option (Bool × Nat × Blk × AV) :=
  match o.op with
  | .alloc e => match o.dst, zeroT P e with
    | some d, some zs => some (true, kL d, .box e (zs.map fun z => .d (.v z)), .ptr (kL d) 0)
    | _, _ => none
  | .box e x => match o.dst, obind (s.ev x) AV.parts with
    | some d, some ps => some (true, kL d, .box e (killVs (kL d) ps), .ptr (kL d) 0)
    | _, _ => none
  | .buildSlice t n l => match o.dst, obind (s.evP l.toList) (litB P t n) with
    | some d, some B => some (true, kL d, B, .own (kL d))
    | _, _ => none
  | .makeSlice t l cp => match o.dst, s.ev l, s.ev cp with
    | some d, some (.d (.v (.int _ i))), some (.d (.v (.int _ j))) => omap (makeB P t i j) fun B => (true, kL d, B, .own (kL d))
    | _, _, _ => none
  | .store t ad x => match s.ev ad, s.ev x with
    | some va, some vx => omap (storeB P s t va vx) fun r => (false, r.1, r.2, .bot)
    | _, _ => none
  | .call { callee := .builtin .append, args := args, argTypes := tys } => match args.toList, tys.toList with
    | [x, y], [t, t'] => if t ≠ t' then omap (appZB P s o.dst t t' (s.ev x) (s.ev y)) (fun r => (true, r.1, r.2, .own r.1)) else
      match appT P t, s.ev x, s.ev y with
      | some (e, n, by'), some (.own κ), some vy => match gt κ s.hp with
        | some B => if B.isRow n = true ∧ B.elem = e then omap (growB s by' B vy) fun B' => (true, κ, B', .own κ) else none
        | none => none
      | some (e, n, by'), some vx, some vy => match o.dst, emptyB P t with
        | some d, some B => if isEmptyA vx = true then omap (growB (s.setB true (kL d) B) by' B (killV (kL d) vy)) fun B' => (true, kL d, B', .own (kL d))
          else omap (growD s e n by' vx vy) fun B' => (true, kL d, B', .own (kL d))
        | _, _ => none
      | _, _, _ => none
    | _, _ => none
  | _ => none

theorem blkE_step {P : Program} {s : St} {o : Oper} {k : Bool} {κ : Nat} {B : Blk} {v : AV} (h : blkE P s o = some (k, κ, B, v)) (hok : s.okDst o.dst = true) : ∃ s', stepF P s o = some s' ∧ Sub ((s.setB k κ B).put o.dst v) s' := by
  obtain ⟨d, op, ty, pos, af, g⟩ := o
  unfold blkE at h
  unfold stepF
  simp only at h hok ⊢
  rw [hok, if_pos rfl]
  split at h
  · rename_i e
    simp only [stepB]
    split at h
    · rename_i d' zs h2
      cases h
      rw [h2]
      exact ⟨_, rfl, Sub.refl _⟩
    · cases h
  · rename_i e x
    simp only [stepB]
    split at h
    · rename_i d' ps h2
      cases h
      rw [h2]
      exact ⟨_, rfl, Sub.refl _⟩
    · cases h
  · rename_i t n l
    simp only [stepB]
    split at h
    · rename_i d' B' h2
      cases h
      rw [h2]
      exact ⟨_, rfl, Sub.refl _⟩
    · cases h
  · rename_i t l cp
    simp only [stepB]
    split at h
    · rename_i d' kl i kc j h2 h3
      obtain ⟨B', hB', he⟩ := Option.map_eq_some_iff.1 h
      cases he
      rw [h2, h3]
      refine ⟨_, by simp only [omap, hB', Option.map_some], Sub.refl _⟩
    · cases h
  · rename_i t ad x
    simp only [stepB]
    split at h
    · rename_i va vx h1 h2
      obtain ⟨⟨κ', B'⟩, hB', he⟩ := Option.map_eq_some_iff.1 h
      cases he
      rw [h1, h2]
      refine ⟨_, by simp only [omap, hB', Option.map_some], Sub.refl _⟩
    · cases h
  · rename_i args tys
    simp only [isBlt, if_true, stepB]
    split at h
    · rename_i x y t t' hx ht
      rw [hx, ht]
      simp only
      split at h
      · rename_i htt
        obtain ⟨⟨κ', B'⟩, hB', he⟩ := Option.map_eq_some_iff.1 h
        cases he
        rw [if_pos htt]
        exact ⟨_, by simp only [appZ, omap, hB', Option.map_some], Sub.refl _⟩
      · rename_i htt
        rw [if_neg htt]
        split at h
        · rename_i e n by' κ' vy h1 h2 h3
          rw [h1, h2, h3]
          simp only
          split at h
          · rename_i B0 hB0
            rw [hB0]
            simp only
            split at h
            · rename_i hc
              rw [if_pos hc]
              obtain ⟨B', hB', he⟩ := Option.map_eq_some_iff.1 h
              cases he
              exact ⟨_, by simp only [omap, hB', Option.map_some], Sub.refl _⟩
            · cases h
          · cases h
        · rename_i e n by' vx vy hno h1 h2 h3
          rw [h1, h2, h3]
          split at h
          · rename_i d' B0 h5
            have tail : ∀ s', (if isEmptyA vx = true then omap (growB (s.setB true (kL d') B0) by' B0 (killV (kL d') vy)) fun B' => ((s.setB true (kL d') B0).setB true (kL d') B').put (some d') (.own (kL d')) else omap (growD s e n by' vx vy) fun B' => (s.setB true (kL d') B').put (some d') (.own (kL d'))) = some s' → (match some (e, n, by'), some vx, some vy with
                | some (e, n, by'), some (AV.own κ), some vy => match gt κ s.hp with
                  | some B => if B.isRow n = true ∧ B.elem = e then omap (growB s by' B vy) fun B' => (s.setB true κ B').put (some d') (.own κ) else none
                  | none => none
                | some (e, n, by'), some vx, some vy => match some d', emptyB P t with
                  | some d, some B => if isEmptyA vx = true then
                      let s1 := s.setB true (kL d) B
                      omap (growB s1 by' B (killV (kL d) vy)) fun B' => (s1.setB true (kL d) B').put (some d') (.own (kL d))
                    else omap (growD s e n by' vx vy) fun B' => (s.setB true (kL d) B').put (some d') (.own (kL d))
                  | _, _ => none
                | _, _, _ => none) = some s' := by
              intro s' hs
              rw [h5]
              cases vx with
              | own κ => exact (hno κ rfl).elim
              | _ => exact hs
            split at h
            · rename_i hemp
              obtain ⟨B', hB', he⟩ := Option.map_eq_some_iff.1 h
              cases he
              refine ⟨_, tail _ (by rw [if_pos hemp, omap, hB']; rfl), Sub.put setB_twice _ _⟩
            · rename_i hemp
              obtain ⟨B', hB', he⟩ := Option.map_eq_some_iff.1 h
              cases he
              refine ⟨_, tail _ (by rw [if_neg hemp, omap, hB']; rfl), Sub.refl _⟩
          · cases h
        · cases h
    · cases h
  · cases h

/-! ### What it looks at -/
theorem intsA_k {s s2 : St} {k : IntKind} {v : AV} (h : SameK s s2 (keysV v)) : s2.intsA k v = s.intsA k v := by
  unfold St.intsA
  split
  · rfl
  · rfl
  · rename_i κ; rw [h κ (by simp [keysV])]
  · rfl
theorem rowA_k {s s2 : St} {k : Nat} {v : AV} (h : SameK s s2 (keysV v)) : s2.rowA k v = s.rowA k v := by
  unfold St.rowA
  split
  · rfl
  · rfl
  · rename_i κ; rw [h κ (by simp [keysV])]
  · rfl
theorem growB_k {s s2 : St} {b : Nat} {B : Blk} {v : AV} (h : SameK s s2 (keysV v)) : growB s2 b B v = growB s b B v := by
  unfold growB
  split
  · rw [intsA_k h]
  · rw [rowA_k h]
  · rfl
theorem growD_k {s s2 : St} {e n b : Nat} {x v : AV} (h : SameK s s2 (keysV v)) : growD s2 e n b x v = growD s e n b x v := by
  unfold growD
  split
  · rw [intsA_k h]
  · rw [rowA_k h]
  · rfl
theorem storeB_k {P : Program} {s s2 : St} {t : TypeId} {ad v : AV} (h : SameK s s2 (keysV ad)) : storeB P s2 t ad v = storeB P s t ad v := by
  unfold storeB
  split
  · rename_i κ off; rw [h κ (by simp [keysV])]
  · rename_i κ off; rw [h κ (by simp [keysV])]
  · rfl
theorem setB_k {s s2 : St} {κ : Nat} {B : Blk} {v : AV} (h : SameK s s2 (keysV v)) : SameK (s.setB true κ B) (s2.setB true κ B) (keysV (killV κ v)) := by
  intro j hj
  obtain ⟨h1, h2⟩ := keysV_kill κ v j hj
  rw [gt_setB, gt_setB, if_neg h1, if_neg h1, h j h2]

theorem blkE_k {P : Program} {s s2 : St} {o : Oper} (h : ∀ x ∈ o.op.operands, s2.ev x = s.ev x) (hk : SameK s s2 (opsK s o.op.operands.toList)) : blkE P s2 o = blkE P s o := by
  have key : ∀ {x : Operand} {v : AV}, x ∈ o.op.operands → s.ev x = some v → SameK s s2 (keysV v) := fun hx hv κ hκ => hk κ (opsK_mem (by simpa using hx) hv hκ)
  obtain ⟨d, op, ty, pos, af, g⟩ := o
  unfold blkE
  simp only at h hk key ⊢
  split
  · rfl
  · rename_i e x; rw [h x (by simp [Op.operands])]
  · rename_i t n l
    rw [evP_congr (fun p hp => h p.2 (by
      simp only [Op.operands, List.mem_toArray, List.mem_map]
      exact ⟨p, hp, rfl⟩))]
  · rename_i t l cp; rw [h l (by simp [Op.operands]), h cp (by simp [Op.operands])]
  · rename_i t ad x
    rw [h ad (by simp [Op.operands]), h x (by simp [Op.operands])]
    split
    · rename_i va vx h1 h2; rw [storeB_k (key (by simp [Op.operands]) h1)]
    · rfl
  · rename_i args tys
    split
    · rename_i x y t t' hx ht
      have hmem : ∀ x ∈ args.toList, x ∈ (Op.call ⟨.builtin .append, args, tys⟩).operands := fun x hx => by simp [Op.operands, Call.operands]; simpa using hx
      have hax := hmem x (by rw [hx]; simp)
      have hay := hmem y (by rw [hx]; simp)
      rw [h x hax, h y hay]
      split
      · have : appZB P s2 d t t' (s.ev x) (s.ev y) = appZB P s d t t' (s.ev x) (s.ev y) := by
          unfold appZB
          split
          · rename_i e n by' kn κ kq i hT htn h2 h3
            rw [key hax h2 κ (by simp [keysV])]
          · rfl
        rw [this]
      · split
        · rename_i e n by' κ vy h1 h2 h3
          rw [key hax h2 κ (by simp [keysV])]
          split
          · rw [growB_k (key hay h3)]
          · rfl
        · rename_i e n by' vx vy hno h1 h2 h3
          split
          · rw [growB_k (setB_k (key hay h3)), growD_k (key hay h3)]
          · rfl
        · rfl
    · rfl
  · rfl

/-- The slots that name a key. -/
def namesW (s : St) (κ : Nat) : List (Nat × AV) := (s.tm.filter fun p => nm [κ] p.2).map fun p => (p.1, .bot)
def blkLoc (ops : Array Oper) (s : St) (o : Oper) (r : Bool × Nat × Blk × AV) : Loc :=
  ⟨o, ⟨dstW o.dst r.2.2.2 ++ (if r.1 then namesW s r.2.1 else []), [(r.2.1, r.2.2.1)]⟩, o.looksAt ops, opsK s o.op.operands.toList, if r.1 then [r.2.1] else []⟩
theorem gt_append {α : Type} {t : Nat} : ∀ {a b : List (Nat × α)}, gt t (a ++ b) = match gt t a with | some v => some v | none => gt t b
  | [], b => rfl
  | (k, v) :: a, b => by
    simp only [List.cons_append, gt]
    split
    · rfl
    · exact gt_append
theorem gt_namesW {s : St} {κ t : Nat} {v : AV} (h : gt t (namesW s κ) = some v) : v = .bot := by
  obtain ⟨p, _, hp⟩ := List.mem_map.1 (gt_memL h)
  cases hp; rfl
theorem lop_blk0 {P : Program} {ops : Array Oper} {s : St} {o : Oper} {r : Bool × Nat × Blk × AV} {one : Oper} (hone : one.dst = o.dst) (hop : one.op = o.op) (hr0 : one.looksAt ops = o.looksAt ops) (h : blkE P s o = some r) (hok : s.okDst o.dst = true)
    (run : ∀ (s2 s3 : St) (R : St → Prop), (∀ t ∈ o.looksAt ops, gt t s2.tm = gt t s.tm) → stepF P s2 o = some s3 → R s3 → AWpL P ops [one] R s2) : LOp P ops s { blkLoc ops s o r with o := one } := by
  obtain ⟨k, κ, B, v⟩ := r
  intro s2 hn hr hk hn1 hn2
  have hev : ∀ x ∈ o.op.operands, s2.ev x = s.ev x := fun x hx => ev_congr fun t ht => hr t (mem_looks (by subst ht; exact hx))
  have hok2 : s2.okDst o.dst = true := by rw [← hok]; cases hd : o.dst <;> simp [St.okDst, hn]
  have h2 : blkE P s2 o = some (k, κ, B, v) := by rw [blkE_k hev hk]; exact h
  obtain ⟨s3, h3, h4⟩ := blkE_step h2 hok2
  refine run s2 s3 _ hr h3 (Sub.trans ?_ h4)
  simp only [blkLoc] at hn1 hn2 ⊢
  refine ⟨by cases o.dst <;> cases k <;> rfl, fun t u hu => ?_, fun j B0 hB => ?_⟩
  · simp only [applyE, gt_insL, gt_append] at hu
    by_cases ht : o.dst = some t
    · rw [ht] at hu ⊢
      simp only [dstW, gt, if_true] at hu
      cases hu
      exact .inr (by simp [St.put, gt_ins_same])
    · have e1 : gt t (dstW o.dst v) = none := by
        cases hd : o.dst with
        | none => rfl
        | some d => simp only [dstW, gt]; rw [if_neg (fun e => ht (by rw [hd, e]))]
      have e2 : gt t ((s2.setB k κ B).put o.dst v).tm = gt t (s2.setB k κ B).tm := by
        cases hd : o.dst with
        | none => rfl
        | some d => simp only [St.put]; exact gt_ins_ne _ (fun e => ht (by rw [hd, e])) _
      rw [e1] at hu
      simp only at hu
      rw [e2]
      cases k with
      | false =>
        simp only [Bool.false_eq_true, if_false, gt] at hu
        exact .inr hu
      | true =>
        simp only [if_true] at hu hn1
        cases hg : gt t (namesW s κ) with
        | some w =>
          rw [hg] at hu
          simp only [Option.some.injEq] at hu
          subst hu
          exact .inl (gt_namesW hg)
        | none =>
          rw [hg] at hu
          have := hn1 t u hu
          rw [gt_append, e1] at this
          simp only [hg, Option.isSome_none, Bool.false_eq_true, false_or] at this
          refine .inr ?_
          simp only [St.setB, if_true, gt_mapv]
          have hu' : gt t s2.tm = some u := hu
          rw [hu', Option.map_some, killV_id κ u (nm_one this)]
  · simp only [applyE, insL, gt_ins] at hB
    have e2 : ((s2.setB k κ B).put o.dst v).hp = (s2.setB k κ B).hp := by cases o.dst <;> rfl
    rw [e2]
    split at hB
    · rename_i e
      cases hB
      subst e
      cases k <;> simp [St.setB, gt_ins_same]
    · rename_i e
      cases k with
      | false => simp only [St.setB, Bool.false_eq_true, if_false, gt_ins_ne _ e]; exact hB
      | true =>
        rw [gt_setB, if_neg e, hB, Option.map_some]
        have := hn2 j B0 hB
        simp only [gt, if_neg e, Option.isSome_none, Bool.false_eq_true, false_or, if_true] at this
        rw [killB_id κ B0 (nmB_one this)]
theorem lop_blk {P : Program} {ops : Array Oper} {s : St} {o : Oper} {r : Bool × Nat × Blk × AV} (hg : o.guard = none) (h : blkE P s o = some r) (hok : s.okDst o.dst = true) : LOp P ops s (blkLoc ops s o r) :=
  lop_blk0 rfl rfl rfl h hok fun s2 s3 R _ h3 hR => awpl_step (by unfold stepG; rw [hg]; exact h3) (awpl_nil hR)
end Go.Proofs.Ytpdbekbobkjfgaa
