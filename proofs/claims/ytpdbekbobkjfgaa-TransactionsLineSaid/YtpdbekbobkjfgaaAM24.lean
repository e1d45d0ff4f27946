/-
  An abstract view of the machine, part 24: what operations look at; drawn regions reckoned out.
  Conditions: none; nothing here speaks of one program.
-/
import Derived.Test.YtpdbekbobkjfgaaAM23
namespace Go.Proofs.Ytpdbekbobkjfgaa
open Go.RowKit
set_option linter.unusedVariables false

/-- The keys that operands name. -/
def opsK (s : St) (l : List Operand) : List Nat := l.flatMap fun x => match s.ev x with | some v => keysV v | none => []
def SameK (s s2 : St) (K : List Nat) : Prop := ∀ κ ∈ K, gt κ s2.hp = gt κ s.hp
theorem opsK_mem {s : St} {l : List Operand} {x : Operand} {v : AV} (hx : x ∈ l) (hv : s.ev x = some v) {κ : Nat} (hκ : κ ∈ keysV v) : κ ∈ opsK s l :=
  List.mem_flatMap.2 ⟨x, hx, by rw [hv]; exact hκ⟩

theorem loadV_k {P : Program} {s s2 : St} {t : TypeId} {v : AV} (h : SameK s s2 (keysV v)) : loadV P s2 t v = loadV P s t v := by
  cases v with
  | ptr κ off => simp only [loadV]; rw [h κ (by simp [keysV])]
  | pel κ off => simp only [loadV]; rw [h κ (by simp [keysV])]
  | _ => rfl
theorem indexAddrV_k {P : Program} {s s2 : St} {t : TypeId} {v : AV} {i : Int} (h : SameK s s2 (keysV v)) : indexAddrV P s2 t v i = indexAddrV P s t v i := by
  cases v with
  | own κ => simp only [indexAddrV]; rw [h κ (by simp [keysV])]
  | d x => cases x <;> rfl
  | eaddr x => cases x <;> rfl
  | _ => rfl
theorem lenV_k {P : Program} {s s2 : St} {t : TypeId} {v : AV} (h : SameK s s2 (keysV v)) : lenV P s2 t v = lenV P s t v := by
  unfold lenV
  split
  · rfl
  · rfl
  · rfl
  · rfl
  · rename_i κ; rw [h κ (by simp [keysV])]
  · rfl
theorem capV_k {P : Program} {s s2 : St} {t : TypeId} {v : AV} (h : SameK s s2 (keysV v)) : capV P s2 t v = capV P s t v := by
  unfold capV
  split
  · rfl
  · rfl
  · rfl
  · rename_i κ; rw [h κ (by simp [keysV])]
  · rfl
theorem asD_k {s s2 : St} {v : AV} (h : SameK s s2 (keysV v)) : s2.asD v = s.asD v := by
  cases v with
  | own κ => simp only [St.asD]; rw [h κ (by simp [keysV])]
  | _ => rfl

theorem obind_congr {α β : Type} {x : Option α} {f g : α → Option β} (h : ∀ a, x = some a → f a = g a) : obind x f = obind x g := by
  cases x with
  | none => rfl
  | some a => exact h a rfl

theorem valOp_k {P : Program} {s s2 : St} {op : Op} (h : ∀ x ∈ op.operands, s2.ev x = s.ev x) (hk : SameK s s2 (opsK s op.operands.toList)) : valOp P s2 op = valOp P s op := by
  have key : ∀ {x : Operand} {v : AV}, x ∈ op.operands → s.ev x = some v → SameK s s2 (keysV v) := fun hx hv κ hκ => hk κ (opsK_mem (by simpa using hx) hv hκ)
  cases op <;> simp only [valOp]
  case move x => exact h x (by simp [Op.operands])
  case assign x => exact h x (by simp [Op.operands])
  case pick c x y => rw [h c (by simp [Op.operands]), h x (by simp [Op.operands]), h y (by simp [Op.operands])]
  case binOp op t x y t' =>
    rw [h x (by simp [Op.operands]), h y (by simp [Op.operands])]
    split
    · rename_i vx vy hx hy
      rw [asD_k (key (by simp [Op.operands]) hx), asD_k (key (by simp [Op.operands]) hy)]
    · rfl
  case unOp op t x => rw [h x (by simp [Op.operands])]
  case convert a b x =>
    rw [h x (by simp [Op.operands])]
    split
    · rename_i κ hx
      rw [key (by simp [Op.operands]) hx κ (by simp [keysV])]
    · rfl
    · rfl
  case load t x =>
    rw [h x (by simp [Op.operands])]
    exact obind_congr fun v hv => loadV_k (key (by simp [Op.operands]) hv)
  case fieldAddr t x i => rw [h x (by simp [Op.operands])]
  case field t x i => rw [h x (by simp [Op.operands])]
  case indexAddr t x y =>
    rw [h x (by simp [Op.operands]), h y (by simp [Op.operands])]
    split
    · rename_i vx k i hx hy
      exact indexAddrV_k (key (by simp [Op.operands]) hx)
    · rfl
  case index t x y => rw [h x (by simp [Op.operands]), h y (by simp [Op.operands])]
  case slice t x l hh m =>
    rw [h x (by simp [Op.operands]), evI_congr (fun y hy => h y (by subst hy; simp [Op.operands])), evI_congr (fun y hy => h y (by subst hy; simp [Op.operands])), evI_congr (fun y hy => h y (by subst hy; simp [Op.operands]))]
  case extract x i => rw [h x (by simp [Op.operands])]
  case build t l =>
    rw [evP_congr (fun p hp => h p.2 (by
      simp only [Op.operands, List.mem_toArray, List.mem_map]
      exact ⟨p, hp, rfl⟩))]
  case nilCheck x => rw [h x (by simp [Op.operands])]
  case makeFunc f first caps =>
    cases f <;> simp only []
    · rw [evL_congr (fun x hx => h x (by simp [Op.operands]; exact .inr (by simpa using hx)))]
    · split
      · rename_i x hf hc
        rw [h x (by simp only [Op.operands, Array.mem_append]; exact .inl (by rw [← Array.mem_toList_iff, hf]; simp))]
      · rfl
  case makeInterface t x => rw [h x (by simp [Op.operands])]
  case call c =>
    obtain ⟨cal, args, tys⟩ := c
    have ha : ∀ x ∈ args.toList, s2.ev x = s.ev x := fun x hx => h x (by simp [Op.operands, Call.operands]; exact .inr (by simpa using hx))
    cases cal <;> simp only []
    rename_i b
    have hmem : ∀ x ∈ args.toList, x ∈ (Op.call ⟨.builtin b, args, tys⟩).operands := fun x hx => by simp [Op.operands, Call.operands]; simpa using hx
    cases b <;> simp only []
    · split
      · rename_i x t hx ht
        rw [ha x (by rw [hx]; simp)]
        congr 1
        exact obind_congr fun v hv => capV_k (key (hmem x (by rw [hx]; simp)) hv)
      · rfl
    · split
      · rename_i x t hx ht
        rw [ha x (by rw [hx]; simp)]
        congr 1
        exact obind_congr fun v hv => lenV_k (key (hmem x (by rw [hx]; simp)) hv)
      · rfl
    · split
      · rename_i x y hx
        rw [evL_congr (fun z hz => ha z (by rw [hx]; exact hz))]
      · rfl

theorem argA_k {P : Program} {s s2 : St} {V : List Nat} {t : TypeId} {v : AV} (h : SameK s s2 (keysV v)) : argA P s2 [] V t v = argA P s [] V t v := by
  unfold argA
  split
  · rename_i κ; rw [h κ (by simp [keysV])]
  · rfl
  · rfl
  · rfl
theorem argsA_k {P : Program} {s s2 : St} {V : List Nat} : ∀ {ts : List TypeId} {vs : List AV}, SameK s s2 (keysVs vs) → argsA P s2 [] V ts vs = argsA P s [] V ts vs
  | [], vs, h => by simp only [argsA]
  | t :: ts, [], h => by simp only [argsA]
  | t :: ts, v :: vs, h => by
    simp only [argsA]
    rw [argA_k (fun κ hκ => h κ (by simp [keysVs, hκ])), argsA_k (fun κ hκ => h κ (by simp [keysVs, hκ]))]
theorem keysVs_filter {f : AV → Bool} : ∀ {vs : List AV} {κ : Nat}, κ ∈ keysVs (vs.filter f) → κ ∈ keysVs vs
  | [], κ, h => h
  | v :: vs, κ, h => by
    rw [List.filter_cons] at h
    simp only [keysVs, List.mem_append]
    split at h
    · simp only [keysVs, List.mem_append] at h
      exact h.imp id keysVs_filter
    · exact .inr (keysVs_filter h)
theorem evL_keys {s : St} : ∀ {l : List Operand} {vs : List AV} {κ : Nat}, s.evL l = some vs → κ ∈ keysVs vs → κ ∈ opsK s l
  | [], vs, κ, h, hk => by simp only [St.evL, Option.some.injEq] at h; subst h; simp [keysVs] at hk
  | x :: l, vs, κ, h, hk => by
    simp only [St.evL] at h
    split at h
    · rename_i v r hv hr
      cases h
      simp only [keysVs, List.mem_append] at hk
      rcases hk with hk | hk
      · exact opsK_mem (by simp) hv hk
      · have := evL_keys hr hk
        obtain ⟨y, hy, hyk⟩ := List.mem_flatMap.1 this
        exact List.mem_flatMap.2 ⟨y, by simp [hy], hyk⟩
    · cases h

/-- Whether a call is handed no block. -/
def noKeys (P : Program) (s : St) (o : Oper) : Bool :=
  match o.op with
  | .call c => match goC P s c with
    | some (_, vs) => (keysVs (vs.filter notOwn)).isEmpty
    | none => true
  | _ => true
theorem goC_keys {P : Program} {s : St} {c : Call} {f : FuncId} {vs : List AV} {κ : Nat} (h : goC P s c = some (f, vs)) (hk : κ ∈ keysVs vs) : κ ∈ opsK s c.operands.toList := by
  obtain ⟨cal, args, tys⟩ := c
  have app : ∀ a b : List AV, ∀ κ, κ ∈ keysVs (a ++ b) → κ ∈ keysVs a ∨ κ ∈ keysVs b := by
    intro a b
    induction a with
    | nil => intro κ h; exact .inr h
    | cons x a ih =>
      intro κ h
      simp only [List.cons_append, keysVs, List.mem_append] at h ⊢
      rcases h with h | h
      · exact .inl (.inl h)
      · rcases ih κ h with h | h
        · exact .inl (.inr h)
        · exact .inr h
  have hargs : ∀ ws, s.evL args.toList = some ws → κ ∈ keysVs ws → κ ∈ opsK s (Call.operands ⟨cal, args, tys⟩).toList := by
    intro ws hws hκ
    obtain ⟨y, hy, hyk⟩ := List.mem_flatMap.1 (evL_keys hws hκ)
    exact List.mem_flatMap.2 ⟨y, by simp [Call.operands]; exact .inr (by simpa using hy), hyk⟩
  unfold goC at h
  cases cal with
  | value g =>
    simp only at h
    unfold goV at h
    split at h
    · rename_i f' caps ws h1 h2
      simp only [Option.some.injEq, Prod.mk.injEq] at h
      obtain ⟨rfl, rfl⟩ := h
      rcases app _ _ _ hk with hk | hk
      · exact hargs _ h2 hk
      · exact opsK_mem (x := g) (by simp [Call.operands]) h1 (by simpa only [keysV] using hk)
    · rename_i u ws h1 h2
      obtain ⟨f', _, he⟩ := Option.map_eq_some_iff.1 h
      simp only [Prod.mk.injEq] at he
      obtain ⟨rfl, rfl⟩ := he
      exact hargs _ h2 hk
    · cases h
  | invoke r n =>
    simp only at h
    unfold goI at h
    split at h
    · rename_i t v ws h1 h2
      obtain ⟨f', _, he⟩ := Option.map_eq_some_iff.1 h
      simp only [Prod.mk.injEq] at he
      obtain ⟨rfl, rfl⟩ := he
      simp only [keysVs, List.mem_append] at hk
      rcases hk with hk | hk
      · exact opsK_mem (x := r) (by simp [Call.operands]) h1 (by simpa only [keysV] using hk)
      · exact hargs _ h2 hk
    · cases h
  | builtin b => cases h
theorem callD7_nil {s s2 : St} {V : List Nat} {q q2 : Nat} {r : Option (AV × List Blk)} : callD7 s2 [] V q2 r = callD7 s [] V q r := by
  have hb0 : backF [] q2 0 = backF [] q 0 := by funext j; simp [backF]
  cases r with
  | none => rfl
  | some p =>
    obtain ⟨R, BS⟩ := p
    cases BS with
    | nil =>
      have e : ∀ (s : St) (f : Nat → Option Nat), callD7 s [] V q2 (some (R, [])) = if (V.isEmpty || (flatV R && ([] : List Blk).all flatB)) then some (renV (backF [] q2 0) R) else none := fun _ _ => rfl
      have e' : ∀ (s : St) (f : Nat → Option Nat), callD7 s [] V q (some (R, [])) = if (V.isEmpty || (flatV R && ([] : List Blk).all flatB)) then some (renV (backF [] q 0) R) else none := fun _ _ => rfl
      rw [e s2 (backF [] q 0), e' s (backF [] q 0), hb0]
    | cons B l => simp only [callD7, sameK, Bool.false_and, Bool.false_eq_true, if_false]
theorem callD_k {P : Program} {run : RunF} {s s2 : St} {o : Oper} (hn : s2.n = s.n) (h : ∀ x ∈ o.op.operands, s2.ev x = s.ev x) (hk : SameK s s2 (opsK s o.op.operands.toList)) (h0 : noKeys P s o = true) : callD P run s2 o = callD P run s o := by
  have hok : s2.okDst o.dst = s.okDst o.dst := by cases hd : o.dst <;> simp [St.okDst, hn]
  unfold callD
  split
  · cases hc : opCall o.op with
    | none => rfl
    | some c =>
      have ho : o.op = .call c := by
        unfold opCall at hc
        split at hc
        · rename_i c' hc'; cases hc; exact hc'
        · cases hc
      have hgc : goC P s2 c = goC P s c := goC_congr fun x hx => h x (by rw [ho]; exact hx)
      unfold noKeys at h0
      rw [ho] at h0
      simp only at h0
      simp only [callD0, hgc]
      cases hgo : goC P s c with
      | none => rfl
      | some r =>
        obtain ⟨f, vs⟩ := r
        rw [hgo] at h0
        simp only at h0 ⊢
        have hke : keysVs (vs.filter notOwn) = [] := List.isEmpty_iff.1 h0
        have hkk : SameK s s2 (keysVs vs) := fun κ hκ => hk κ (by rw [ho]; exact goC_keys hgo hκ)
        have hr0 : ∀ hp : List (Nat × Blk), reachK hp 64 [] [] = [] := fun _ => rfl
        have hrm : ∀ V, rmK [] V = V := by intro V; unfold rmK; rw [List.filter_eq_self]; intro a _; simp
        have e1 : (keysVs (vs.filter isOwn)).all (fun κ => (gt κ s2.hp).isSome) = (keysVs (vs.filter isOwn)).all (fun κ => (gt κ s.hp).isSome) := by
          rw [Bool.eq_iff_iff, List.all_eq_true, List.all_eq_true]
          constructor
          · intro h' κ hκ; rw [← hkk κ (keysVs_filter hκ)]; exact h' κ hκ
          · intro h' κ hκ; rw [hkk κ (keysVs_filter hκ)]; exact h' κ hκ
        simp only [callD1]
        cases P.funcs[f]? with
        | none => rfl
        | some fn =>
          simp only [callD2, callD3, callD4, hok, hke, hr0, hrm, pickB, callD5, argsA_k hkk, e1, List.all_nil, Bool.and_true]
          cases run f (argsA P s [] (keysVs (vs.filter isOwn)) fn.params.toList vs) [] with
          | none => rfl
          | some p =>
            obtain ⟨R, BS⟩ := p
            simp only [callD6]
            rw [callD7_nil (s := s) (q := maxK s.hp 16)]
  · rfl

theorem stepV_k {P : Program} {ops : Array Oper} {s s2 : St} {o : Oper} (hn : s2.n = s.n) (hr : ∀ t ∈ o.looksAt ops, gt t s2.tm = gt t s.tm) (hk : SameK s s2 (opsK s o.op.operands.toList)) : stepV P ops s2 o = stepV P ops s o := by
  have hev : ∀ x ∈ o.op.operands, s2.ev x = s.ev x := fun x hx => ev_congr fun t ht => hr t (mem_looks (by subst ht; exact hx))
  have hok : s2.okDst o.dst = s.okDst o.dst := by cases hd : o.dst <;> simp [St.okDst, hn]
  have hg : ∀ j want, o.guard = some (j, want) → gtO (obind ops[j]? Oper.dst) s2.tm = gtO (obind ops[j]? Oper.dst) s.tm := by
    intro j want hg
    cases hd : obind ops[j]? Oper.dst with
    | none => rfl
    | some t => exact hr t (List.mem_append_right _ (by have hd' : (ops[j]?).bind (·.dst) = some t := hd
                                                        simp [hg, hd']))
  unfold stepV
  rw [hok, valOp_k hev hk]
  split
  · rfl
  · split
    · rfl
    · rename_i j want hgd; rw [hg j want hgd]
/-- The value of an operation that is handed no block. -/
noncomputable def callK0 (P : Program) (run : RunF) (s : St) (o : Oper) : Option AV := if noKeys P s o then callD P run s o else none
noncomputable def valK (P : Program) (run : RunF) (ops : Array Oper) (s : St) (o : Oper) : Option AV :=
  match stepV P ops s o with
  | some v => some v
  | none => match o.guard with
    | none => callK0 P run s o
    | some (j, want) => match gtO (obind ops[j]? Oper.dst) s.tm with
      | some (.d (.v (.bool b))) => if b = want then callK0 P run s { o with guard := none } else none
      | _ => none
theorem callK0_D {P : Program} {run : RunF} {s : St} {o : Oper} {v : AV} (h : callK0 P run s o = some v) : noKeys P s o = true ∧ callD P run s o = some v := by
  unfold callK0 at h
  split at h
  · rename_i h0; exact ⟨h0, h⟩
  · cases h
theorem valK_k {P : Program} {run : RunF} {ops : Array Oper} {s s2 : St} {o : Oper} {v : AV} (hn : s2.n = s.n) (hr : ∀ t ∈ o.looksAt ops, gt t s2.tm = gt t s.tm) (hk : SameK s s2 (opsK s o.op.operands.toList)) (h : valK P run ops s o = some v) : valX P run ops s2 o = some v := by
  have hev : ∀ x ∈ o.op.operands, s2.ev x = s.ev x := fun x hx => ev_congr fun t ht => hr t (mem_looks (by subst ht; exact hx))
  have hg : ∀ j want, o.guard = some (j, want) → gtO (obind ops[j]? Oper.dst) s2.tm = gtO (obind ops[j]? Oper.dst) s.tm := by
    intro j want hg
    cases hd : obind ops[j]? Oper.dst with
    | none => rfl
    | some t => exact hr t (List.mem_append_right _ (by have hd' : (ops[j]?).bind (·.dst) = some t := hd
                                                        simp [hg, hd']))
  unfold valK at h
  unfold valX
  rw [stepV_k hn hr hk]
  cases hsv : stepV P ops s o with
  | some u => rw [hsv] at h; exact h
  | none =>
    rw [hsv] at h
    simp only at h ⊢
    cases hgd : o.guard with
    | none =>
      rw [hgd] at h
      simp only at h ⊢
      obtain ⟨h0, h1⟩ := callK0_D h
      rw [callD_k hn hev hk h0]; exact h1
    | some q =>
      obtain ⟨j, want⟩ := q
      rw [hgd] at h
      simp only at h ⊢
      rw [hg j want hgd]
      split at h
      · rename_i b hb
        rw [hb]
        simp only
        split at h
        · rename_i hbw
          rw [if_pos hbw]
          obtain ⟨h0, h1⟩ := callK0_D h
          have : callD P run s2 { o with guard := none } = callD P run s { o with guard := none } := callD_k (o := { o with guard := none }) hn hev hk h0
          rw [this]; exact h1
        · cases h
      · cases h

def dstW (d : Option Nat) (v : AV) : List (Nat × AV) := match d with | some d => [(d, v)] | none => []
theorem applyE_put {s : St} {d : Option Nat} {v : AV} : Sub (applyE s ⟨dstW d v, []⟩) (s.put d v) := by
  cases d with
  | none => exact ⟨rfl, fun t u h => .inr h, fun κ B h => h⟩
  | some d => exact ⟨rfl, fun t u h => .inr (by simpa only [applyE, dstW, insL, St.put] using h), fun κ B h => h⟩
theorem lop_val {P : Program} {run : RunF} (hrun : RunOk P run) {ops : Array Oper} {s : St} {o : Oper} {v : AV} (h : valK P run ops s o = some v) : LOp P ops s ⟨o, ⟨dstW o.dst v, []⟩, o.looksAt ops, opsK s o.op.operands.toList, []⟩ := by
  intro s2 hn hr hk _ _
  have h2 : valX P run ops s2 o = some v := valK_k hn hr hk h
  refine awpl_mono ?_ (valX_sound hrun h2 s2 rfl rfl (fun _ _ => rfl))
  rintro s3 rfl
  exact applyE_put
end Go.Proofs.Ytpdbekbobkjfgaa
