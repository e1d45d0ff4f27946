/-
  An abstract view of the machine, part 18: calls whose answer is told whole.
  Conditions: none; nothing here speaks of one program.
-/
import Derived.Test.YtpdbekbobkjfgaaAM17
namespace Go.Proofs.Ytpdbekbobkjfgaa
open Go.RowKit
set_option linter.unusedVariables false

/-- Data in; out: R, and the blocks BS that it names. -/
def ARet (P : Program) (f : FuncId) (ds : List D) (R : AV) (BS : List Blk) : Prop := ACall P f (ds.map .d) [] fun r hs' => r = R ∧ hs' = BS
theorem aret_body {P : Program} {f : FuncId} {fn : Func} {c : Code} {vs : List D} {R : AV} {BS : List Blk} {n : Nat} {res : List ResultVar} (hf : P.funcs[f]? = some fn) (hb : fn.body = some c) (hn : fn.ntmps = n) (hres : fn.results.toList = res) (hle : vs.length ≤ n)
    (h : AWp P c (FPost P res 0 fun r' hs' => r' = R ∧ hs' = BS) ⟨n, tmFrom 0 (vs.map .d), []⟩) : ARet P f vs R BS :=
  acall_body hf hb hn hres (by simpa using hle) h

theorem x_call {P : Program} {ops : Array Oper} {o : Oper} {l : List Oper} {Q : St → Prop} {s : St} {f : FuncId} {fn : Func} {args : Array Operand} {tys : Array TypeId} {ds : List D} {Post : AV → List Blk → Prop}
    (hc : ACall P f (ds.map .d) [] Post) (V : List Nat) (hf : IsFn P f fn) (hg : o.guard = none) (ho : o.op = .call { callee := .value (.func f), args := args, argTypes := tys })
    (hv : ∀ x, s.evL args.toList = x → ∃ vs, x = some vs ∧ argsA P s [] V fn.params.toList vs = ds.map .d)
    (hV : V.all (fun κ => (gt κ s.hp).isSome) = true) (hdst : s.okDst o.dst = true)
    (next : ∀ R BS, Post R BS → (V = [] ∨ (flatV R = true ∧ BS.all flatB = true)) ∧ ∀ s', (afterS s [] (kL (o.dst.getD 0)) BS).put o.dst (renV (backF [] (kL (o.dst.getD 0)) BS.length) R) = s' → AWpL P ops l Q s') : AWpL P ops (o :: l) Q s := by
  obtain ⟨vs, h1, h2⟩ := hv _ rfl
  refine awpl_callG hg hf (goesTo_func (vs := vs) ho hf rfl h1) (Post := Post) (bs := []) hdst [] V (kL (o.dst.getD 0)) (by rw [h2]; exact hc) List.nodup_nil rfl (by simp) (by simp [kL]) (fun κ hκ => ⟨by simp, List.all_eq_true.1 hV κ hκ⟩) ?_
  intro r' hs' hp _
  obtain ⟨n1, n2⟩ := next r' hs' hp
  refine ⟨by simp, ?_, n2 _ rfl⟩
  rcases n1 with h | ⟨h3, h4⟩
  · exact .inl h
  · exact .inr ⟨h3, fun B hB => List.all_eq_true.1 h4 B hB⟩

theorem x_cret {P : Program} {ops : Array Oper} {o : Oper} {l : List Oper} {Q : St → Prop} {s : St} {f : FuncId} {fn : Func} {args : Array Operand} {tys : Array TypeId} {ds : List D} {R : AV} {BS : List Blk}
    (hc : ACall P f (ds.map .d) [] fun r hs' => r = R ∧ hs' = BS) (V : List Nat) (hf : IsFn P f fn) (hg : o.guard = none) (ho : o.op = .call { callee := .value (.func f), args := args, argTypes := tys })
    (hv : ∀ x, s.evL args.toList = x → ∃ vs, x = some vs ∧ argsA P s [] V fn.params.toList vs = ds.map .d)
    (hV : V.all (fun κ => (gt κ s.hp).isSome) = true) (hdst : s.okDst o.dst = true)
    (hflat : V = [] ∨ (flatV R = true ∧ BS.all flatB = true))
    (next : ∀ s', (afterS s [] (kL (o.dst.getD 0)) BS).put o.dst (renV (backF [] (kL (o.dst.getD 0)) BS.length) R) = s' → AWpL P ops l Q s') : AWpL P ops (o :: l) Q s :=
  x_call hc V hf hg ho hv hV hdst fun R' BS' ⟨h1, h2⟩ => by subst h1 h2; exact ⟨hflat, next⟩

theorem x_nil {P : Program} {ops : Array Oper} {Q : St → Prop} {s : St} (h : Q s) : AWpL P ops [] Q s := awpl_nil h

/-- A guarded operation, its guard looked at. -/
theorem x_guard {P : Program} {ops : Array Oper} {o : Oper} {l : List Oper} {Q : St → Prop} {s : St} {j : Nat} {b : Bool} (hg : o.guard = some (j, b)) (hdst : s.okDst o.dst = true)
    (h : ∀ x, gtO (obind ops[j]? Oper.dst) s.tm = x → ∃ b', x = some (.d (.v (.bool b'))) ∧ (b' = b → AWpL P ops ({ o with guard := none } :: l) Q s) ∧ (b' ≠ b → ∀ s', s.put o.dst (.tup []) = s' → AWpL P ops l Q s')) : AWpL P ops (o :: l) Q s := by
  obtain ⟨b', h1, h2, h3⟩ := h _ rfl
  by_cases hb : b' = b
  · obtain ⟨t, h4, h5⟩ := gtO_some h1
    subst hb; exact awpl_guard hg (Option.bind_eq_some_iff.2 ⟨t, h4, h5⟩) (h2 rfl)
  · refine awpl_step (s' := s.put o.dst (.tup [])) ?_ (h3 hb _ rfl)
    unfold stepG
    rw [hg]
    simp only [h1, if_neg hb, hdst, if_true]

/-- How many places a row has is forgotten. -/
def wideB : Blk → Blk
  | .ints e k xs _ => .ints e k xs none
  | .row e n xs _ => .row e n xs none
  | B => B
def wideL (κ : Nat) : List (Nat × Blk) → List (Nat × Blk)
  | [] => []
  | (j, B) :: l => (j, if j = κ then wideB B else B) :: wideL κ l
def St.wide (s : St) (κ : Nat) : St := { s with hp := wideL κ s.hp }
theorem gt_wideL {κ j : Nat} {B : Blk} : ∀ {l : List (Nat × Blk)}, gt j (wideL κ l) = some B → ∃ B0, gt j l = some B0 ∧ (B = B0 ∨ B = wideB B0)
  | [], h => by simp [wideL, gt] at h
  | (i, B1) :: l, h => by
    simp only [wideL, gt] at h ⊢
    by_cases hj : j = i
    · rw [if_pos hj] at h ⊢
      cases h
      refine ⟨_, rfl, ?_⟩
      split
      · exact .inr rfl
      · exact .inl rfl
    · rw [if_neg hj] at h ⊢
      exact gt_wideL h
theorem gt_wideL' {κ j : Nat} {B : Blk} : ∀ {l : List (Nat × Blk)}, gt j l = some B → ∃ B0, gt j (wideL κ l) = some B0
  | [], h => by simp [gt] at h
  | (i, B1) :: l, h => by
    simp only [wideL, gt] at h ⊢
    by_cases hj : j = i
    · rw [if_pos hj]; exact ⟨_, rfl⟩
    · rw [if_neg hj] at h ⊢
      exact gt_wideL' h
theorem RepB.wide {w : World} {F : Nat → Prop} {m : Nat → Value} {κ : Nat} {B : Blk} (h : RepB w F m κ B) : RepB w F m κ (wideB B) := by
  cases B with
  | box e cs => exact h
  | ints e k xs c => exact ⟨h.1, fun q hq => by cases hq⟩
  | row e n xs c => obtain ⟨vals, h1, _, h3⟩ := h; exact ⟨vals, h1, fun q hq => (by cases hq), h3⟩
theorem SRep.wide {c : Ctx} {m : Nat → Value} {s : St} {a : Act} {w : World} (h : SRep c m s a w) (κ : Nat) : SRep c m (s.wide κ) a w := by
  have hF : ∀ b, Forb c m (s.wide κ).hp b → Forb c m s.hp b := by
    rintro b (hX | ⟨κ', B, h1, h2⟩)
    · exact .inl hX
    · obtain ⟨B0, h3, _⟩ := gt_wideL h1
      exact .inr ⟨κ', B0, h3, h2⟩
  have hk : Kept w (Forb c m s.hp) w (Forb c m (s.wide κ).hp) := fun b _ hb => ⟨fun h' => hb (hF b h'), rfl⟩
  refine ⟨h.defers, h.nt, fun t v ht => RepV.kept hk (Nat.le_refl _) v _ (h.slot t v ht), ?_, ?_, ?_, ?_, h.fr, h.xlt, h.pin, h.pinp⟩
  · intro j B hj
    obtain ⟨B0, h1, h2⟩ := gt_wideL hj
    have h3 := RepB.kept hk (Nat.le_refl _) (fun _ _ _ => rfl) (h.heap j B0 h1)
    rcases h2 with rfl | rfl
    · exact h3
    · exact h3.wide
  · intro j j' B B' b h1 h2 hne
    obtain ⟨B1, h1', _⟩ := gt_wideL h1
    obtain ⟨B2, h2', _⟩ := gt_wideL h2
    exact h.sep j j' B1 B2 b h1' h2' hne
  · intro j B b h1
    obtain ⟨B1, h1', _⟩ := gt_wideL h1
    exact h.nox j B1 b h1'
  · intro j B b h1
    obtain ⟨B1, h1', _⟩ := gt_wideL h1
    exact h.old j B1 b h1'
theorem awp_wide {P : Program} {Q : Exit → St → Prop} {s : St} {c : Code} (κ : Nat) (h : ∀ s', s.wide κ = s' → AWp P c Q s') : AWp P c Q s := fun cx m a w hr => h _ rfl cx m a w (hr.wide κ)
theorem x_mat {P : Program} {Q : Exit → St → Prop} {s : St} {c : Code} (t κ : Nat) (B : Blk) (h : ∀ r, gt t s.tm = r → ∃ v, r = some v ∧ isEmptyA v = true) (h16 : 16 ≤ κ) (htn : t < s.n) (hB : (∃ e k, B = .ints e k [] (some 0)) ∨ (∃ e n, B = .row e n [] (some 0))) (next : ∀ s', s.mat t κ B = s' → AWp P c Q s') : AWp P c Q s := by
  obtain ⟨v, h1, h2⟩ := h _ rfl
  exact awp_mat t κ B h1 h2 h16 htn hB (next _ rfl)
theorem x_freeze {P : Program} {Q : Exit → St → Prop} {s : St} {c : Code} (κ : Nat) (h : ∀ r, gt κ s.hp = r → ∃ B, r = some B ∧ ∃ x, B.data = some x ∧ ∀ s', s.freeze κ x = s' → AWp P c Q s') : AWp P c Q s := by
  obtain ⟨B, h1, x, h2, h3⟩ := h _ rfl
  exact awp_freeze κ h1 h2 (h3 _ rfl)
theorem x_fix {P : Program} {Q : Exit → St → Prop} {s : St} {c : Code} (κ : Nat) (h : ∀ r, gt κ s.hp = r → ∃ e cs, r = some (.box e cs) ∧ ∀ r2, allD cs = r2 → ∃ ds, r2 = some ds ∧ ∀ s', s.fix κ (.agg ds) = s' → AWp P c Q s') : AWp P c Q s := by
  obtain ⟨e, cs, h1, h2⟩ := h _ rfl
  obtain ⟨ds, h3, h4⟩ := h2 _ rfl
  exact awp_fix κ h1 h3 (h4 _ rfl)

/-! ### Drawn regions, slot by slot -/
theorem q_val {P : Program} {ops : Array Oper} {R : List Oper → St → Prop} {p : Nat} {o : Oper} {l : List Oper} {s : St} (h : ∀ r, stepV P ops s o = r → ∃ v, r = some v ∧ ∀ s', s.put o.dst v = s' → QRunN P ops R p l s') : QRunN P ops R (p + 1) (o :: l) s := by
  obtain ⟨v, h1, h2⟩ := h _ rfl
  exact ⟨v, qop_val h1, h2 _ rfl⟩
theorem q_end {P : Program} {ops : Array Oper} {Q : St → Prop} {l : List Oper} {s : St} (h : AWpL P ops l Q s) : QRunN P ops (fun l' s' => AWpL P ops l' Q s') 0 l s := h
theorem q_call {P : Program} {ops : Array Oper} {R : List Oper → St → Prop} {p : Nat} {o : Oper} {l : List Oper} {s : St} {f : FuncId} {fn : Func} {args : Array Operand} {tys : Array TypeId} {ds : List D} {d : D}
    (hc : AFun P f ds d) (V : List Nat) (hf : IsFn P f fn) (hg : o.guard = none) (ho : o.op = .call { callee := .value (.func f), args := args, argTypes := tys })
    (hv : ∀ x, s.evL args.toList = x → ∃ vs, x = some vs ∧ argsA P s [] V fn.params.toList vs = ds.map .d)
    (hV : V.all (fun κ => (gt κ s.hp).isSome) = true) (hdst : s.okDst o.dst = true) (hflat : V = [] ∨ flatD d = true)
    (next : ∀ s', s.put o.dst (.d d) = s' → QRunN P ops R p l s') : QRunN P ops R (p + 1) (o :: l) s := by
  obtain ⟨vs, h1, h2⟩ := hv _ rfl
  exact ⟨_, qop_call hg ho hf rfl h1 hdst V hc h2 (fun κ hκ => List.all_eq_true.1 hV κ hκ) hflat, next _ rfl⟩

/-- A new row that nobody else knows may be taken as data. -/
theorem afun_of_arow {P : Program} {f : FuncId} {ds : List D} {B : Blk} {x : D} (h : ARow P f ds B) (hx : B.data = some x) : AFun P f ds x := by
  intro cx m us w h1 h2 h3
  refine (h cx m us w h1 h2 h3).mono ?_
  rintro e w' ⟨u, m', r, hs', rfl, ⟨rfl, rfl⟩, _, h4, h5⟩
  have hB : gt 0 (St.bare [B]).hp = some B := rfl
  have hf := h4.freeze hB hx
  have e : (St.bare [B]).freeze 0 x = St.bare [] := rfl
  rw [e] at hf
  refine ⟨u, m', .d x, [], rfl, ⟨rfl, rfl⟩, by simp, hf, ?_⟩
  have hF : ∀ b, Forb cx m' (St.bare []).hp b → Forb cx m' (St.bare [B]).hp b := by
    rintro b (hX | ⟨j, B', h1, h2⟩)
    · exact .inl hX
    · simp [St.bare, hpFrom, gt] at h1
  have hk : Kept w' (Forb cx m' (St.bare [B]).hp) w' (Forb cx m' (St.bare []).hp) := fun b _ hb => ⟨fun h' => hb (hF b h'), rfl⟩
  have hD : RepD w' (Forb cx m' (St.bare []).hp) x (m' 0) := by
    refine RepB.data (h4.heap 0 B hB) hx hk fun b hb => ?_
    rintro (hX | ⟨j, B', h1, h2⟩)
    · exact h4.nox 0 B b hB hb hX
    · simp [St.bare, hpFrom, gt] at h1
  have := RepV.dat hD (.own 0) u (RepV.kept hk (Nat.le_refl _) _ _ h5)
  simp only [datV, if_true] at this
  exact this
theorem x_freezeL {P : Program} {ops : Array Oper} {l : List Oper} {R : St → Prop} {s : St} (κ : Nat) (h : ∀ r, gt κ s.hp = r → ∃ B, r = some B ∧ ∃ x, B.data = some x ∧ ∀ s', s.freeze κ x = s' → AWpL P ops l R s') : AWpL P ops l R s := by
  obtain ⟨B, h1, x, h2, h3⟩ := h _ rfl
  exact awpl_freeze κ h1 h2 (h3 _ rfl)

attribute [push_cast] wideB wideL St.wide allD insL delL flatV flatVs flatD flatDs flatB isEmptyA

end Go.Proofs.Ytpdbekbobkjfgaa
