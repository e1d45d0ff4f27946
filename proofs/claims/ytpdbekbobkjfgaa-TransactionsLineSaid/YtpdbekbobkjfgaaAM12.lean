/-
  An abstract view of the machine, part 12: code: regions, sequences, branches, blocks, loops.
  Conditions: none; nothing here speaks of one program.
-/
import Derived.Test.YtpdbekbobkjfgaaAM11
namespace Go.Proofs.Ytpdbekbobkjfgaa
open Go.RowKit
set_option linter.unusedVariables false

/-- From the view s the code c ends as Q says. -/
def AWp (P : Program) (c : Code) (Q : Exit → St → Prop) (s : St) : Prop :=
  ∀ (cx : Ctx) (m : Nat → Value) (a : Act) (w : World), SRep cx m s a w → c.wp P (fun e a' w' => ∃ s' m', Q e s' ∧ SRep cx m' s' a' w') a w

/-- The same of the operations l of a region ops. -/
def AWpL (P : Program) (ops : Array Oper) (l : List Oper) (Q : St → Prop) (s : St) : Prop :=
  ∀ (cx : Ctx) (m : Nat → Value) (a : Act) (w : World) (K : Exit → Act → World → Prop), SRep cx m s a w → (∀ s' m' a' w', Q s' → SRep cx m' s' a' w' → K .normal a' w') → wpList P ops K l a w

def Xthen (next : St → Prop) (Q : Exit → St → Prop) : Exit → St → Prop
  | .normal, s => next s
  | e, s => Q e s
def Xblock (id : Nat) (Q : Exit → St → Prop) : Exit → St → Prop
  | .exit id', s => if id' = id then Q .normal s else Q (.exit id') s
  | e, s => Q e s
def Xscope (Q : Exit → St → Prop) : Exit → St → Prop
  | .goto _, _ => False
  | e, s => Q e s

section
variable {P : Program} {Q : Exit → St → Prop} {s : St}

theorem awp_mono {c : Code} {Q' : Exit → St → Prop} (h : AWp P c Q s) (hq : ∀ e s', Q e s' → Q' e s') : AWp P c Q' s :=
  fun cx m a w hs => Code.wp_mono (fun e a' w' ⟨s', m', h1, h2⟩ => ⟨s', m', hq e s' h1, h2⟩) (h cx m a w hs)
theorem awp_sub {c : Code} {s' : St} (hs : Sub s' s) (h : AWp P c Q s') : AWp P c Q s := fun cx m a w hr => h cx m a w (hr.sub hs)
theorem awp_skip (h : Q .normal s) : AWp P .skip Q s := fun cx m a w hr => wp_skip ⟨s, m, h, hr⟩
theorem awp_label {l : Nat} (h : Q .normal s) : AWp P (.label l) Q s := fun cx m a w hr => wp_label ⟨s, m, h, hr⟩
theorem awp_exit {id : Nat} (h : Q (.exit id) s) : AWp P (.exit id) Q s := fun cx m a w hr => wp_exit ⟨s, m, h, hr⟩
theorem awp_ret (h : Q .ret s) : AWp P .ret Q s := fun cx m a w hr => wp_ret ⟨s, m, h, hr⟩
theorem awp_goto {l : Nat} (h : Q (.goto l) s) : AWp P (.goto l) Q s := fun cx m a w hr => wp_goto ⟨s, m, h, hr⟩

theorem awp_seq {x y : Code} (h : AWp P x (Xthen (AWp P y Q) Q) s) : AWp P (.seq x y) Q s := by
  intro cx m a w hr
  refine wp_seq (Code.wp_mono ?_ (h cx m a w hr))
  rintro e a' w' ⟨s', m', h1, h2⟩
  cases e with
  | normal => exact h1 cx m' a' w' h2
  | _ => exact ⟨s', m', h1, h2⟩

theorem awp_block {id : Nat} {c : Code} (h : AWp P c (Xblock id Q) s) : AWp P (.block id c) Q s := by
  intro cx m a w hr
  refine wp_block (Code.wp_mono ?_ (h cx m a w hr))
  rintro e a' w' ⟨s', m', h1, h2⟩
  cases e with
  | exit id' =>
    simp only [Exit.inBlock]
    simp only [Xblock] at h1
    split
    · rename_i hid; rw [if_pos hid] at h1; exact ⟨s', m', h1, h2⟩
    · rename_i hid; rw [if_neg hid] at h1; exact ⟨s', m', h1, h2⟩
  | _ => exact ⟨s', m', h1, h2⟩

/-- A scope that is gone through without a goto. -/
theorem awp_scope {c : Code} (h : AWp P c (Xscope Q) s) : AWp P (.scope c) Q s := by
  intro cx m a w hr
  refine wp_scope_straight (Code.wp_mono ?_ (h cx m a w hr))
  rintro e a' w' ⟨s', m', h1, h2⟩
  cases e with
  | goto l => exact h1.elim
  | _ => exact ⟨s', m', h1, h2⟩

theorem awp_cond {c : Operand} {x y : Code} {b : Bool} (hc : s.ev c = some (.d (.v (.bool b)))) (ht : b = true → AWp P x Q s) (hf : b = false → AWp P y Q s) : AWp P (.cond c x y) Q s := by
  intro cx m a w hr
  have := (repV_v.1 (hr.ev hc)).1
  cases b with
  | true => exact wp_cond this (ht rfl cx m a w hr)
  | false => exact wp_cond this (hf rfl cx m a w hr)
theorem awp_cond_true {c : Operand} {x y : Code} (hc : s.ev c = some (.d (.v (.bool true)))) (ht : AWp P x Q s) : AWp P (.cond c x y) Q s := awp_cond hc (fun _ => ht) (fun h => by cases h)
theorem awp_cond_false {c : Operand} {x y : Code} (hc : s.ev c = some (.d (.v (.bool false)))) (hf : AWp P y Q s) : AWp P (.cond c x y) Q s := awp_cond hc (fun h => by cases h) (fun _ => hf)

/-- At a loop's head. -/
def LoopAt (P : Program) (c : Code) (Q : Exit → Act → World → Prop) (a : Act) (w : World) : Prop :=
  ∀ (b : Frame) (k : List Item) (cs : List Frame), ∃ e a' w', Q e a' w' ∧ Arrives P (lone (b.at a (.code c :: .inLoop c :: k)) cs w) b k cs e a' w'

theorem loopAt_of {c : Code} {Q : Exit → Act → World → Prop} {a : Act} {w : World} (h : LoopAt P c Q a w) : (Code.loop c).wp P Q a w := fun b k cs =>
  let ⟨e, a', w', h1, h2⟩ := h b k cs
  ⟨e, a', w', h1, .of_steps (.one step_loop) h2⟩
theorem loopAt_step {c : Code} {Q : Exit → Act → World → Prop} {a : Act} {w : World} (h : c.wp P (Exit.then (LoopAt P c Q) Q) a w) : LoopAt P c Q a w := by
  intro b k cs
  obtain ⟨e, a₁, w₁, hq, harr⟩ := h b (.inLoop c :: k) cs
  cases e with
  | normal =>
    obtain ⟨e₂, a₂, w₂, hq₂, harr₂⟩ := hq b k cs
    exact ⟨e₂, a₂, w₂, hq₂, .of_steps (Steps.trans harr (.one step_inLoop)) harr₂⟩
  | exit id => exact ⟨_, a₁, w₁, hq, .pass (x := .inLoop c) rfl (fun _ _ => .inl (by simp)) harr⟩
  | goto l => exact ⟨_, a₁, w₁, hq, .pass (x := .inLoop c) rfl (fun _ _ => .inl (by simp)) harr⟩
  | ret => exact ⟨_, a₁, w₁, hq, .pass (x := .inLoop c) rfl (fun _ _ => .inl (by simp)) harr⟩
  | panic ch => exact ⟨_, a₁, w₁, hq, .pass (x := .inLoop c) rfl (fun _ _ => .inl (by simp)) harr⟩
  | outgrown => exact ⟨_, a₁, w₁, hq, .pass (x := .inLoop c) rfl (fun _ _ => .inl (by simp)) harr⟩

/-- A loop: its head's views are I i, for i as J says; a round lowers μ. -/
theorem awp_loop {ι : Type} (I : ι → St) (J : ι → Prop) (μ : ι → Nat) {c : Code} (i0 : ι) (h0 : J i0) (hs : Sub (I i0) s)
    (round : ∀ i, J i → AWp P c (Xthen (fun s' => ∃ j, J j ∧ Sub (I j) s' ∧ μ j < μ i) Q) (I i)) : AWp P (.loop c) Q s := by
  intro cx m a w hr
  refine loopAt_of ?_
  have key : ∀ n i, μ i = n → J i → ∀ m a w, SRep cx m (I i) a w → LoopAt P c (fun e a' w' => ∃ s' m', Q e s' ∧ SRep cx m' s' a' w') a w := by
    intro n
    induction n using Nat.strongRecOn with
    | _ n ih =>
      intro i hn hJ m a w hr
      refine loopAt_step (Code.wp_mono ?_ (round i hJ cx m a w hr))
      rintro e a' w' ⟨s', m', h1, h2⟩
      cases e with
      | normal =>
        obtain ⟨j, hj1, hj2, hj3⟩ := h1
        exact ih (μ j) (by omega) j rfl hj1 m' a' w' (h2.sub hj2)
      | _ => exact ⟨s', m', h1, h2⟩
  exact key _ i0 rfl h0 m a w (hr.sub hs)

/-! ### Regions -/
/-- What a slot holds, if there is one. -/
def gtO : Option Nat → List (Nat × AV) → Option AV
  | some t, l => gt t l
  | none, _ => none
theorem gtO_some {o : Option Nat} {l : List (Nat × AV)} {v : AV} (h : gtO o l = some v) : ∃ t, o = some t ∧ gt t l = some v := by
  cases o with
  | none => cases h
  | some t => exact ⟨t, rfl, h⟩
/-- What a slot holds whose operation was passed over. -/
def noneA : AV := .tup []
theorem SRep.putNone {c : Ctx} {m : Nat → Value} {s : St} {a : Act} {w : World} (h : SRep c m s a w) {dst : Option Nat} (hd : s.okDst dst = true) : SRep c m (s.put dst (.tup [])) (a.put dst undef) w :=
  h.put hd (by simp only [RepV, RepVs]; exact ⟨[], rfl, rfl⟩)
theorem gt_none {cx : Ctx} {m : Nat → Value} {s : St} {a : Act} {w : World} (h : SRep cx m s a w) {t : Nat} (ht : gt t s.tm = some (.tup [])) : ∀ b, a.tmps[t]? ≠ some (.bool b) := by
  intro b hb
  have h1 := h.slot t _ ht
  simp only [RepV, RepVs] at h1
  obtain ⟨us, h2, h3⟩ := h1
  rw [Array.getD_eq_getD_getElem?, hb] at h2
  simp at h2
def stepG (P : Program) (ops : Array Oper) (s : St) (o : Oper) : Option St :=
  match o.guard with
  | none => stepF P s o
  | some (j, want) => match gtO (obind ops[j]? Oper.dst) s.tm with
    | some (.d (.v (.bool b))) => if b = want then stepF P s o else if s.okDst o.dst = true then some (s.put o.dst (.tup [])) else none
    | some (.tup []) => if s.okDst o.dst = true then some (s.put o.dst (.tup [])) else none
    | _ => none
def runO (P : Program) (ops : Array Oper) : List Oper → Option St → Option St
  | [], r => r
  | o :: l, some s => runO P ops l (stepG P ops s o)
  | _ :: _, none => none
def runG (P : Program) (ops : Array Oper) (l : List Oper) (s : St) : Option St := runO P ops l (some s)
theorem runO_none (P : Program) (ops : Array Oper) : ∀ l, runO P ops l none = none
  | [] => rfl
  | _ :: _ => rfl

theorem gt_lt {cx : Ctx} {m : Nat → Value} {s : St} {a : Act} {w : World} (h : SRep cx m s a w) {t : Nat} {b : Bool} (ht : gt t s.tm = some (.d (.v (.bool b)))) : a.tmps[t]? = some (.bool b) := by
  have h1 := (repV_v.1 (h.slot t _ ht)).1
  rw [Array.getD_eq_getD_getElem?] at h1
  cases hh : a.tmps[t]? with
  | none => rw [hh] at h1; simp [undef] at h1
  | some v => rw [hh] at h1; simpa using h1

theorem wanted_none {o : Oper} (h : o.guard = none) (y : Nat → Option Bool) : Region.wanted o y = true := by simp [Region.wanted, h]

theorem awpl_nil {ops : Array Oper} {Q : St → Prop} (h : Q s) : AWpL P ops [] Q s := fun cx m a w K hr hk => hk s m a w h hr

theorem awpl_step {ops : Array Oper} {o : Oper} {l : List Oper} {Q : St → Prop} {s' : St} (hs : stepG P ops s o = some s') (h : AWpL P ops l Q s') : AWpL P ops (o :: l) Q s := by
  intro cx m a w K hr hk
  have run : stepF P s o = some s' → o.wp P a w (wpList P ops K l) K := by
    intro hst
    replace hst := stepF_step hst
    obtain ⟨m', u, w', hd, hr'⟩ := step_sound hst hr
    unfold Oper.wp
    rcases hd with hd | ⟨rfl, hd⟩
    · rw [hd]; exact h cx m' _ _ K hr' hk
    · rw [hd]; exact h cx m' _ _ K hr' hk
  unfold wpList
  unfold stepG at hs
  split at hs
  · rename_i hg
    rw [if_pos (wanted_none hg _)]
    exact .inl (run hs)
  · rename_i j want hg
    split at hs
    · rename_i b hb
      obtain ⟨t, ht, hb⟩ := gtO_some hb
      replace ht : (ops[j]?).bind (·.dst) = some t := ht
      have hy : yielded ops a.tmps j = some b := by
        unfold yielded
        rw [ht]
        simp only [Option.bind_some, gt_lt hr hb]
      have hw : Region.wanted o (yielded ops a.tmps) = decide (b = want) := by
        simp only [Region.wanted, hg, hy]
        by_cases h : b = want <;> simp [h]
      split at hs
      · rename_i hbw
        rw [if_pos (by rw [hw]; simpa using hbw)]
        exact .inl (run hs)
      · rename_i hbw
        rw [if_neg (by rw [hw]; simpa using hbw)]
        split at hs
        · rename_i hok
          cases hs
          exact h cx m _ _ K (hr.putNone hok) hk
        · cases hs
    · rename_i hb
      obtain ⟨t, ht, hb⟩ := gtO_some hb
      replace ht : (ops[j]?).bind (·.dst) = some t := ht
      have hy : yielded ops a.tmps j = none := by
        unfold yielded
        rw [ht]
        simp only [Option.bind_some]
        have := gt_none hr hb
        split
        · rename_i b hbb; exact absurd hbb (this b)
        · rfl
      have hw : Region.wanted o (yielded ops a.tmps) = false := by
        simp only [Region.wanted, hg, hy]; rfl
      rw [if_neg (by rw [hw]; simp)]
      split at hs
      · rename_i hok
        cases hs
        exact h cx m _ _ K (hr.putNone hok) hk
      · cases hs
    · cases hs

theorem awpl_run {ops : Array Oper} {Q : St → Prop} : ∀ {l : List Oper} {s s' : St}, runG P ops l s = some s' → Q s' → AWpL P ops l Q s
  | [], s, s', h, hq => by simp only [runG, runO, Option.some.injEq] at h; subst h; exact awpl_nil hq
  | o :: l, s, s', h, hq => by
    simp only [runG, runO] at h
    cases h1 : stepG P ops s o with
    | none => rw [h1, runO_none] at h; cases h
    | some s1 => rw [h1] at h; exact awpl_step h1 (awpl_run h hq)

theorem awp_region {id : Nat} {ops : Array Oper} (h : AWpL P ops ops.toList (Q .normal) s) : AWp P (.region id ops false) Q s := fun cx m a w hr =>
  wp_region_list (h cx m a w _ hr (fun s' m' a' w' hq hr' => ⟨s', m', hq, hr'⟩))
theorem awp_region_run {id : Nat} {l : List Oper} {s' : St} (h : runG P l.toArray l s = some s') (hq : Q .normal s') : AWp P (.region id l.toArray false) Q s :=
  awp_region (awpl_run (by simpa using h) hq)
theorem awp_region_lit {id : Nat} {l : List Oper} (h : AWpL P l.toArray l (Q .normal) s) : AWp P (.region id l.toArray false) Q s := awp_region (by simpa using h)
end

end Go.Proofs.Ytpdbekbobkjfgaa
