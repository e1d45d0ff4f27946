/-
  Walks that the kernel reckons out, part 8: code, loops, functions, tables.
  Conditions: none; nothing here speaks of one program.
-/
import Derived.Test.YtpdbekbobkjfgaaAN7
namespace Go.Proofs.Ytpdbekbobkjfgaa
open Go.RowKit
set_option linter.unusedVariables false
set_option linter.constructorNameAsVariable false

/-! ### Drawn regions -/
def valKindO : Op → Bool
  | .alloc _ => false
  | .box _ _ => false
  | .buildSlice _ _ _ => false
  | .makeSlice _ _ _ => false
  | .store _ _ _ => false
  | .call { callee := .builtin .append, .. } => false
  | _ => true
/-- The own rows that operations of a head take as data. -/
def headRows (fl : FuncId → Bool) (s : SSt) : List Oper → List Nat
  | [] => []
  | o :: l => (match o.op with
      | .call c => if isCallO o.op then (if (match c.callee with | .value (.func f) => fl f | _ => false) then [] else (o.op.operands.toList.filterMap fun x => match s.ev x with | some (.own κ) => some κ | _ => none)) else []
      | .slice _ x _ _ _ => match s.ev x with | some (.own κ) => [κ] | _ => []
      | .index _ x _ => match s.ev x with | some (.own κ) => [κ] | _ => []
      | _ => []) ++ headRows fl s l
def dedup : List Nat → List Nat
  | [] => []
  | x :: l => if l.contains x then dedup l else x :: dedup l
def drawK {R : Type} (P : Program) (ck : CallK) (fl : FuncId → Bool) (ops : Array Oper) (s : SSt) (k : SSt → Option R) : Option R :=
  match leastOk ops.toList (ops.size + 1) 0 with
  | some p => if drawOk ops.toList p && (ops.toList.take p).all (fun o => valKindO o.op) then
      match s.freezeL (dedup (headRows fl s (ops.toList.take p))) with
      | some s1 => headsK P ck ops p ops.toList s1 fun l' s' => opsR P ck fl ops l' s' k
      | none => none
    else none
  | none => none
theorem drawK_ok {R : Type} {P : Program} (hm : P.follows .mixedOrders = true) {ck : CallK} (hck : CallOk P ck) {fl : FuncId → Bool} {id : Nat} {ops : Array Oper} {s : SSt} {k : SSt → Option R} {r : R} (h : drawK P ck fl ops s k = some r) : ∃ s', k s' = some r ∧ ∀ Q : Exit → St → Prop, Q .normal s'.toSt → AWp P (.region id ops true) Q s.toSt := by
  have e : ops = ops.toList.toArray := by simp
  unfold drawK at h
  split at h
  · rename_i p hp
    split at h
    · rename_i hok
      simp only [Bool.and_eq_true] at hok
      split at h
      · rename_i s1 h1
        obtain ⟨l', s2, h2, h3⟩ := headsK_ok hck h
        obtain ⟨s', h4, h5⟩ := opsR_ok hck h2
        refine ⟨s', h4, fun Q hq => awp_le (freezeL_le h1) ?_⟩
        rw [e]
        refine awp_drawq p hm hok.1 ?_
        rw [← e]
        exact h3 (fun l' s' => AWpL P ops l' (Q .normal) s') (h5 (Q .normal) hq)
      · cases h
    · cases h
  · cases h
def regK {R : Type} (P : Program) (ck : CallK) (fl : FuncId → Bool) (ops : Array Oper) (draw : Bool) (s : SSt) (k : SSt → Option R) : Option R :=
  match draw with
  | true => drawK P ck fl ops s k
  | false => opsR P ck fl ops ops.toList s k
theorem regK_ok {R : Type} {P : Program} (hm : P.follows .mixedOrders = true) {ck : CallK} (hck : CallOk P ck) {fl : FuncId → Bool} {id : Nat} {ops : Array Oper} {draw : Bool} {s : SSt} {k : SSt → Option R} {r : R} (h : regK P ck fl ops draw s k = some r) : ∃ s', k s' = some r ∧ ∀ Q : Exit → St → Prop, Q .normal s'.toSt → AWp P (.region id ops draw) Q s.toSt := by
  cases draw with
  | true => exact drawK_ok hm hck h
  | false =>
    obtain ⟨s', h1, h2⟩ := opsR_ok hck h
    exact ⟨s', h1, fun Q hq => awp_region (h2 (Q .normal) hq)⟩

/-! ### Where code ends -/
def sameE : Exit → Exit → Bool
  | .normal, .normal => true
  | .exit i, .exit j => decide (i = j)
  | .goto i, .goto j => decide (i = j)
  | .ret, .ret => true
  | _, _ => false
theorem sameE_eq {a b : Exit} (h : sameE a b = true) : a = b := by
  cases a <;> cases b <;> simp_all [sameE]
/-- Where code may end, and how it looks there. -/
structure OPat (Y : Type) where
  get : Exit → SSt → Option Y
  put : (R : Type) → Y → (Exit → SSt → Option R) → Option R
  law : ∀ e s y, get e s = some y → ∀ (R : Type) (k : Exit → SSt → Option R) (r : R), put R y k = some r → ∃ s', k e s' = some r ∧ GSt s'.toSt s.toSt
def one {X : Type} (e0 : Exit) (gh : List Gh) (p : SPat X) : OPat X where
  get e s := if sameE e e0 = true then p.get (Gh.runs gh s) else none
  put R y k := k e0 (p.put y)
  law e s y h R k r hk := by
    split at h
    · rename_i he
      have := sameE_eq he
      subst this
      exact ⟨_, hk, (p.le _ _ h).gst.trans (Gh.runs_le gh s)⟩
    · cases h
def orL {A B : Type} (x : Option A) (y : Option B) : Option (A ⊕ B) :=
  match x with
  | some a => some (.inl a)
  | none => match y with
    | some b => some (.inr b)
    | none => none
def sumK {A B C : Type} (x : A ⊕ B) (f : A → C) (g : B → C) : C := match x with | .inl a => f a | .inr b => g b
def two {A B : Type} (p : OPat A) (q : OPat B) : OPat (A ⊕ B) where
  get e s := orL (p.get e s) (q.get e s)
  put R y k := sumK y (fun x => p.put R x k) (fun x => q.put R x k)
  law e s y h R k r hk := by
    unfold orL at h
    split at h
    · rename_i a ha; cases h; exact p.law e s a ha R k r hk
    · split at h
      · rename_i b hb; cases h; exact q.law e s b hb R k r hk
      · cases h

/-! ### Code -/
/-- What is told of the loops of a code. -/
inductive AT : Type 1 where
  | leaf
  | node (a b : AT)
  | loop (X Y : Type) (inp : SPat X) (gh : List Gh) (outs : OPat Y) (L : X → Option Y)
def AT.l : AT → AT
  | .node a _ => a
  | _ => .leaf
def AT.r : AT → AT
  | .node _ b => b
  | _ => .leaf
def bnd {A B : Type} (x : Option A) (f : A → Option B) : Option B := x.bind f
def thenK {R : Type} (k1 : SSt → Option R) (k : Exit → SSt → Option R) : Exit → SSt → Option R := fun e s => match e with
  | .normal => k1 s
  | e => k e s
def blockK {R : Type} (i : Nat) (k : Exit → SSt → Option R) : Exit → SSt → Option R := fun e s => match e with
  | .exit j => if j = i then k .normal s else k (.exit j) s
  | e => k e s
def noGoto {R : Type} (k : Exit → SSt → Option R) : Exit → SSt → Option R := fun e s => match e with
  | .goto _ => none
  | e => k e s
def scopeK {R : Type} (c : Code) (kr : Code → SSt → Option R) (k : Exit → SSt → Option R) : Exit → SSt → Option R := fun e s => match e with
  | .goto l => match findLabel c l with
    | some rest => kr rest s
    | none => none
  | e => k e s
def loopK {R : Type} (X Y : Type) (inp : SPat X) (gh : List Gh) (outs : OPat Y) (L : X → Option Y) (s : SSt) (k : Exit → SSt → Option R) : Option R :=
  match inp.get (Gh.runs gh s) with
  | some x => bnd (L x) fun y => outs.put R y k
  | none => none
def codeK {R : Type} (P : Program) (ck : CallK) (fl : FuncId → Bool) : Nat → AT → Code → SSt → (Exit → SSt → Option R) → Option R
  | 0, _, _, _, _ => none
  | n + 1, t, c, s, k => match c with
    | .skip => k .normal s
    | .label _ => k .normal s
    | .exit i => k (.exit i) s
    | .ret => k .ret s
    | .goto l => k (.goto l) s
    | .seq a b => codeK P ck fl n t.l a s (thenK (fun s' => codeK P ck fl n t.r b s' k) k)
    | .cond c a b => match s.ev c with
      | some (.d (.v (.bool true))) => codeK P ck fl n t.l a s k
      | some (.d (.v (.bool false))) => codeK P ck fl n t.r b s k
      | some (.b x) => cond x (codeK P ck fl n t.l a (s.knowO c true) k) (codeK P ck fl n t.r b (s.knowO c false) k)
      | _ => none
    | .block i c => codeK P ck fl n t.l c s (blockK i k)
    | .scope c => codeK P ck fl n t.l c s (scopeK c (fun rest s' => codeK P ck fl n t.r rest s' (noGoto k)) k)
    | .loop c => match t with
      | .loop X Y inp gh outs L => loopK X Y inp gh outs L s k
      | t => codeK P ck fl n t.l c s (thenK (fun s' => codeK P ck fl n t (.loop c) s' k) k)
    | .region _ ops draw => regK P ck fl ops draw s (k .normal)
    | _ => none
def LoopOk (P : Program) (X Y : Type) (inp : SPat X) (outs : OPat Y) (L : X → Option Y) (c : Code) : Prop :=
  ∀ x y, L x = some y → ∀ (R : Type) (k : Exit → SSt → Option R) (r : R), outs.put R y k = some r → ∃ e s', k e s' = some r ∧
    ∀ (cx : Ctx) (m : Nat → Value) (a : Act) (w : World) (Q : Exit → Act → World → Prop), (∀ m' a' w', SRep cx m' s'.toSt a' w' → Q e a' w') → SRep cx m (inp.put x).toSt a w → LoopAt P c Q a w
def TreeOk (P : Program) : AT → Code → Prop
  | .leaf, _ => True
  | .node a b, c => match c with
    | .seq x y => TreeOk P a x ∧ TreeOk P b y
    | .cond _ x y => TreeOk P a x ∧ TreeOk P b y
    | .block _ c => TreeOk P a c
    | .scope c => TreeOk P a c ∧ ∀ l rest, findLabel c l = some rest → TreeOk P b rest
    | .loop c => TreeOk P a c
    | _ => True
  | .loop X Y inp gh outs L, c => match c with
    | .loop c => LoopOk P X Y inp outs L c
    | _ => False
theorem codeK_ok {R : Type} {P : Program} (hm : P.follows .mixedOrders = true) {ck : CallK} (hck : CallOk P ck) {fl : FuncId → Bool} : ∀ n,
    (∀ (t : AT) (c : Code) (s : SSt) (k : Exit → SSt → Option R) (r : R), TreeOk P t c → codeK P ck fl n t c s k = some r → ∃ e s', k e s' = some r ∧ ∀ Q : Exit → St → Prop, Q e s'.toSt → AWp P c Q s.toSt) ∧
    (∀ (t : AT) (c : Code) (s : SSt) (k : Exit → SSt → Option R) (r : R), TreeOk P t (.loop c) → codeK P ck fl n t (.loop c) s k = some r → ∃ e s', k e s' = some r ∧
      ∀ (cx : Ctx) (m : Nat → Value) (a : Act) (w : World) (Q : Exit → Act → World → Prop), (∀ m' a' w', SRep cx m' s'.toSt a' w' → Q e a' w') → SRep cx m s.toSt a w → LoopAt P c Q a w) := by
  intro n
  induction n with
  | zero => exact ⟨fun t c s k r _ h => by simp [codeK] at h, fun t c s k r _ h => by simp [codeK] at h⟩
  | succ n ih =>
    obtain ⟨ih1, ih2⟩ := ih
    have loop : ∀ (t : AT) (c : Code) (s : SSt) (k : Exit → SSt → Option R) (r : R), TreeOk P t (.loop c) → codeK P ck fl (n + 1) t (.loop c) s k = some r → ∃ e s', k e s' = some r ∧
      ∀ (cx : Ctx) (m : Nat → Value) (a : Act) (w : World) (Q : Exit → Act → World → Prop), (∀ m' a' w', SRep cx m' s'.toSt a' w' → Q e a' w') → SRep cx m s.toSt a w → LoopAt P c Q a w := by
      intro t c s k r ht h
      have unroll : TreeOk P t.l c → codeK P ck fl n t.l c s (thenK (fun s' => codeK P ck fl n t (.loop c) s' k) k) = some r → ∃ e s', k e s' = some r ∧
        ∀ (cx : Ctx) (m : Nat → Value) (a : Act) (w : World) (Q : Exit → Act → World → Prop), (∀ m' a' w', SRep cx m' s'.toSt a' w' → Q e a' w') → SRep cx m s.toSt a w → LoopAt P c Q a w := by
        intro htl h
        obtain ⟨e, s1, h1, h2⟩ := ih1 _ _ _ _ _ htl h
        cases e with
        | normal =>
          simp only [thenK] at h1
          obtain ⟨e', s', h3, h4⟩ := ih2 _ _ _ _ _ ht h1
          refine ⟨e', s', h3, fun cx m a w Q hQ hr => ?_⟩
          have := h2 (fun e s2 => e = .normal ∧ s2 = s1.toSt) ⟨rfl, rfl⟩ cx m a w hr
          refine loopAt_step (Code.wp_mono ?_ this)
          rintro e' a' w' ⟨s2, m', ⟨rfl, rfl⟩, hr'⟩
          exact h4 cx m' a' w' Q hQ hr'
        | _ =>
          refine ⟨_, s1, h1, fun cx m a w Q hQ hr => ?_⟩
          have := h2 (fun e s2 => e = _ ∧ s2 = s1.toSt) ⟨rfl, rfl⟩ cx m a w hr
          refine loopAt_step (Code.wp_mono ?_ this)
          rintro e' a' w' ⟨s2, m', ⟨rfl, rfl⟩, hr'⟩
          exact hQ m' a' w' hr'
      cases t with
      | leaf => exact unroll trivial (by simpa only [codeK] using h)
      | node a b => exact unroll ht (by simpa only [codeK] using h)
      | loop X Y inp gh outs L =>
        simp only [codeK, loopK] at h
        split at h
        · rename_i x hx
          unfold bnd at h
          obtain ⟨y, hy, hk⟩ := Option.bind_eq_some_iff.1 h
          obtain ⟨e, s', h1, h2⟩ := ht x y hy R k r hk
          refine ⟨e, s', h1, fun cx m a w Q hQ hr => ?_⟩
          obtain ⟨m', hr'⟩ := ((inp.le _ _ hx).gst.trans (Gh.runs_le gh s)) cx m a w hr
          exact h2 cx m' a w Q hQ hr'
        · cases h
    refine ⟨?_, loop⟩
    intro t c s k r ht h
    have tl : ∀ {x y : Code}, (∀ a b, t = .node a b → TreeOk P a x) → (∀ X Y inp gh outs L, t ≠ .loop X Y inp gh outs L) → TreeOk P t.l x := by
      intro x y h1 h2
      cases t with
      | leaf => trivial
      | node a b => exact h1 a b rfl
      | loop X Y inp gh outs L => exact absurd rfl (h2 X Y inp gh outs L)
    have tr : ∀ {x : Code}, (∀ a b, t = .node a b → TreeOk P b x) → (∀ X Y inp gh outs L, t ≠ .loop X Y inp gh outs L) → TreeOk P t.r x := by
      intro x h1 h2
      cases t with
      | leaf => trivial
      | node a b => exact h1 a b rfl
      | loop X Y inp gh outs L => exact absurd rfl (h2 X Y inp gh outs L)
    cases c with
    | skip => exact ⟨_, s, h, fun Q hq => awp_skip hq⟩
    | label l => exact ⟨_, s, h, fun Q hq => awp_label hq⟩
    | exit i => exact ⟨_, s, h, fun Q hq => awp_exit hq⟩
    | ret => exact ⟨_, s, h, fun Q hq => awp_ret hq⟩
    | goto l => exact ⟨_, s, h, fun Q hq => awp_goto hq⟩
    | seq x y =>
      have hne : ∀ X Y inp gh outs L, t ≠ .loop X Y inp gh outs L := by rintro X Y inp gh outs L rfl; exact ht
      have h1 := tl (x := x) (y := y) (fun a b e => by subst e; exact ht.1) hne
      have h2 := tr (x := y) (fun a b e => by subst e; exact ht.2) hne
      simp only [codeK] at h
      obtain ⟨e, s1, h3, h4⟩ := ih1 _ _ _ _ _ h1 h
      cases e with
      | normal =>
        simp only [thenK] at h3
        obtain ⟨e', s', h5, h6⟩ := ih1 _ _ _ _ _ h2 h3
        exact ⟨e', s', h5, fun Q hq => awp_seq (h4 _ (h6 Q hq))⟩
      | _ => exact ⟨_, s1, h3, fun Q hq => awp_seq (h4 _ hq)⟩
    | cond x a b =>
      have hne : ∀ X Y inp gh outs L, t ≠ .loop X Y inp gh outs L := by rintro X Y inp gh outs L rfl; exact ht
      have h1 := tl (x := a) (y := b) (fun a b e => by subst e; exact ht.1) hne
      have h2 := tr (x := b) (fun a b e => by subst e; exact ht.2) hne
      simp only [codeK] at h
      split at h
      · rename_i hx
        obtain ⟨e, s', h3, h4⟩ := ih1 _ _ _ _ _ h1 h
        exact ⟨e, s', h3, fun Q hq => awp_cond_true (by simpa only [SV.toAV] using SSt.ev_img hx) (h4 Q hq)⟩
      · rename_i hx
        obtain ⟨e, s', h3, h4⟩ := ih1 _ _ _ _ _ h2 h
        exact ⟨e, s', h3, fun Q hq => awp_cond_false (by simpa only [SV.toAV] using SSt.ev_img hx) (h4 Q hq)⟩
      · rename_i z hx
        cases z with
        | true =>
          obtain ⟨e, s', h3, h4⟩ := ih1 _ _ _ _ _ h1 h
          rw [knowO_img hx] at h4
          exact ⟨e, s', h3, fun Q hq => awp_cond_true (by simpa only [SV.toAV] using SSt.ev_img hx) (h4 Q hq)⟩
        | false =>
          obtain ⟨e, s', h3, h4⟩ := ih1 _ _ _ _ _ h2 h
          rw [knowO_img hx] at h4
          exact ⟨e, s', h3, fun Q hq => awp_cond_false (by simpa only [SV.toAV] using SSt.ev_img hx) (h4 Q hq)⟩
      · cases h
    | block i c =>
      have hne : ∀ X Y inp gh outs L, t ≠ .loop X Y inp gh outs L := by rintro X Y inp gh outs L rfl; exact ht
      have h1 := tl (x := c) (y := c) (fun a b e => by subst e; exact ht) hne
      simp only [codeK] at h
      obtain ⟨e, s1, h3, h4⟩ := ih1 _ _ _ _ _ h1 h
      cases e with
      | exit j =>
        simp only [blockK] at h3
        split at h3
        · rename_i e; exact ⟨_, s1, h3, fun Q hq => awp_block (h4 _ (by simp only [Xblock]; rw [if_pos e]; exact hq))⟩
        · rename_i e; exact ⟨_, s1, h3, fun Q hq => awp_block (h4 _ (by simp only [Xblock]; rw [if_neg e]; exact hq))⟩
      | _ => exact ⟨_, s1, h3, fun Q hq => awp_block (h4 _ hq)⟩
    | scope c =>
      have hne : ∀ X Y inp gh outs L, t ≠ .loop X Y inp gh outs L := by rintro X Y inp gh outs L rfl; exact ht
      have h1 := tl (x := c) (y := c) (fun a b e => by subst e; exact ht.1) hne
      simp only [codeK] at h
      obtain ⟨e, s1, h3, h4⟩ := ih1 _ _ _ _ _ h1 h
      cases e with
      | goto l =>
        simp only [scopeK] at h3
        split at h3
        · rename_i rest hf
          have h2 := tr (x := rest) (fun a b e => by subst e; exact ht.2 l rest hf) hne
          obtain ⟨e', s', h5, h6⟩ := ih1 _ _ _ _ _ h2 h3
          cases e' with
          | goto l' => simp [noGoto] at h5
          | _ => exact ⟨_, s', h5, fun Q hq => awp_scope_fwd l hf (h4 _ ⟨rfl, h6 _ hq⟩)⟩
        · cases h3
      | _ => exact ⟨_, s1, h3, fun Q hq => awp_scope (h4 _ hq)⟩
    | loop c =>
      obtain ⟨e, s', h1, h2⟩ := loop t c s k r ht h
      refine ⟨e, s', h1, fun Q hq cx m a w hr => ?_⟩
      exact loopAt_of (h2 cx m a w _ (fun m' a' w' hr' => ⟨s'.toSt, m', hq, hr'⟩) hr)
    | region id ops draw =>
      simp only [codeK] at h
      obtain ⟨s', h1, h2⟩ := regK_ok (id := id) hm hck h
      exact ⟨_, s', h1, h2⟩
    | rangeFunc f ps a b => simp [codeK] at h
    | refuse w => simp [codeK] at h

/-- A round of a loop. -/
def roundK {X Y : Type} (inp : SPat X) (gh : List Gh) (outs : OPat Y) (L : X → Option Y) : Exit → SSt → Option Y := fun e s => match e with
  | .normal => match inp.get (Gh.runs gh s) with
    | some x => L x
    | none => none
  | e => outs.get e s
theorem loop_ok {P : Program} (hm : P.follows .mixedOrders = true) {ck : CallK} (hck : CallOk P ck) {fl : FuncId → Bool} {X Y : Type} {inp : SPat X} {gh : List Gh} {outs : OPat Y} (L : Nat → X → Option Y) {N : Nat} {t : AT} {c : Code} (ht : TreeOk P t c)
    (h0 : ∀ x, L 0 x = none) (hs : ∀ n x, L (n + 1) x = codeK P ck fl N t c (inp.put x) (roundK inp gh outs (L n))) : ∀ n, LoopOk P X Y inp outs (L n) c := by
  intro n
  induction n with
  | zero => intro x y h; rw [h0] at h; cases h
  | succ n ih =>
    intro x y h R k r hk
    rw [hs] at h
    obtain ⟨e, s1, h1, h2⟩ := (codeK_ok hm hck N).1 _ _ _ _ _ ht h
    cases e with
    | normal =>
      simp only [roundK] at h1
      split at h1
      · rename_i x' hx
        obtain ⟨e, s', h3, h4⟩ := ih x' y h1 R k r hk
        refine ⟨e, s', h3, fun cx m a w Q hQ hr => ?_⟩
        have := h2 (fun e s2 => e = .normal ∧ s2 = s1.toSt) ⟨rfl, rfl⟩ cx m a w hr
        refine loopAt_step (Code.wp_mono ?_ this)
        rintro e' a' w' ⟨s2, m', ⟨rfl, rfl⟩, hr'⟩
        obtain ⟨m2, hr2⟩ := ((inp.le _ _ hx).gst.trans (Gh.runs_le gh s1)) cx m' a' w' hr'
        exact h4 cx m2 a' w' Q hQ hr2
      · cases h1
    | _ =>
      obtain ⟨s', h3, h4⟩ := outs.law _ _ _ h1 R k r hk
      refine ⟨_, s', h3, fun cx m a w Q hQ hr => ?_⟩
      have := h2 (fun e s2 => e = _ ∧ s2 = s1.toSt) ⟨rfl, rfl⟩ cx m a w hr
      refine loopAt_step (Code.wp_mono ?_ this)
      rintro e' a' w' ⟨s2, m', ⟨rfl, rfl⟩, hr'⟩
      obtain ⟨m2, hr2⟩ := h4 cx m' a' w' hr'
      exact hQ m2 a' w' hr2

/-! ### Functions -/
def resOneS (P : Program) (s : SSt) : ResultVar → Option SV
  | .tmp t => gt t s.tm
  | .cell t ty => match gt t s.tm with
    | some v => match loadS P s ty v with
      | some (true, u) => some u
      | _ => none
    | none => none
def resAllS (P : Program) (s : SSt) : List ResultVar → Option (List SV)
  | [] => some []
  | x :: l => match resOneS P s x, resAllS P s l with
    | some v, some r => some (v :: r)
    | _, _ => none
def resS (P : Program) (s : SSt) (l : List ResultVar) : Option SV :=
  match resAllS P s l with
  | some [v] => some v
  | some vs => some (.tup vs)
  | none => none
/-- The same, or data that are told in another way. -/
def AStr (u v : AV) : Prop := u = v ∨ (keysV u = [] ∧ keysV v = [] ∧ AVLe u v)
theorem keysVs_d : ∀ ds : List D, keysVs (ds.map .d) = []
  | [] => rfl
  | d :: l => by simp only [List.map_cons, keysVs, keysV, keysVs_d l, List.nil_append]
mutual
theorem dat_keys : ∀ (v : SV) (x : D), v.dat = some x → keysV v.toAV = []
  | .d y, x, h => by simp only [SV.toAV, keysV]
  | .i k y, x, h => by simp only [SV.toAV, keysV]
  | .b y, x, h => by simp only [SV.toAV, keysV]
  | .s y, x, h => by simp only [SV.toAV, keysV]
  | .ints k y c, x, h => by simp only [SV.toAV, keysV]
  | .row e y c, x, h => by simp only [SV.toAV, keysV]
  | .agg l, x, h => by
    simp only [SV.dat] at h
    split at h
    · rename_i ds hd; simp only [SV.toAV, keysV, dats_keys l ds hd]
    · cases h
  | .ptr _ _, x, h => by simp [SV.dat] at h
  | .own _, x, h => by simp [SV.dat] at h
  | .pel _ _ _, x, h => by simp [SV.dat] at h
  | .eaddr _, x, h => by simp [SV.dat] at h
  | .tup _, x, h => by simp [SV.dat] at h
  | .clos _ _, x, h => by simp [SV.dat] at h
  | .wrap _ _, x, h => by simp [SV.dat] at h
  | .bot, x, h => by simp [SV.dat] at h
theorem dats_keys : ∀ (l : List SV) (ds : List D), SV.dats l = some ds → keysVs (SV.toAVs l) = []
  | [], ds, h => rfl
  | v :: l, ds, h => by
    simp only [SV.dats] at h
    split at h
    · rename_i d ds' h1 h2; simp only [SV.toAVs, keysVs, dat_keys v d h1, dats_keys l ds' h2, List.nil_append]
    · cases h
end
mutual
theorem renV_id (f : Nat → Option Nat) : ∀ v : AV, keysV v = [] → renV f v = v
  | .d x, _ => by simp only [renV]
  | .ptr κ o, h => by simp [keysV] at h
  | .own κ, h => by simp [keysV] at h
  | .pel κ o, h => by simp [keysV] at h
  | .eaddr x, _ => by simp only [renV]
  | .agg l, h => by simp only [keysV] at h; simp only [renV, renVs_id f l h]
  | .tup l, h => by simp only [keysV] at h; simp only [renV, renVs_id f l h]
  | .clos g l, h => by simp only [keysV] at h; simp only [renV, renVs_id f l h]
  | .wrap k v, h => by simp only [keysV] at h; simp only [renV, renV_id f v h]
  | .bot, _ => by simp only [renV]
theorem renVs_id (f : Nat → Option Nat) : ∀ l : List AV, keysVs l = [] → renVs f l = l
  | [], _ => rfl
  | v :: l, h => by
    simp only [keysVs, List.append_eq_nil_iff] at h
    simp only [renVs, renV_id f v h.1, renVs_id f l h.2]
end
theorem AStr.ren {u v : AV} (h : AStr u v) (f : Nat → Option Nat) : AVLe (renV f u) (renV f v) := by
  rcases h with rfl | ⟨h1, h2, h3⟩
  · exact AVLe.refl _
  · rw [renV_id f u h1, renV_id f v h2]; exact h3
theorem AStr.keys {u v : AV} (h : AStr u v) : keysV u = keysV v := by
  rcases h with rfl | ⟨h1, h2, _⟩
  · rfl
  · rw [h1, h2]
theorem mkAgg_str (cs : List AV) : AStr (mkAgg cs) (.agg cs) := by
  cases h : allD cs with
  | none => left; simp only [mkAgg, h]
  | some ds =>
    right
    refine ⟨by simp only [mkAgg, h, keysV], ?_, mkAgg_le cs⟩
    rw [allD_map h]; simp only [keysV, keysVs_d]
theorem sub_str (cs : List SV) (o n : Nat) : AStr (mkAgg (((SV.toAVs cs).drop o).take n)) (SV.agg ((cs.drop o).take n)).toAV := by
  simp only [SV.toAV, toAVs_take, toAVs_drop]; exact mkAgg_str _
theorem loadS_str {P : Program} {s : SSt} {t : TypeId} {x : SV} {v : SV} (h : loadS P s t x = some (true, v)) : ∃ u, loadV P s.toSt t x.toAV = some u ∧ AStr u v.toAV := by
  obtain ⟨u0, h1, h2⟩ := loadS_sound h rfl
  unfold loadS at h
  split at h
  · rename_i κ off
    split at h
    · rename_i e cs hB
      have hB := gt_hp hB
      simp only [SB.toB] at hB
      split at h
      · rename_i ha
        split at h
        · rename_i n hn
          split at h
          · rename_i hle
            cases h
            exact ⟨_, by simp only [SV.toAV, loadV, hB, ha, hn, toAVs_len, if_pos hle], sub_str cs off n⟩
          · cases h
        · cases h
      · rename_i ha
        exact ⟨_, by simp only [SV.toAV, loadV, hB, ha]; exact part1_sound h, .inl rfl⟩
      · cases h
    · cases h
  · rename_i κ z n
    refine ⟨u0, h1, .inr ⟨?_, ?_, h2⟩⟩
    · simp only [SV.toAV, loadV] at h1
      split at h1
      · split at h1
        · obtain ⟨y, _, rfl⟩ := Option.map_eq_some_iff.1 h1; simp only [keysV]
        · cases h1
      · split at h1
        · split at h1
          · split at h1
            · cases h1; simp only [keysV]
            · cases h1
          · cases h1
        · cases h1
      · cases h1
    · split at h
      · split at h
        · simp only [Option.some.injEq, Prod.mk.injEq] at h; obtain ⟨_, rfl⟩ := h; simp only [SV.toAV, keysV]
        · cases h
      · split at h
        · simp only [Option.some.injEq, Prod.mk.injEq] at h; obtain ⟨_, rfl⟩ := h; exact dat_keys _ _ (Sh.sv_dat _ _)
        · cases h
      · cases h
  · split at h
    · rename_i y hy
      split at h
      · rename_i hc
        cases h
        exact ⟨.d y, by simp only [SV.toAV, hy, loadV, if_pos hc], .inr ⟨by simp only [keysV], dat_keys _ _ hy, SV.dat_ge _ _ hy⟩⟩
      · cases h
    · cases h
  · cases h
theorem resOneS_img {P : Program} {s : SSt} {x : ResultVar} {v : SV} (h : resOneS P s x = some v) : ∃ u, resOne P s.toSt x = some u ∧ AStr u v.toAV := by
  unfold resOneS at h
  split at h
  · exact ⟨_, by simp only [resOne, SSt.toSt, gt_mapk, h, Option.map_some], .inl rfl⟩
  · split at h
    · rename_i u hu
      split at h
      · rename_i w hw
        cases h
        have := loadS_str hw
        simpa only [resOne, SSt.toSt, gt_mapk, hu, Option.map_some, obind_some] using this
      · cases h
    · cases h
def AStrs : List AV → List AV → Prop
  | [], [] => True
  | u :: l, v :: l' => AStr u v ∧ AStrs l l'
  | _, _ => False
theorem AStrs.keys : ∀ {l l' : List AV}, AStrs l l' → keysVs l = keysVs l'
  | [], [], _ => rfl
  | u :: l, v :: l', h => by simp only [keysVs, h.1.keys, AStrs.keys h.2]
  | [], _ :: _, h => h.elim
  | _ :: _, [], h => h.elim
theorem AStrs.ren (f : Nat → Option Nat) : ∀ {l l' : List AV}, AStrs l l' → RepsLe (renVs f l) (renVs f l')
  | [], [], _ => fun w F m us hr => hr
  | u :: l, v :: l', h => by
    intro w F m us hr
    simp only [renVs, RepVs] at hr ⊢
    obtain ⟨z, rest, e, r1, r2⟩ := hr
    exact ⟨z, rest, e, h.1.ren f w F m z r1, AStrs.ren f h.2 w F m rest r2⟩
  | [], _ :: _, h => h.elim
  | _ :: _, [], h => h.elim
theorem resAllS_img {P : Program} {s : SSt} : ∀ {l : List ResultVar} {vs : List SV}, resAllS P s l = some vs → ∃ us, resAll P s.toSt l = some us ∧ AStrs us (SV.toAVs vs)
  | [], vs, h => by simp only [resAllS] at h; cases h; exact ⟨[], rfl, trivial⟩
  | x :: l, vs, h => by
    simp only [resAllS] at h
    split at h
    · rename_i v r h1 h2
      cases h
      obtain ⟨u, h3, h4⟩ := resOneS_img h1
      obtain ⟨us, h5, h6⟩ := resAllS_img h2
      exact ⟨u :: us, by simp only [resAll, h3, h5], h4, h6⟩
    · cases h
theorem resS_img {P : Program} {s : SSt} {l : List ResultVar} {v : SV} (h : resS P s l = some v) : ∃ u, resA P s.toSt l = some u ∧ keysV u = keysV v.toAV ∧ ∀ f, AVLe (renV f u) (renV f v.toAV) := by
  unfold resS at h
  split at h
  · rename_i u hu
    cases h
    obtain ⟨us, h1, h2⟩ := resAllS_img hu
    cases us with
    | nil => exact h2.elim
    | cons x us =>
      cases us with
      | nil => exact ⟨x, by simp only [resA, h1], h2.1.keys, fun f => h2.1.ren f⟩
      | cons y us => exact h2.2.elim
  · rename_i vs hne hv
    cases h
    obtain ⟨us, h1, h2⟩ := resAllS_img hv
    refine ⟨.tup us, ?_, by simp only [SV.toAV, keysV, h2.keys], fun f => ?_⟩
    · unfold resA
      rw [h1]
      split
      · rename_i x e
        simp only [Option.some.injEq] at e
        subst e
        exfalso
        cases vs with
        | nil => exact h2.elim
        | cons y ys =>
          cases ys with
          | nil => exact hne y rfl
          | cons z ys => exact h2.2.elim
      · rename_i e; simp only [Option.some.injEq] at e; rw [e]
      · rename_i e; cases e
    · intro w F m z hr
      simp only [SV.toAV, renV, RepV] at hr ⊢
      obtain ⟨zs, rfl, r1⟩ := hr
      exact ⟨zs, rfl, h2.ren f w F m zs r1⟩
  · cases h
/-- What a function hands back. -/
def doneS (s' : SSt) (n : Nat) (r : SV) : Option (SV × List SB) :=
  let ks := List.range n ++ (reachK s'.toSt.hp 64 (List.range n ++ keysV r.toAV) []).filter fun κ => decide (n ≤ κ)
  if nodupB ks then match pickBS (posOf · ks) s'.hp ks with
    | some bs => some (renS (posOf · ks) r, bs)
    | none => none
  else none
def tmFromS (i : Nat) : List SV → List (Nat × SV)
  | [] => []
  | v :: l => (i, v) :: tmFromS (i + 1) l
theorem tmFromS_img : ∀ (l : List SV) (i : Nat), mapk SV.toAV (tmFromS i l) = tmFrom i (SV.toAVs l)
  | [], i => rfl
  | v :: l, i => by simp only [tmFromS, mapk, SV.toAVs, tmFrom, tmFromS_img l (i + 1)]
def hpFromS (i : Nat) : List SB → List (Nat × SB)
  | [] => []
  | B :: l => (i, B) :: hpFromS (i + 1) l
theorem hpFromS_img : ∀ (l : List SB) (i : Nat), mapk SB.toB (hpFromS i l) = hpFrom i (l.map SB.toB)
  | [], i => rfl
  | v :: l, i => by simp only [hpFromS, mapk, List.map_cons, hpFrom, hpFromS_img l (i + 1)]
def retK {R : Type} (P : Program) (res : List ResultVar) (n : Nat) (k : SV → List SB → Option R) (s : SSt) : Option R :=
  match resS P s res with
  | some v => match doneS s n v with
    | some (r, BS) => k r BS
    | none => none
  | none => none
def endK {R : Type} (P : Program) (res : List ResultVar) (n : Nat) (k : SV → List SB → Option R) : Exit → SSt → Option R := fun e s => match e with
  | .ret => retK P res n k s
  | .normal => retK P res n k s
  | _ => none
def funK {R : Type} (P : Program) (ck : CallK) (fl : FuncId → Bool) (N : Nat) (t : AT) (f : FuncId) (vs : List SV) (hs : List SB) (k : SV → List SB → Option R) : Option R :=
  match P.funcs[f]? with
  | some fn => match fn.body with
    | some c => if decide (vs.length ≤ fn.ntmps) = true then codeK P ck fl N t c ⟨fn.ntmps, tmFromS 0 vs, hpFromS 0 hs⟩ (endK P fn.results.toList hs.length k) else none
    | none => none
  | none => none
/-- Less is said of what a function hands back. -/
theorem ACall.back {P : Program} {f : FuncId} {vs : List AV} {hs : List Blk} {Post : AV → List Blk → Prop} {Post' : AV → List Blk → Prop} (h : ACall P f vs hs Post) (hp : ∀ r hs', Post r hs' → ∃ r' hs'', Post' r' hs'' ∧ AVLe r r' ∧ BsLe hs' hs'') : ACall P f vs hs Post' := by
  intro cx m us w hr hu hpn
  refine (h cx m us w hr hu hpn).mono ?_
  rintro e w' ⟨u, m', r, hs', he, hP, hl, h1, h2⟩
  obtain ⟨r', hs'', h3, h4, h5⟩ := hp r hs' hP
  exact ⟨u, m', r', hs'', he, h3, by rw [← h5.len]; exact hl, le_bare h5 _ _ _ _ h1, by rw [← forb_le h5]; exact h4 _ _ _ _ h2⟩
theorem BsLe.refl : ∀ l : List Blk, BsLe l l
  | [] => trivial
  | B :: l => ⟨BLe.refl B, BsLe.refl l⟩
theorem retK_ok {R : Type} {P : Program} {s : SSt} {res : List ResultVar} {n : Nat} {k : SV → List SB → Option R} {r : R} {e : Exit} (he : e = .ret ∨ e = .normal) (h : retK P res n k s = some r) :
    ∃ v BS, n ≤ BS.length ∧ k v BS = some r ∧ FPost P res n (fun r' hs' => ∃ u, r' = u ∧ AVLe u v.toAV ∧ hs' = BS.map SB.toB) e s.toSt := by
  unfold retK at h
  split at h
  · rename_i v hv
    split at h
    · rename_i R' BS hd
      obtain ⟨u, h1, h2, h3⟩ := resS_img hv
      unfold doneS at hd
      simp only at hd
      split at hd
      · rename_i hn
        split at hd
        · rename_i bs hb
          simp only [Option.some.injEq, Prod.mk.injEq] at hd
          obtain ⟨rfl, rfl⟩ := hd
          have hb' := pickBS_img hb
          have hl := (pickB_get hb').1
          refine ⟨_, _, ?_, h, fret _ he ?_ (by simp) (nodupB_get hn) hb' h1 ⟨_, rfl, ?_, rfl⟩⟩
          · simp only [List.length_map, List.length_append, List.length_range] at hl; omega
          · rw [List.take_append_of_le_length (by simp), List.take_of_length_le (by simp)]
          · rw [renS_img]; exact h3 _
        · cases hd
      · cases hd
    · cases h
  · cases h
theorem funK_ok {R : Type} {P : Program} (hm : P.follows .mixedOrders = true) {ck : CallK} (hck : CallOk P ck) {fl : FuncId → Bool} {N : Nat} {t : AT} {f : FuncId} {vs : List SV} {hs : List SB} {k : SV → List SB → Option R} {r : R}
    (ht : ∀ fn c, P.funcs[f]? = some fn → fn.body = some c → TreeOk P t c) (h : funK P ck fl N t f vs hs k = some r) : ∃ v BS, hs.length ≤ BS.length ∧ (ACall P f (SV.toAVs vs) (hs.map SB.toB) fun r' hs' => r' = v.toAV ∧ hs' = BS.map SB.toB) ∧ k v BS = some r := by
  unfold funK at h
  split at h
  · rename_i fn hfn
    split at h
    · rename_i c hc
      split at h
      · rename_i hle
        obtain ⟨e, s', h1, h2⟩ := (codeK_ok hm hck N).1 _ _ _ _ _ (ht fn c hfn hc) h
        have key : ∀ (he : e = .ret ∨ e = .normal), retK P fn.results.toList hs.length k s' = some r → ∃ v BS, hs.length ≤ BS.length ∧ (ACall P f (SV.toAVs vs) (hs.map SB.toB) fun r' hs' => r' = v.toAV ∧ hs' = BS.map SB.toB) ∧ k v BS = some r := by
          intro he hret
          obtain ⟨v, BS, h3, h4, h5⟩ := retK_ok he hret
          refine ⟨v, BS, h3, ?_, h4⟩
          have e1 : (⟨fn.ntmps, tmFromS 0 vs, hpFromS 0 hs⟩ : SSt).toSt = ⟨fn.ntmps, tmFrom 0 (SV.toAVs vs), hpFrom 0 (hs.map SB.toB)⟩ := by
            simp only [SSt.toSt, tmFromS_img, hpFromS_img]
          rw [e1] at h2
          have := acall_body (P := P) (f := f) (vs := SV.toAVs vs) (hs := hs.map SB.toB) hfn hc rfl rfl (by rw [toAVs_len]; simpa using hle) (h2 _ (by rw [List.length_map]; exact h5))
          refine this.back ?_
          rintro r' hs' ⟨u, rfl, hu, rfl⟩
          exact ⟨_, _, ⟨rfl, rfl⟩, hu, BsLe.refl _⟩
        cases e with
        | ret => exact key (.inl rfl) h1
        | normal => exact key (.inr rfl) h1
        | _ => simp [endK] at h1
      · cases h
    · cases h
  · cases h

/-! ### Contracts -/
/-- What a function hands back, that was handed n blocks: how its leaves are got, how it is put together again. -/
structure RPat (n : Nat) (Y : Type) where
  get : SV → List SB → Option Y
  put : (R : Type) → Y → (SV → List SB → Option R) → Option R
  law : ∀ v BS y, get v BS = some y → ∀ (R : Type) (k : SV → List SB → Option R) (r : R), put R y k = some r → ∃ v' BS', k v' BS' = some r ∧
    ∀ (P : Program) (f : FuncId) (vs : List AV) (hs : List Blk), hs.length = n → n ≤ BS.length → (ACall P f vs hs fun r' hs' => r' = v.toAV ∧ hs' = BS.map SB.toB) → n ≤ BS'.length ∧ ACall P f vs hs fun r' hs' => r' = v'.toAV ∧ hs' = BS'.map SB.toB
theorem back_le {P : Program} {f : FuncId} {vs : List AV} {hs : List Blk} {n : Nat} {v v' : SV} {BS BS' : List SB} (hv : AVLe v.toAV v'.toAV) (hb : BsLe (BS.map SB.toB) (BS'.map SB.toB)) (hn : n ≤ BS.length) (h : ACall P f vs hs fun r' hs' => r' = v.toAV ∧ hs' = BS.map SB.toB) :
    n ≤ BS'.length ∧ ACall P f vs hs fun r' hs' => r' = v'.toAV ∧ hs' = BS'.map SB.toB := by
  refine ⟨?_, h.back ?_⟩
  · have := hb.len
    simp only [List.length_map] at this
    omega
  · rintro r' hs' ⟨rfl, rfl⟩
    exact ⟨_, _, ⟨rfl, rfl⟩, hv, hb⟩
theorem datLastS_len : ∀ {k : Nat} {R R' : SV} {BS BS' : List SB}, datLastS k R BS = some (R', BS') → BS'.length = BS.length - k ∧ k ≤ BS.length
  | 0, R, R', BS, BS', h => by simp only [datLastS, Option.some.injEq, Prod.mk.injEq] at h; obtain ⟨rfl, rfl⟩ := h; simp
  | k + 1, R, R', BS, BS', h => by
    simp only [datLastS] at h
    split at h
    · rename_i B hB
      split at h
      · have := datLastS_len h
        simp only [List.length_map, List.length_dropLast] at this
        cases BS with
        | nil => simp at hB
        | cons b l => simp only [List.length_cons] at this ⊢; omega
      · cases h
    · cases h
def rone {A B : Type} (n : Nat) (p : VPat A) (q : BsPat B) : RPat n (A × B) where
  get v BS := bothO (p.get v) (q.get BS)
  put R y k := k (p.put y.1) (q.put y.2)
  law v BS y h R k r hk := by
    obtain ⟨h1, h2⟩ := bothO_some h
    exact ⟨_, _, hk, fun P f vs hs _ hl hc => back_le (p.le _ _ h1) (q.le _ _ h2) hl hc⟩
/-- The same; new rows are data. -/
def rfz {A B : Type} (n : Nat) (p : VPat A) (q : BsPat B) : RPat n (A × B) where
  get v BS := match datLastS (BS.length - n) v BS with
    | some (v', BS') => bothO (p.get v') (q.get BS')
    | none => none
  put R y k := k (p.put y.1) (q.put y.2)
  law v BS y h R k r hk := by
    split at h
    · rename_i v' BS' hd
      obtain ⟨h1, h2⟩ := bothO_some h
      refine ⟨_, _, hk, fun P f vs hs hn hl hc => ?_⟩
      have h3 := acall_datLast (k := BS.length - n) hc (by simp only [List.length_map]; omega) (datLastS_img hd)
      have h4 := datLastS_len hd
      exact back_le (p.le _ _ h1) (q.le _ _ h2) (by omega) h3
    · cases h
def rtwo {n : Nat} {A B : Type} (p : RPat n A) (q : RPat n B) : RPat n (A ⊕ B) where
  get v BS := orL (p.get v BS) (q.get v BS)
  put R y k := sumK y (fun x => p.put R x k) (fun x => q.put R x k)
  law v BS y h R k r hk := by
    unfold orL at h
    split at h
    · rename_i a ha; cases h; exact p.law v BS a ha R k r hk
    · split at h
      · rename_i b hb; cases h; exact q.law v BS b hb R k r hk
      · cases h
structure Con : Type 1 where
  X : Type
  B : Type
  Y : Type
  inV : VsPat X
  inB : BsPat B
  n : Nat
  len : ∀ b, (inB.put b).length = n
  outs : RPat n Y
  F : X → B → Option Y
def ConOk (P : Program) (f : FuncId) (A : Con) : Prop := ∀ x b y, A.F x b = some y → ∀ (R : Type) (k : SV → List SB → Option R) (r : R), A.outs.put R y k = some r →
  ∃ v BS, (A.inB.put b).length ≤ BS.length ∧ (ACall P f (SV.toAVs (A.inV.put x)) ((A.inB.put b).map SB.toB) fun r' hs' => r' = v.toAV ∧ hs' = BS.map SB.toB) ∧ k v BS = some r
theorem con_ok {P : Program} (hm : P.follows .mixedOrders = true) {ck : CallK} (hck : CallOk P ck) {fl : FuncId → Bool} {N : Nat} {t : AT} {f : FuncId} {A : Con}
    (ht : ∀ fn c, P.funcs[f]? = some fn → fn.body = some c → TreeOk P t c) (hF : ∀ x b, A.F x b = funK P ck fl N t f (A.inV.put x) (A.inB.put b) A.outs.get) : ConOk P f A := by
  intro x b y h R k r hk
  rw [hF] at h
  obtain ⟨v, BS, h1, h2, h3⟩ := funK_ok hm hck ht h
  obtain ⟨v', BS', h4, h5⟩ := A.outs.law _ _ _ h3 R k r hk
  rw [A.len] at h1
  obtain ⟨h6, h7⟩ := h5 P f _ _ (by rw [List.length_map]; exact A.len b) h1 h2
  exact ⟨v', BS', by rw [A.len]; exact h6, h7, h4⟩
/-- The code at a place. -/
def sub : List Bool → Code → Code
  | [], c => c
  | d :: l, c => match c with
    | .seq a b => sub l (if d then b else a)
    | .cond _ a b => sub l (if d then b else a)
    | .block _ c => sub l c
    | .scope c => sub l c
    | .loop c => sub l c
    | c => c
def bodyAt (P : Program) (f : FuncId) (l : List Bool) : Code := match P.funcs[f]? with
  | some fn => match fn.body with
    | some c => sub l c
    | none => .skip
  | none => .skip
theorem tree_of {P : Program} {f : FuncId} {t : AT} (h : TreeOk P t (bodyAt P f [])) : ∀ fn c, P.funcs[f]? = some fn → fn.body = some c → TreeOk P t c := by
  intro fn c h1 h2
  unfold bodyAt at h
  rw [h1] at h
  simp only [h2, sub] at h
  exact h
/-- How a call of a function is answered: by a contract, or it is entered. -/
inductive Ent : Type 1 where
  | con (A : Con)
  | inl (t : AT)
def conK {R : Type} (A : Con) (vs : List SV) (hs : List SB) (k : SV → List SB → Option R) (next : Option R) : Option R :=
  match A.inV.get vs with
  | some x => match A.inB.get hs with
    | some b => bnd (A.F x b) fun y => A.outs.put R y k
    | none => next
  | none => next
def findEnt {R : Type} (P : Program) (ck : CallK) (fl : FuncId → Bool) (N : Nat) (f : FuncId) (vs : List SV) (hs : List SB) (k : SV → List SB → Option R) : List (FuncId × Ent) → Option R
  | [] => funK P ck fl N .leaf f vs hs k
  | (g, e) :: l => if g = f then match e with
      | .con A => conK A vs hs k (findEnt P ck fl N f vs hs k l)
      | .inl t => funK P ck fl N t f vs hs k
    else findEnt P ck fl N f vs hs k l
def EntOk (P : Program) (f : FuncId) : Ent → Prop
  | .con A => ConOk P f A
  | .inl t => ∀ fn c, P.funcs[f]? = some fn → fn.body = some c → TreeOk P t c
def TabOk (P : Program) : List (FuncId × Ent) → Prop
  | [] => True
  | (g, e) :: l => EntOk P g e ∧ TabOk P l
theorem findEnt_ok {R : Type} {P : Program} (hm : P.follows .mixedOrders = true) {ck : CallK} (hck : CallOk P ck) {fl : FuncId → Bool} {N : Nat} {f : FuncId} {vs : List SV} {hs : List SB} {k : SV → List SB → Option R} {r : R} :
    ∀ {l : List (FuncId × Ent)}, TabOk P l → findEnt P ck fl N f vs hs k l = some r → ∃ v BS, hs.length ≤ BS.length ∧ (ACall P f (SV.toAVs vs) (hs.map SB.toB) fun r' hs' => r' = v.toAV ∧ hs' = BS.map SB.toB) ∧ k v BS = some r
  | [], _, h => funK_ok hm hck (t := .leaf) (fun _ _ _ _ => trivial) (by simpa only [findEnt] using h)
  | (g, e) :: l, ht, h => by
    simp only [findEnt] at h
    split at h
    · rename_i hg
      subst hg
      cases e with
      | con A =>
        simp only [conK] at h
        split at h
        · rename_i x hx
          split at h
          · rename_i b hb
            unfold bnd at h
            obtain ⟨y, hy, hk⟩ := Option.bind_eq_some_iff.1 h
            obtain ⟨v, BS, h1, h2, h3⟩ := ht.1 x b y hy R k r hk
            have hv := A.inV.le _ _ hx
            have hB := A.inB.le _ _ hb
            refine ⟨v, BS, ?_, h2.le hv hB, h3⟩
            have := hB.len
            simp only [List.length_map] at this
            omega
          · exact findEnt_ok hm hck ht.2 h
        · exact findEnt_ok hm hck ht.2 h
      | inl t => exact funK_ok hm hck ht.1 h
    · exact findEnt_ok hm hck ht.2 h
/-- Calls answered by a table; calls that are entered may call to a depth. -/
def tabK (P : Program) (fl : FuncId → Bool) (N : Nat) (tab : List (FuncId × Ent)) : Nat → CallK
  | 0 => fun _ _ _ _ _ => none
  | d + 1 => fun R f vs hs k => findEnt P (tabK P fl N tab d) fl N f vs hs k tab
theorem tabK_ok {P : Program} (hm : P.follows .mixedOrders = true) {fl : FuncId → Bool} {N : Nat} {tab : List (FuncId × Ent)} (ht : TabOk P tab) : ∀ d, CallOk P (tabK P fl N tab d)
  | 0 => fun R f vs hs k r h => by simp [tabK] at h
  | d + 1 => fun R f vs hs k r h => findEnt_ok hm (tabK_ok hm ht d) ht (by simpa only [tabK] using h)
theorem tabok_nil {P : Program} : TabOk P [] := trivial
theorem tabok_con {P : Program} {f : FuncId} {A : Con} {l : List (FuncId × Ent)} (h : ConOk P f A) (t : TabOk P l) : TabOk P ((f, .con A) :: l) := ⟨h, t⟩
end Go.Proofs.Ytpdbekbobkjfgaa
