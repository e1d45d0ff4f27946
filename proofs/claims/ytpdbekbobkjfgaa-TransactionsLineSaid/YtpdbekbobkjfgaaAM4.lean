/-
  An abstract view of the machine, part 4: the value of an operation that turns nothing.
  Conditions: none; nothing here speaks of one program.
-/
import Derived.Test.YtpdbekbobkjfgaaAM3
namespace Go.Proofs.Ytpdbekbobkjfgaa
open Go.RowKit
set_option linter.unusedVariables false

/-! ### Arithmetic -/
def absBin : BinOp → IntKind → Int → Int → Option Value
  | .add, k, a, b => some (.int k (k.wrap (a + b)))
  | .sub, k, a, b => some (.int k (k.wrap (a - b)))
  | .mul, k, a, b => some (.int k (k.wrap (a * b)))
  | .quo, k, a, b => if b = 0 then none else some (.int k (k.wrap (a.tdiv b)))
  | .rem, k, a, b => if b = 0 then none else some (.int k (a.tmod b))
  | .and, k, a, b => some (.int k (bits .and k a b))
  | .or, k, a, b => some (.int k (bits .or k a b))
  | .xor, k, a, b => some (.int k (bits .xor k a b))
  | .andNot, k, a, b => some (.int k (bits .andNot k a b))
  | .eql, _, a, b => some (.bool (decide (a = b)))
  | .neq, _, a, b => some (.bool (!decide (a = b)))
  | .lss, _, a, b => some (.bool (decide (a < b)))
  | .leq, _, a, b => some (.bool (decide (a ≤ b)))
  | .gtr, _, a, b => some (.bool (decide (b < a)))
  | .geq, _, a, b => some (.bool (decide (b ≤ a)))
  | _, _, _, _ => none
def absShift (op : BinOp) (k : IntKind) (a b : Int) : Option Value :=
  if b < 0 then none else
  match op with
  | .shl => some (.int k (k.wrap (a * 2 ^ (min b.toNat k.bits))))
  | .shr => some (.int k (a.fdiv (2 ^ (min b.toNat k.bits))))
  | _ => none
def absStr (op : BinOp) (a b : ByteArray) : Option Value :=
  match op with
  | .eql => some (.bool (decide (a.toList = b.toList)))
  | .neq => some (.bool (!decide (a.toList = b.toList)))
  | .add => if ((a.size + b.size : Nat) : Int) > IntKind.i64.max then none else some (.string (a ++ b))
  | _ => none
/-- Whether a value that is compared with nil is nil, where that is known. -/
def isNilA : AV → Option Bool
  | .ptr _ _ => some false
  | .pel _ _ => some false
  | .clos _ _ => some false
  | .d (.ints _ (_ :: _) _) => some false
  | .d (.sl _ (_ :: _) _) => some false
  | .d (.v (.pointer none)) => some true
  | .d (.v .nilFunc) => some true
  | .d (.v (.slice none 0 0)) => some true
  | _ => none
def intT (P : Program) (t : TypeId) : Option IntKind := match P.underlying t with | some (.int k) => some k | _ => none
theorem intT_und {P : Program} {t : TypeId} {k : IntKind} (h : intT P t = some k) : P.underlying t = some (.int k) := by
  unfold intT at h
  split at h
  · rename_i k' hu; cases h; exact hu
  · cases h
def boolT (P : Program) (t : TypeId) : Bool := match P.underlying t with | some .bool => true | _ => false
theorem boolT_und {P : Program} {t : TypeId} (h : boolT P t = true) : P.underlying t = some .bool := by
  unfold boolT at h
  split at h
  · assumption
  · cases h
def binV (P : Program) (op : BinOp) (t : TypeId) (x y : AV) : Option AV :=
  match x, y with
  | .d (.v (.int k a)), .d (.v (.int k' b)) =>
    omap (match op with
    | .shl | .shr => absShift op k a b
    | _ => if k = k' then absBin op k a b else none) fun v => .d (.v v)
  | .d (.v (.string a)), .d (.v (.string b)) => omap (absStr op a b) fun v => .d (.v v)
  | .d (.v (.bool a)), .d (.v (.bool b)) =>
    if boolT P t = true then
      (match op with
      | .eql => some (.d (.v (.bool (decide (a = b)))))
      | .neq => some (.d (.v (.bool (!decide (a = b)))))
      | _ => none) else none
  | _, _ => none

/-- Whether data is the nil slice, where that is known. -/
def nilD : D → Option Bool
  | .v (.slice none 0 0) => some true
  | .ints _ (_ :: _) _ => some false
  | .ints _ [] (some (_ + 1)) => some false
  | .sl _ (_ :: _) _ => some false
  | .sl _ [] (some (_ + 1)) => some false
  | _ => none
theorem nilD_rep {w : World} {F : Nat → Prop} {d : D} {u : Value} {b : Bool} (h : RepD w F d u) (hn : nilD d = some b) : ∃ a l c, u = .slice a l c ∧ a.isNone = b := by
  unfold nilD at hn
  split at hn
  · cases hn; simp only [RepD] at h; exact ⟨none, 0, 0, h.1, rfl⟩
  · cases hn
    rename_i k x xs c
    simp only [RepD] at h
    obtain ⟨a, cap, h1, _, _, _, _, h5⟩ := h
    obtain ⟨b, off, rfl, _⟩ := h5 (by simp)
    exact ⟨_, _, _, h1, rfl⟩
  · cases hn
    rename_i k n
    simp only [RepD] at h
    obtain ⟨a, cap, h1, _, _, h4, h5, _⟩ := h
    refine ⟨a, _, cap, h1, ?_⟩
    cases a with
    | none => have := h4 rfl; have := h5 _ rfl; omega
    | some a => rfl
  · cases hn
    rename_i k x xs c
    simp only [RepD] at h
    obtain ⟨a, cap, vals, h1, _, _, h4, h5, h6, h7⟩ := h
    cases vals with
    | cons v vals => obtain ⟨b, off, rfl, _⟩ := h7 (by simp); exact ⟨_, _, _, h1, rfl⟩
    | nil =>
      simp only [RepRow] at h6
      obtain ⟨v, rest, h8, h9, h10, _⟩ := h6
      have e0 : v.cells.toList = [] := by
        cases hv : v.cells.toList with
        | nil => rfl
        | cons a l => rw [hv] at h8; simp at h8
      have : (x :: xs).length ≤ cap := by assumption
      cases a with
      | some a => exact ⟨_, _, _, h1, rfl⟩
      | none => have := h4 rfl; simp at *; omega
  · cases hn
    rename_i k n
    simp only [RepD] at h
    obtain ⟨a, cap, vals, h1, _, _, h4, h5, _⟩ := h
    refine ⟨a, _, cap, h1, ?_⟩
    cases a with
    | none => have := h4 rfl; have := h5 _ rfl; omega
    | some a => rfl
  · cases hn
/-- x compared with nil: whether it is nil. -/
def nilX (P : Program) (t : TypeId) (x y : AV) : Option Bool :=
  match P.underlying t with
  | some (.slice _) => match x, y with
    | .d d, .d (.v (.slice none 0 0)) => nilD d
    | .d (.v (.slice none 0 0)), .d d => nilD d
    | _, _ => none
  | some (.pointer _) => match x, y with
    | .ptr _ _, .d (.v (.pointer none)) => some false
    | .pel _ _, .d (.v (.pointer none)) => some false
    | .eaddr _, .d (.v (.pointer none)) => some false
    | .d (.v (.pointer none)), .d (.v (.pointer none)) => some true
    | _, _ => none
  | some (.func _ _ _) => match x, y with
    | .clos _ _, .d (.v .nilFunc) => some false
    | .d (.v (.func _ _ _)), .d (.v .nilFunc) => some false
    | .d (.v .nilFunc), .d (.v .nilFunc) => some true
    | _, _ => none
  | _ => none
def nilV (P : Program) (op : BinOp) (t : TypeId) (x y : AV) : Option AV :=
  match op with
  | .eql => omap (nilX P t x y) fun b => .d (.v (.bool b))
  | .neq => omap (nilX P t x y) fun b => .d (.v (.bool (!b)))
  | _ => none

theorem int_beq (a b : Int) : (a == b) = decide (a = b) := by by_cases h : a = b <;> simp [h]
theorem int_bne (a b : Int) : (a != b) = !decide (a = b) := by by_cases h : a = b <;> simp [h]

theorem absBin_run {P : Program} {w : World} {op : BinOp} {t : TypeId} {k : IntKind} {a b : Int} {v : Value} (h : absBin op k a b = some v) : (binOp op t (.int k a) (.int k b)).run P w = .ok v w := by
  cases op <;> simp only [absBin, Option.some.injEq] at h <;> (try cases h)
  case quo => split at h <;> simp_all [binOp, Op.intDiv]
  case rem => split at h <;> simp_all [binOp, Op.intDiv]
  case add => simp [binOp, Op.intArith]
  case sub => simp [binOp, Op.intArith]
  case mul => simp [binOp, Op.intArith]
  case and => rw [binOp_and, intBits_and]; simp
  case or => rw [binOp_or, intBits_or]; simp
  case xor => rw [binOp_xor, intBits_xor]; simp
  case andNot => rw [binOp_andNot, intBits_andNot]; simp
  all_goals simp [binOp, Op.intCmp, int_beq, int_bne]

theorem absShift_run {P : Program} {w : World} {op : BinOp} {t : TypeId} {k k' : IntKind} {a b : Int} {v : Value} (h : absShift op k a b = some v) (hop : op = .shl ∨ op = .shr) : (binOp op t (.int k a) (.int k' b)).run P w = .ok v w := by
  unfold absShift at h
  split at h
  · cases h
  · rename_i hb
    rcases hop with rfl | rfl
    · simp only [Option.some.injEq] at h; subst h
      simp [binOp, Op.shift, hb]
    · simp only [Option.some.injEq] at h; subst h
      simp [binOp, Op.shift, hb]

theorem absStr_run {P : Program} {w : World} {op : BinOp} {t : TypeId} {a b : ByteArray} {v : Value} (h : absStr op a b = some v) : (binOp op t (.string a) (.string b)).run P w = .ok v w := by
  have e : (a.toList == b.toList) = decide (a.toList = b.toList) := by by_cases h : a.toList = b.toList <;> simp [h]
  cases op <;> simp only [absStr, Option.some.injEq] at h <;> (try cases h)
  case add =>
    split at h
    · cases h
    · rename_i hn
      simp only [Option.some.injEq] at h; subst h
      simp only [binOp, Op.stringOp, hn, if_false]; rfl
  case eql => simp only [binOp, Op.stringOp, e]; rfl
  case neq => simp only [binOp, Op.stringOp, e]; rfl

theorem eqGuard_int {P : Program} {w : World} {op : BinOp} {t : TypeId} {x y : Operand} {k k' : IntKind} {a b : Int} : (eqGuard op t x y (.int k a) (.int k' b)).run P w = .ok () w := by
  unfold eqGuard; split <;> simp
theorem eqGuard_str {P : Program} {w : World} {op : BinOp} {t : TypeId} {x y : Operand} {a b : ByteArray} : (eqGuard op t x y (.string a) (.string b)).run P w = .ok () w := by
  unfold eqGuard; split <;> simp
theorem eqGuard_bool {P : Program} {w : World} {op : BinOp} {t : TypeId} {x y : Operand} {a b : Bool} : (eqGuard op t x y (.bool a) (.bool b)).run P w = .ok () w := by
  unfold eqGuard; split <;> simp

/-- The value of an operation, run: no world turns. -/
def Yld (P : Program) (o : Oper) (a : Act) (w : World) (u : Value) : Prop := (execOp a.eval o).run P w = .ok (.value u) w

theorem repV_v {w : World} {F : Nat → Prop} {m : Nat → Value} {x u : Value} : RepV w F m (.d (.v x)) u ↔ u = x ∧ x.oneCell' = true := by simp only [RepV, RepD]

theorem absBin_one {op : BinOp} {k : IntKind} {a b : Int} {v : Value} (h : absBin op k a b = some v) : v.oneCell' = true := by
  cases op <;> simp only [absBin, Option.some.injEq] at h <;> (try (subst h; rfl)) <;> (try (split at h <;> first | (simp only [Option.some.injEq] at h; subst h; rfl) | cases h)) <;> cases h
theorem absShift_one {op : BinOp} {k : IntKind} {a b : Int} {v : Value} (h : absShift op k a b = some v) : v.oneCell' = true := by
  unfold absShift at h
  split at h
  · cases h
  · cases op <;> simp only [Option.some.injEq] at h <;> first | (subst h; rfl) | cases h
theorem absStr_one {op : BinOp} {a b : ByteArray} {v : Value} (h : absStr op a b = some v) : v.oneCell' = true := by
  cases op <;> simp only [absStr, Option.some.injEq] at h <;> (try (subst h; rfl)) <;> (try (split at h <;> first | (simp only [Option.some.injEq] at h; subst h; rfl) | cases h)) <;> cases h

theorem binV_sound {P : Program} {c : Ctx} {m : Nat → Value} {s : St} {a : Act} {w : World} (h : SRep c m s a w) {o : Oper} {op : BinOp} {t t' : TypeId} {x y : Operand} {vx vy v : AV}
    (ho : o.op = .binOp op t x y t') (hx : s.ev x = some vx) (hy : s.ev y = some vy) (hv : binV P op t vx vy = some v) : ∃ u, Yld P o a w u ∧ RepV w (Forb c m s.hp) m v u := by
  have rx := h.ev hx
  have ry := h.ev hy
  unfold binV at hv
  split at hv
  · rename_i k ka k' kb
    rw [repV_v] at rx ry
    obtain ⟨v0, h0, rfl⟩ := Option.map_eq_some_iff.1 hv
    refine ⟨v0, ?_, repV_v.2 ⟨rfl, ?_⟩⟩
    · unfold Yld
      simp only [execOp, ho, rx.1, ry.1, Sem.run_bind, eqGuard_int, Result.andThen_ok]
      split at h0
      · rw [absShift_run h0 (.inl rfl)]; rfl
      · rw [absShift_run h0 (.inr rfl)]; rfl
      · split at h0
        · rename_i hkk; subst hkk; rw [absBin_run h0]; rfl
        · cases h0
    · split at h0
      · exact absShift_one h0
      · exact absShift_one h0
      · split at h0
        · exact absBin_one h0
        · cases h0
  · rename_i sa sb
    rw [repV_v] at rx ry
    obtain ⟨v0, h0, rfl⟩ := Option.map_eq_some_iff.1 hv
    refine ⟨v0, ?_, repV_v.2 ⟨rfl, absStr_one h0⟩⟩
    unfold Yld
    simp only [execOp, ho, rx.1, ry.1, Sem.run_bind, eqGuard_str, Result.andThen_ok]
    rw [absStr_run h0]; rfl
  · rename_i ba bb
    rw [repV_v] at rx ry
    split at hv
    · rename_i hu
      replace hu := boolT_und hu
      have e : ∀ x y : Bool, (x == y) = decide (x = y) := by decide
      split at hv
      · cases hv
        refine ⟨_, ?_, repV_v.2 ⟨rfl, rfl⟩⟩
        unfold Yld
        simp only [execOp, ho, rx.1, ry.1, Sem.run_bind, eqGuard_bool, Result.andThen_ok]
        rw [run_eql_bool _ _ _ _ hu, e]; rfl
      · cases hv
        refine ⟨_, ?_, repV_v.2 ⟨rfl, rfl⟩⟩
        unfold Yld
        simp only [execOp, ho, rx.1, ry.1, Sem.run_bind, eqGuard_bool, Result.andThen_ok]
        rw [run_neq_bool _ _ _ _ hu]; simp only [bne, e]; rfl
      · cases hv
    · cases hv
  · cases hv

theorem equal_slice {P : Program} {w : World} {t e : TypeId} (hu : P.underlying t = some (.slice e)) (n : Nat) : (∀ (l c : Nat) (b : Option Addr) (l' c' : Nat), (Op.equalIn (n + 1) t (.slice none l c) (.slice b l' c')).run P w = .ok b.isNone w) ∧ (∀ (a : Addr) (l c : Nat) (l' c' : Nat), (Op.equalIn (n + 1) t (.slice (some a) l c) (.slice none l' c')).run P w = .ok false w) := by
  constructor
  · intros; simp only [Op.equalIn, Sem.run_bind, run_underlying hu, Result.andThen_ok, Sem.run_pure]
  · intros; simp only [Op.equalIn, Sem.run_bind, run_underlying hu, Result.andThen_ok, Sem.run_pure]
theorem equal_ptr {P : Program} {w : World} {t e : TypeId} (hu : P.underlying t = some (.pointer e)) (n : Nat) : (∀ (b : Option Addr), (Op.equalIn (n + 1) t (.pointer none) (.pointer b)).run P w = .ok b.isNone w) ∧ (∀ (a : Addr), (Op.equalIn (n + 1) t (.pointer (some a)) (.pointer none)).run P w = .ok false w) := by
  constructor
  · intros; simp only [Op.equalIn, Sem.run_bind, run_underlying hu, Result.andThen_ok, Sem.run_pure]
  · intros; simp only [Op.equalIn, Sem.run_bind, run_underlying hu, Result.andThen_ok, Sem.run_pure]
theorem equal_fn {P : Program} {w : World} {t : TypeId} {a b c} (hu : P.underlying t = some (.func a b c)) (n : Nat) : (Op.equalIn (n + 1) t .nilFunc .nilFunc).run P w = .ok true w ∧ (∀ f r c, (Op.equalIn (n + 1) t (.func f r c) .nilFunc).run P w = .ok false w) := by
  constructor
  · simp only [Op.equalIn, Sem.run_bind, run_underlying hu, Result.andThen_ok, Sem.run_pure]
  · intros; simp only [Op.equalIn, Sem.run_bind, run_underlying hu, Result.andThen_ok, Sem.run_pure]
theorem equal_10000 (t : TypeId) (x y : Value) : Op.equal t x y = Op.equalIn (9999 + 1) t x y := rfl
theorem nilX_run {P : Program} {w : World} {F : Nat → Prop} {m : Nat → Value} {t : TypeId} {vx vy : AV} {x y : Value} {b : Bool} (rx : RepV w F m vx x) (ry : RepV w F m vy y) (h : nilX P t vx vy = some b) :
    (Op.equal t x y).run P w = .ok b w ∧ (∀ (op : BinOp) (p q : Operand), (eqGuard op t p q x y).run P w = .ok () w) ∧ (binOp .eql t x y).run P w = .ok (.bool b) w ∧ (binOp .neq t x y).run P w = .ok (.bool (!b)) w := by
  have fin : (Op.equal t x y).run P w = .ok b w → ((∃ a l c a' l' c', x = .slice a l c ∧ y = .slice a' l' c') ∨ (∃ a b, x = .pointer a ∧ y = .pointer b) ∨ ((∃ f r c, x = .func f r c) ∧ y = .nilFunc) ∨ (x = .nilFunc ∧ y = .nilFunc)) → (Op.equal t x y).run P w = .ok b w ∧ (∀ (op : BinOp) (p q : Operand), (eqGuard op t p q x y).run P w = .ok () w) ∧ (binOp .eql t x y).run P w = .ok (.bool b) w ∧ (binOp .neq t x y).run P w = .ok (.bool (!b)) w := by
    intro h1 h2
    refine ⟨h1, ?_, ?_, ?_⟩
    · intro op p q
      rcases h2 with ⟨a, l, c, a', l', c', rfl, rfl⟩ | ⟨a, b, rfl, rfl⟩ | ⟨⟨f, r, c, rfl⟩, rfl⟩ | ⟨rfl, rfl⟩ <;> (unfold eqGuard; split <;> rfl)
    · rcases h2 with ⟨a, l, c, a', l', c', rfl, rfl⟩ | ⟨a, b, rfl, rfl⟩ | ⟨⟨f, r, c, rfl⟩, rfl⟩ | ⟨rfl, rfl⟩ <;> (simp only [binOp, Sem.run_bind, h1, Result.andThen_ok]; rfl)
    · rcases h2 with ⟨a, l, c, a', l', c', rfl, rfl⟩ | ⟨a, b, rfl, rfl⟩ | ⟨⟨f, r, c, rfl⟩, rfl⟩ | ⟨rfl, rfl⟩ <;> (simp only [binOp, Sem.run_bind, h1, Result.andThen_ok]; rfl)
  unfold nilX at h
  split at h
  · rename_i e hu
    have eqS : ∀ (a : Option Addr) (l c : Nat) (a' : Option Addr) (l' c' : Nat), (a = none ∨ a' = none) → (Op.equal t (.slice a l c) (.slice a' l' c')).run P w = .ok (a.isNone && a'.isNone) w := by
      intro a l c a' l' c' hor
      obtain ⟨e1, e2⟩ := equal_slice (w := w) hu 9999
      rw [equal_10000]
      rcases hor with rfl | rfl
      · rw [e1]; rfl
      · cases a with
        | none => rw [e1]; rfl
        | some a => rw [e2]; rfl
    split at h
    · rename_i d
      simp only [RepV] at rx ry
      obtain ⟨a, l, c, rfl, hb⟩ := nilD_rep rx h
      simp only [RepD] at ry
      obtain ⟨rfl, _⟩ := ry
      refine fin ?_ (.inl ⟨_, _, _, _, _, _, rfl, rfl⟩)
      rw [eqS _ _ _ _ _ _ (.inr rfl), hb]; simp
    · rename_i d _
      simp only [RepV] at rx ry
      obtain ⟨a, l, c, rfl, hb⟩ := nilD_rep ry h
      simp only [RepD] at rx
      obtain ⟨rfl, _⟩ := rx
      refine fin ?_ (.inl ⟨_, _, _, _, _, _, rfl, rfl⟩)
      rw [eqS _ _ _ _ _ _ (.inl rfl), hb]; simp
    · cases h
  · rename_i e hu
    have eqP : ∀ (a b : Option Addr), (a = none ∨ b = none) → (Op.equal t (.pointer a) (.pointer b)).run P w = .ok (a.isNone && b.isNone) w := by
      intro a b hor
      obtain ⟨e1, e2⟩ := equal_ptr (w := w) hu 9999
      rw [equal_10000]
      rcases hor with rfl | rfl
      · rw [e1]; rfl
      · cases a with
        | none => rw [e1]; rfl
        | some a => rw [e2]; rfl
    split at h
    · cases h
      obtain ⟨rfl, _⟩ := repV_v.1 ry
      simp only [RepV] at rx
      obtain ⟨b, _, rfl⟩ := rx
      exact fin (by rw [eqP _ _ (.inr rfl)]; rfl) (.inr (.inl ⟨_, _, rfl, rfl⟩))
    · cases h
      obtain ⟨rfl, _⟩ := repV_v.1 ry
      simp only [RepV] at rx
      obtain ⟨b, n, cap, _, rfl⟩ := rx
      exact fin (by rw [eqP _ _ (.inr rfl)]; rfl) (.inr (.inl ⟨_, _, rfl, rfl⟩))
    · cases h
      obtain ⟨rfl, _⟩ := repV_v.1 ry
      simp only [RepV] at rx
      obtain ⟨b, off, v, rfl, _⟩ := rx
      exact fin (by rw [eqP _ _ (.inr rfl)]; rfl) (.inr (.inl ⟨_, _, rfl, rfl⟩))
    · cases h
      obtain ⟨rfl, _⟩ := repV_v.1 ry
      obtain ⟨rfl, _⟩ := repV_v.1 rx
      exact fin (by rw [eqP _ _ (.inr rfl)]; rfl) (.inr (.inl ⟨_, _, rfl, rfl⟩))
    · cases h
  · rename_i hu
    split at h
    · cases h
      obtain ⟨rfl, _⟩ := repV_v.1 ry
      simp only [RepV] at rx
      obtain ⟨us, rfl, _⟩ := rx
      exact fin (by rw [equal_10000]; exact (equal_fn (w := w) hu 9999).2 _ _ _) (.inr (.inr (.inl ⟨⟨_, _, _, rfl⟩, rfl⟩)))
    · cases h
      obtain ⟨rfl, _⟩ := repV_v.1 ry
      obtain ⟨rfl, _⟩ := repV_v.1 rx
      exact fin (by rw [equal_10000]; exact (equal_fn (w := w) hu 9999).2 _ _ _) (.inr (.inr (.inl ⟨⟨_, _, _, rfl⟩, rfl⟩)))
    · cases h
      obtain ⟨rfl, _⟩ := repV_v.1 ry
      obtain ⟨rfl, _⟩ := repV_v.1 rx
      exact fin (by rw [equal_10000]; exact (equal_fn (w := w) hu 9999).1) (.inr (.inr (.inr ⟨rfl, rfl⟩)))
    · cases h
  · cases h
theorem nilV_sound {P : Program} {F F' : Nat → Prop} {m : Nat → Value} {a : Act} {w : World} {o : Oper} {op : BinOp} {t t' : TypeId} {x y : Operand} {vx vy v : AV}
    (ho : o.op = .binOp op t x y t') (rx : RepV w F m vx (a.eval x)) (ry : RepV w F m vy (a.eval y)) (hv : nilV P op t vx vy = some v) : ∃ u, Yld P o a w u ∧ RepV w F' m v u := by
  unfold nilV at hv
  split at hv
  · obtain ⟨b, hb, rfl⟩ := Option.map_eq_some_iff.1 hv
    obtain ⟨_, h2, h3, _⟩ := nilX_run rx ry hb
    refine ⟨.bool b, ?_, repV_v.2 ⟨rfl, rfl⟩⟩
    unfold Yld
    simp only [execOp, ho, Sem.run_bind, h2, Result.andThen_ok, h3]; rfl
  · obtain ⟨b, hb, rfl⟩ := Option.map_eq_some_iff.1 hv
    obtain ⟨_, h2, _, h4⟩ := nilX_run rx ry hb
    refine ⟨.bool (!b), ?_, repV_v.2 ⟨rfl, rfl⟩⟩
    unfold Yld
    simp only [execOp, ho, Sem.run_bind, h2, Result.andThen_ok, h4]; rfl
  · cases hv

/-- An interface compared with the nil that is written. -/
def cmpB (op : BinOp) (b : Bool) : Option AV :=
  match op with
  | .eql => some (.d (.v (.bool b)))
  | .neq => some (.d (.v (.bool (!b))))
  | _ => none
def ifaceT (P : Program) (t : TypeId) : Bool := match P.underlying t with | some (.interface _) => true | _ => false
theorem ifaceT_und {P : Program} {t : TypeId} (h : ifaceT P t = true) : P.underlying t = some (.interface (P.methodsAt t)) := by
  unfold ifaceT at h
  split at h
  · rename_i ms hu; simp only [Program.methodsAt, hu]
  · cases h
def nilI (P : Program) (op : BinOp) (t : TypeId) (y : Operand) (vx : AV) : Option AV :=
  match y with
  | .const .nilIface => if ifaceT P t = true then
      (match vx with
      | .wrap (.ifc _) _ => cmpB op false
      | .d (.v .nilIface) => cmpB op true
      | _ => none)
    else none
  | _ => none
theorem eqGuard_held {P : Program} {w : World} (op : BinOp) (t t1 : TypeId) (x y : Operand) (u : Value) : (eqGuard op t x y (.iface t1 u) .nilIface).run P w = .ok () w := by
  unfold eqGuard; split <;> rfl
theorem eqGuard_nn {P : Program} {w : World} (op : BinOp) (t : TypeId) (x : Operand) : (eqGuard op t x (.const .nilIface) .nilIface .nilIface).run P w = .ok () w := by
  unfold eqGuard
  split <;> simp
theorem nilI_sound {P : Program} {F F' : Nat → Prop} {m : Nat → Value} {a : Act} {w : World} {o : Oper} {op : BinOp} {t t' : TypeId} {x y : Operand} {vx v : AV}
    (ho : o.op = .binOp op t x y t') (rx : RepV w F m vx (a.eval x)) (hv : nilI P op t y vx = some v) : ∃ u, Yld P o a w u ∧ RepV w F' m v u := by
  unfold nilI at hv
  split at hv
  · split at hv
    · rename_i hu
      replace hu := ifaceT_und hu
      have hyv : a.eval (.const .nilIface) = .nilIface := rfl
      split at hv
      · rename_i t1 v1
        simp only [RepV] at rx
        obtain ⟨u0, hx, _⟩ := rx
        unfold cmpB at hv
        split at hv
        · cases hv
          refine ⟨.bool false, ?_, repV_v.2 ⟨rfl, rfl⟩⟩
          unfold Yld
          simp only [execOp, ho, hx, Wr.val, hyv, Sem.run_bind, eqGuard_held, Result.andThen_ok, run_eql_held_nil _ t _ _ hu]; rfl
        · cases hv
          refine ⟨.bool true, ?_, repV_v.2 ⟨rfl, rfl⟩⟩
          unfold Yld
          simp only [execOp, ho, hx, Wr.val, hyv, Sem.run_bind, eqGuard_held, Result.andThen_ok, run_neq_held_nil _ t _ _ hu]; rfl
        · cases hv
      · obtain ⟨hx, _⟩ := repV_v.1 rx
        unfold cmpB at hv
        split at hv
        · cases hv
          refine ⟨.bool true, ?_, repV_v.2 ⟨rfl, rfl⟩⟩
          unfold Yld
          simp only [execOp, ho, hx, hyv, Sem.run_bind, eqGuard_nn, Result.andThen_ok, run_eql_nil_nil _ t hu]; rfl
        · cases hv
          refine ⟨.bool false, ?_, repV_v.2 ⟨rfl, rfl⟩⟩
          unfold Yld
          simp only [execOp, ho, hx, hyv, Sem.run_bind, eqGuard_nn, Result.andThen_ok, run_neq_nil_nil _ t hu]; rfl
        · cases hv
      · cases hv
    · cases hv
  · cases hv

def unV (op : UnOp) : AV → Option AV
  | .d (.v (.int k n)) => match op with
    | .neg => some (.d (.v (.int k (k.wrap (0 - n)))))
    | .xor => some (.d (.v (.int k (bits .xor k (if k.signed then -1 else k.max) n))))
    | _ => none
  | .d (.v (.bool b)) => match op with
    | .not => some (.d (.v (.bool !b)))
    | _ => none
  | _ => none
theorem unV_sound {P : Program} {c : Ctx} {m : Nat → Value} {s : St} {a : Act} {w : World} (h : SRep c m s a w) {o : Oper} {op : UnOp} {t : TypeId} {x : Operand} {vx v : AV}
    (ho : o.op = .unOp op t x) (hx : s.ev x = some vx) (hv : unV op vx = some v) : ∃ u, Yld P o a w u ∧ RepV w (Forb c m s.hp) m v u := by
  have rx := h.ev hx
  unfold unV at hv
  split at hv
  · rw [repV_v] at rx
    split at hv
    · cases hv
      refine ⟨_, ?_, repV_v.2 ⟨rfl, rfl⟩⟩
      unfold Yld; simp only [execOp, ho, rx.1]; simp [Op.unary, Op.intArith]
    · cases hv
      refine ⟨_, ?_, repV_v.2 ⟨rfl, rfl⟩⟩
      unfold Yld; simp only [execOp, ho, rx.1, unary_xor, intBits_xor]; simp
    · cases hv
  · rw [repV_v] at rx
    split at hv
    · cases hv
      refine ⟨_, ?_, repV_v.2 ⟨rfl, rfl⟩⟩
      unfold Yld; simp only [execOp, ho, rx.1]; simp [Op.unary]
    · cases hv
  · cases hv

/-- A conversion between integers; of bytes to a string. -/
def cvtV (P : Program) (src dst : TypeId) : AV → Option AV
  | .d (.v (.int _ n)) => match P.underlying src, P.underlying dst with
    | some _, some (.int k) => some (.d (.v (.int k (k.wrap n))))
    | _, _ => none
  | .d (.ints .u8 xs _) => match P.underlying src, P.underlying dst with
    | some (.slice e), some .string => if intT P e = some .u8 then some (.d (.v (.string (strOfNums xs)))) else none
    | _, _ => none
  | .d (.v (.string x)) => match P.underlying src, P.underlying dst with
    | some .string, some .string => some (.d (.v (.string x)))
    | _, _ => none
  | .d (.v (.slice none 0 0)) => match P.underlying src, P.underlying dst with
    | some (.slice e), some .string => if intT P e = some .u8 then some (.d (.v (.string (strOfNums [])))) else none
    | _, _ => none
  | _ => none
theorem repD_ints {w : World} {F : Nat → Prop} {k : IntKind} {xs : List Int} {c : Option Nat} {u : Value} (h : RepD w F (.ints k xs c) u) : ∃ a cap, u = .slice a xs.length cap ∧ Cells w a (xs.map (.int k)) ∧ xs.length ≤ cap ∧ cap ≤ maxLen ∧ (a = none → cap = 0) := by
  simp only [RepD] at h
  obtain ⟨a, cap, h1, h2, h3, h4, h5, h6⟩ := h
  refine ⟨a, cap, h1, fun hne => ?_, h2, h3, h4⟩
  obtain ⟨b, off, h7, _, h8⟩ := h6 (by simpa using hne)
  refine ⟨b, off, h7, fun i v hv => ?_⟩
  rw [List.getElem?_map] at hv
  obtain ⟨x, hx, rfl⟩ := Option.map_eq_some_iff.1 hv
  exact h8 i x hx
theorem cvtV_run {P : Program} {w : World} {F F' : Nat → Prop} {m : Nat → Value} {src dst : TypeId} {vx v : AV} {u : Value} (rx : RepV w F m vx u) (hv : cvtV P src dst vx = some v) : ∃ z, (convert src dst u).run P w = .ok z w ∧ RepV w F' m v z := by
  unfold cvtV at hv
  split at hv
  · rw [repV_v] at rx
    split at hv
    · rename_i k' n d k hs hd
      cases hv
      refine ⟨_, ?_, repV_v.2 ⟨rfl, rfl⟩⟩
      rw [rx.1]
      simp [convert, run_underlying hs, run_underlying hd, Conv.intToInt]
    · cases hv
  · simp only [RepV] at rx
    obtain ⟨ad, cap, hu, hc, h1, h2, h3⟩ := repD_ints rx
    split at hv
    · rename_i e hs hd
      split at hv
      · rename_i he
        replace he := intT_und he
        cases hv
        refine ⟨_, ?_, repV_v.2 ⟨rfl, rfl⟩⟩
        rw [hu]
        exact run_str hs he hd hc rfl h3
      · cases hv
    · cases hv
  · rw [repV_v] at rx
    split at hv
    · rename_i hs hd
      cases hv
      refine ⟨_, ?_, repV_v.2 ⟨rfl, rfl⟩⟩
      rw [rx.1]
      simp [convert, run_underlying hs, run_underlying hd]
    · cases hv
  · rw [repV_v] at rx
    split at hv
    · rename_i e hs hd
      split at hv
      · rename_i he
        replace he := intT_und he
        cases hv
        refine ⟨_, ?_, repV_v.2 ⟨rfl, rfl⟩⟩
        rw [rx.1]
        exact run_str (l := []) hs he hd (Cells.nil _ _) rfl (fun _ => rfl)
      · cases hv
    · cases hv
  · cases hv

end Go.Proofs.Ytpdbekbobkjfgaa
