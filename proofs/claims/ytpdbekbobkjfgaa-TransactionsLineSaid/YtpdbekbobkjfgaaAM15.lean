/-
  An abstract view of the machine, part 15: short forms for walks.
  Conditions: none; nothing here speaks of one program.
-/
import Derived.Test.YtpdbekbobkjfgaaAM14
namespace Go.Proofs.Ytpdbekbobkjfgaa
open Go.RowKit
set_option linter.unusedVariables false

section
variable {P : Program} {Q : Exit → St → Prop} {s : St} {nx : St → Prop}
theorem xthen_n : Xthen nx Q .normal s = nx s := rfl
theorem xthen_x {i : Nat} : Xthen nx Q (.exit i) s = Q (.exit i) s := rfl
theorem xthen_r : Xthen nx Q .ret s = Q .ret s := rfl
theorem xthen_g {i : Nat} : Xthen nx Q (.goto i) s = Q (.goto i) s := rfl
theorem xblock_n {i : Nat} : Xblock i Q .normal s = Q .normal s := rfl
theorem xblock_r {i : Nat} : Xblock i Q .ret s = Q .ret s := rfl
theorem xblock_g {i j : Nat} : Xblock i Q (.goto j) s = Q (.goto j) s := rfl
theorem xblock_x {i j : Nat} : Xblock i Q (.exit j) s = if j = i then Q .normal s else Q (.exit j) s := rfl
theorem xscope_n : Xscope Q .normal s = Q .normal s := rfl
theorem xscope_r : Xscope Q .ret s = Q .ret s := rfl
theorem xscope_x {i : Nat} : Xscope Q (.exit i) s = Q (.exit i) s := rfl

theorem awp_seq_run {id : Nat} {l : List Oper} {y : Code} {s' : St} (h : runG P l.toArray l s = some s') (hy : AWp P y Q s') : AWp P (.seq (.region id l.toArray false) y) Q s :=
  awp_seq (awp_region_run h hy)

/-! ### Steps that no code makes -/
theorem awp_freeze {c : Code} (κ : Nat) {B : Blk} {x : D} (hB : gt κ s.hp = some B) (hx : B.data = some x) (h : AWp P c Q (s.freeze κ x)) : AWp P c Q s := fun cx m a w hr => h cx m a w (hr.freeze hB hx)
theorem awp_fix {c : Code} (κ : Nat) {e : TypeId} {cs : List AV} {ds : List D} (hB : gt κ s.hp = some (.box e cs)) (hds : allD cs = some ds) (h : AWp P c Q (s.fix κ (.agg ds))) : AWp P c Q s := fun cx m a w hr => h cx m a w (hr.fix hB hds)
theorem awpl_freeze {ops : Array Oper} {l : List Oper} {R : St → Prop} (κ : Nat) {B : Blk} {x : D} (hB : gt κ s.hp = some B) (hx : B.data = some x) (h : AWpL P ops l R (s.freeze κ x)) : AWpL P ops l R s := fun cx m a w K hr hK => h cx m a w K (hr.freeze hB hx) hK
/-- A slot that holds a slice without a cell: an own row from now on. -/
def St.mat (s : St) (t κ : Nat) (B : Blk) : St := (s.setB true κ B).put (some t) (.own κ)
theorem awp_mat {c : Code} (t κ : Nat) (B : Blk) {v : AV} (ht : gt t s.tm = some v) (he : isEmptyA v = true) (h16 : 16 ≤ κ) (htn : t < s.n) (hB : (∃ e k, B = .ints e k [] (some 0)) ∨ (∃ e n, B = .row e n [] (some 0))) (h : AWp P c Q (s.mat t κ B)) : AWp P c Q s := by
  intro cx m a w hr
  have hv := hr.slot t v ht
  obtain ⟨ad, had⟩ := isEmptyA_val hv he
  obtain ⟨h1, _⟩ := hr.mat κ B ad h16 hB
  have h2 := h1.put (dst := some t) (v := .own κ) (u := .slice ad 0 0) (by simp only [St.okDst, St.setB]; simpa using htn) (by simp only [RepV, upm_same]; exact ⟨trivial, rfl⟩)
  have e : a.put (some t) (.slice ad 0 0) = a := by
    have hlt : t < a.tmps.size := by rw [hr.nt]; exact htn
    have : a.tmps.setIfInBounds t (.slice ad 0 0) = a.tmps := by
      apply Array.ext_getElem?
      intro i
      by_cases e : t = i
      · subst e
        have had' : a.tmps[t] = .slice ad 0 0 := by rw [Array.getD_eq_getD_getElem?, Array.getElem?_eq_getElem hlt] at had; exact had
        rw [Array.getElem?_eq_getElem hlt, had']
        simp [hlt]
      · rw [Array.getElem?_setIfInBounds_ne e]
    simp only [Act.put, this]
  rw [e] at h2
  exact h cx _ a w h2

/-- Where a function has ended. -/
def FPost (P : Program) (res : List ResultVar) (n : Nat) (Post : AV → List Blk → Prop) (e : Exit) (s' : St) : Prop :=
  (e = .ret ∨ e = .normal) ∧ ∃ ks r bs, (∀ j, j < n → ks[j]? = some j) ∧ n ≤ ks.length ∧ ks.Nodup ∧ pickB (posOf · ks) s'.hp ks = some bs ∧ resA P s' res = some r ∧ Post (renV (posOf · ks) r) bs

theorem fret {res : List ResultVar} {n : Nat} {Post : AV → List Blk → Prop} {r : AV} {bs : List Blk} {e : Exit} (ks : List Nat) (he : e = .ret ∨ e = .normal) (h1 : ks.take n = List.range n) (hn : n ≤ ks.length) (hd : ks.Nodup) (hp : pickB (posOf · ks) s.hp ks = some bs) (hr : resA P s res = some r) (h : Post (renV (posOf · ks) r) bs) : FPost P res n Post e s := by
  refine ⟨he, ks, r, bs, fun j hj => ?_, hn, hd, hp, hr, h⟩
  have : (ks.take n)[j]? = (List.range n)[j]? := by rw [h1]
  rw [List.getElem?_take, if_pos hj] at this
  rw [this]; simp [hj]
theorem fret0 {res : List ResultVar} {Post : AV → List Blk → Prop} {r : AV} {e : Exit} (he : e = .ret ∨ e = .normal) (hr : resA P s res = some r) (h : Post (renV (posOf · []) r) []) : FPost P res 0 Post e s :=
  fret [] he rfl (Nat.le_refl _) List.nodup_nil rfl hr h

theorem acall_body {f : FuncId} {fn : Func} {c : Code} {vs : List AV} {hs : List Blk} {Post : AV → List Blk → Prop} {n : Nat} {res : List ResultVar} (hf : P.funcs[f]? = some fn) (hb : fn.body = some c) (hn : fn.ntmps = n) (hres : fn.results.toList = res) (hle : vs.length ≤ n)
    (h : AWp P c (FPost P res hs.length Post) ⟨n, tmFrom 0 vs, hpFrom 0 hs⟩) : ACall P f vs hs Post := by
  subst hn hres
  exact acall_of hf hb hle h

/-- A function without addresses: what it returns is data. -/
def AFun (P : Program) (f : FuncId) (vs : List D) (r : D) : Prop := ACall P f (vs.map .d) [] fun r' hs' => r' = .d r ∧ hs' = []

theorem afun_body {f : FuncId} {fn : Func} {c : Code} {vs : List D} {r : D} {n : Nat} {res : List ResultVar} (hf : P.funcs[f]? = some fn) (hb : fn.body = some c) (hn : fn.ntmps = n) (hres : fn.results.toList = res) (hle : vs.length ≤ n)
    (h : AWp P c (FPost P res 0 fun r' hs' => r' = .d r ∧ hs' = []) ⟨n, tmFrom 0 (vs.map .d), []⟩) : AFun P f vs r :=
  acall_body hf hb hn hres (by simpa using hle) h

theorem sub_of {s' : St} (h : s'.n = s.n) (h1 : ∀ t v, gt t s'.tm = some v → v = .bot ∨ gt t s.tm = some v) (h2 : ∀ κ B, gt κ s'.hp = some B → gt κ s.hp = some B) : Sub s' s := ⟨h, h1, h2⟩
/-- Slot by slot. -/
def subT : List (Nat × AV) → List (Nat × AV) → Prop
  | [], _ => True
  | (t, v) :: l, l' => gt t l' = some v ∧ subT l l'
def subH : List (Nat × Blk) → List (Nat × Blk) → Prop
  | [], _ => True
  | (κ, B) :: l, l' => gt κ l' = some B ∧ subH l l'
theorem subT_get {l l' : List (Nat × AV)} (h : subT l l') : ∀ t v, gt t l = some v → gt t l' = some v := by
  induction l with
  | nil => intro t v ht; simp [gt] at ht
  | cons p l ih =>
    obtain ⟨k, x⟩ := p
    intro t v ht
    simp only [subT] at h
    simp only [gt] at ht
    split at ht
    · rename_i e; subst e; cases ht; exact h.1
    · exact ih h.2 t v ht
theorem subH_get {l l' : List (Nat × Blk)} (h : subH l l') : ∀ t v, gt t l = some v → gt t l' = some v := by
  induction l with
  | nil => intro t v ht; simp [gt] at ht
  | cons p l ih =>
    obtain ⟨k, x⟩ := p
    intro t v ht
    simp only [subH] at h
    simp only [gt] at ht
    split at ht
    · rename_i e; subst e; cases ht; exact h.1
    · exact ih h.2 t v ht
theorem sub_lists {n : Nat} {tm tm' : List (Nat × AV)} {hp hp' : List (Nat × Blk)} (h1 : subT tm tm') (h2 : subH hp hp') : Sub ⟨n, tm, hp⟩ ⟨n, tm', hp'⟩ := ⟨rfl, fun t v h => .inr (subT_get h1 t v h), subH_get h2⟩
end

/-! ### Numbers that lie in their range -/
theorem w_i64 (x : Int) (h1 : -9223372036854775808 ≤ x) (h2 : x ≤ 9223372036854775807) : IntKind.i64.wrap x = x := by rw [IntKind.wrap_i64]; omega
theorem w_i32 (x : Int) (h1 : -2147483648 ≤ x) (h2 : x ≤ 2147483647) : IntKind.i32.wrap x = x := by rw [IntKind.wrap_i32]; omega
theorem w_u8 (x : Int) (h1 : 0 ≤ x) (h2 : x ≤ 255) : IntKind.u8.wrap x = x := by rw [IntKind.wrap_u8]; omega
theorem w_u16 (x : Int) (h1 : 0 ≤ x) (h2 : x ≤ 65535) : IntKind.u16.wrap x = x := by rw [IntKind.wrap_u16]; omega
theorem w_u32 (x : Int) (h1 : 0 ≤ x) (h2 : x ≤ 4294967295) : IntKind.u32.wrap x = x := by rw [IntKind.wrap_u32]; omega
theorem w_u64 (x : Int) (h1 : 0 ≤ x) (h2 : x ≤ 18446744073709551615) : IntKind.u64.wrap x = x := by rw [IntKind.wrap_u64]; omega
theorem nlt0 (x : Int) (h : 0 ≤ x) : (x < 0) = False := by simp; omega
theorem tdivP (x y : Int) (h : 0 ≤ x) : x.tdiv y = x / y := Int.tdiv_eq_ediv_of_nonneg h
theorem tmodP (x y : Int) (h : 0 ≤ x) : x.tmod y = x % y := Int.tmod_eq_emod_of_nonneg h

/-- A function that returns a new row. -/
def ARow (P : Program) (f : FuncId) (vs : List D) (B : Blk) : Prop := ACall P f (vs.map .d) [] fun r hs' => r = .own 0 ∧ hs' = [B]
theorem arow_body {P : Program} {f : FuncId} {fn : Func} {c : Code} {vs : List D} {B : Blk} {n : Nat} {res : List ResultVar} (hf : P.funcs[f]? = some fn) (hb : fn.body = some c) (hn : fn.ntmps = n) (hres : fn.results.toList = res) (hle : vs.length ≤ n)
    (h : AWp P c (FPost P res 0 fun r hs' => r = .own 0 ∧ hs' = [B]) ⟨n, tmFrom 0 (vs.map .d), []⟩) : ARow P f vs B :=
  acall_body hf hb hn hres (by simpa using hle) h
theorem fret1 {P : Program} {s : St} {res : List ResultVar} {Post : AV → List Blk → Prop} {r : AV} {e : Exit} (κ : Nat) {B : Blk} (he : e = .ret ∨ e = .normal) (hB : gt κ s.hp = some B) (hr : resA P s res = some r) (h : Post (renV (posOf · [κ]) r) [renB (posOf · [κ]) B]) : FPost P res 0 Post e s :=
  fret [κ] he rfl (by simp) (by simp) (by simp only [pickB, hB]) hr h

/-! ### The same rules, what is reckoned out under a name -/
theorem x_seq {P : Program} {Q : Exit → St → Prop} {s : St} {id : Nat} {l : List Oper} {y : Code} (h : ∀ r, runG P l.toArray l s = r → ∃ s', r = some s' ∧ AWp P y Q s') : AWp P (.seq (.region id l.toArray false) y) Q s := by
  obtain ⟨s', h1, h2⟩ := h _ rfl
  exact awp_seq_run h1 h2
theorem x_reg {P : Program} {Q : Exit → St → Prop} {s : St} {id : Nat} {l : List Oper} (h : ∀ r, runG P l.toArray l s = r → ∃ s', r = some s' ∧ Q .normal s') : AWp P (.region id l.toArray false) Q s := by
  obtain ⟨s', h1, h2⟩ := h _ rfl
  exact awp_region_run h1 h2
theorem x_op {P : Program} {s : St} {ops : Array Oper} {o : Oper} {l : List Oper} {R : St → Prop} (h : ∀ r, stepG P ops s o = r → ∃ s', r = some s' ∧ AWpL P ops l R s') : AWpL P ops (o :: l) R s := by
  obtain ⟨s', h1, h2⟩ := h _ rfl
  exact awpl_step h1 h2
theorem x_cond {P : Program} {Q : Exit → St → Prop} {s : St} {c : Operand} {x y : Code} (h : ∀ r, s.ev c = r → ∃ b, r = some (.d (.v (.bool b))) ∧ (b = true → AWp P x Q s) ∧ (b = false → AWp P y Q s)) : AWp P (.cond c x y) Q s := by
  obtain ⟨b, h1, h2, h3⟩ := h _ rfl
  exact awp_cond h1 h2 h3
theorem x_ret0 {P : Program} {s : St} {res : List ResultVar} {Post : AV → List Blk → Prop} {e : Exit} (he : e = .ret ∨ e = .normal) (h : ∀ r, resA P s res = r → ∃ v, r = some v ∧ Post (renV (posOf · []) v) []) : FPost P res 0 Post e s := by
  obtain ⟨v, h1, h2⟩ := h _ rfl
  exact fret0 he h1 h2
theorem x_ret {P : Program} {s : St} {res : List ResultVar} {n : Nat} {Post : AV → List Blk → Prop} {e : Exit} (ks : List Nat) (he : e = .ret ∨ e = .normal) (h1 : ks.take n = List.range n) (hn : n ≤ ks.length) (hd : ks.Nodup)
    (h : ∀ r, resA P s res = r → ∃ v, r = some v ∧ ∀ q, pickB (posOf · ks) s.hp ks = q → ∃ bs, q = some bs ∧ Post (renV (posOf · ks) v) bs) : FPost P res n Post e s := by
  obtain ⟨v, h2, h3⟩ := h _ rfl
  obtain ⟨bs, h4, h5⟩ := h3 _ rfl
  exact fret ks he h1 hn hd h4 h2 h5

theorem ileT (a b : Int) (h : a ≤ b) : (a ≤ b) = True := eq_true h
theorem ileF (a b : Int) (h : b < a) : (a ≤ b) = False := eq_false (by omega)
theorem iltT (a b : Int) (h : a < b) : (a < b) = True := eq_true h
theorem iltF (a b : Int) (h : b ≤ a) : (a < b) = False := eq_false (by omega)
theorem ieqT (a b : Int) (h : a = b) : (a = b) = True := eq_true h
theorem neqT (a b : Nat) (h : a = b) : (a = b) = True := eq_true h
theorem ieqF (a b : Int) (h : a < b ∨ b < a) : (a = b) = False := eq_false (by omega)
theorem nleT (a b : Nat) (h : a ≤ b) : (a ≤ b) = True := eq_true h
theorem nleF (a b : Nat) (h : b < a) : (a ≤ b) = False := eq_false (by omega)
theorem nltT (a b : Nat) (h : a < b) : (a < b) = True := eq_true h
theorem nltF (a b : Nat) (h : b ≤ a) : (a < b) = False := eq_false (by omega)
theorem neqF (a b : Nat) (h : a < b ∨ b < a) : (a = b) = False := eq_false (by omega)
theorem maxLen_eq : maxLen = 9223372036854775807 := rfl
attribute [push_cast] List.contains_cons Bool.or_false Bool.false_or Bool.true_or Bool.or_true rangeN1 rangeN2 rangeN3 List.getElem?_nil decide_true decide_false Bool.false_eq_true Bool.true_eq_false Option.bind_some Option.map_some Option.bind_none Option.map_none Option.getD_some Option.getD_none Option.isSome_some Option.isSome_none List.getElem?_toArray List.getElem?_cons_zero List.getElem?_cons_succ List.map_cons List.map_nil List.take_zero List.take_succ_cons List.drop_zero List.drop_succ_cons List.length_cons List.length_nil List.cons_append List.nil_append and_self and_true true_and false_and and_false true_or or_true false_or or_false if_true if_false not_true_eq_false not_false_eq_true ne_eq Nat.add_zero Nat.zero_add Bool.not_true Bool.not_false List.isEmpty_nil List.isEmpty_cons List.contains_nil List.filter_nil List.range_zero List.all_cons List.all_nil Bool.and_true Bool.and_self decide_eq_true_eq w_i64 w_i32 w_u8 w_u16 w_u32 w_u64 eq_self tdivP tmodP List.getElem?_eq_getElem Int.toNat_natCast ileT ileF iltT iltF ieqT ieqF nleT nleF nltT nltF neqT neqF
attribute [push_cast] nilV nilX nilD St.asD growD gtO maxLen_eq obind_some obind_none omap_some omap_none fixV fixVs fixB St.fix St.mat runG runO stepG stepF stepB isBlt valOp St.ev St.evL St.evI St.evP constA St.okDst St.put ins gt del mapv tmFrom hpFrom lenV capV binV absBin absShift absStr unV cvtV loadV fieldAddrV fieldV indexAddrV indexV sliceV cutB capC buildV minI storeB growB emptyB isEmptyA litB makeB zeroD St.setB St.freeze killV killVs killB kL mkAgg allD AV.fields AV.parts AV.toD toDs intsOf idxOk layA D.isAgg D.size Blk.isRow Blk.elem Blk.data St.intsA St.rowA capA datV datVs datB resA resAll resOne renV renVs renB posOf pickB argA argsA uncap nilA afterS rowKeys newKeys insL delL backFrom backF backK killsV killsVs killsB xthen_n xthen_x xthen_r xthen_g xblock_n xblock_r xblock_g xblock_x xscope_n xscope_r xscope_x flatV flatVs flatD flatDs flatB

end Go.Proofs.Ytpdbekbobkjfgaa
