/-
  Walks that the kernel reckons out, part 6: regions.
  Conditions: none; nothing here speaks of one program.
-/
import Derived.Test.YtpdbekbobkjfgaaAN5
namespace Go.Proofs.Ytpdbekbobkjfgaa
open Go.RowKit
set_option linter.unusedVariables false
set_option linter.constructorNameAsVariable false

theorem stepF_val {P : Program} {s : St} {o : Oper} {v : AV} (h1 : s.okDst o.dst = true) (h2 : valOp P s o.op = some v) : stepF P s o = some (s.put o.dst v) := by
  unfold stepF
  rw [h1, if_pos rfl]
  have none_ : ∀ {x : Option St}, valOp P s o.op = none → x = some (s.put o.dst v) := fun h => by rw [h2] at h; cases h
  split
  · rename_i ho; exact none_ (by rw [ho]; rfl)
  · rename_i ho; exact none_ (by rw [ho]; rfl)
  · rename_i ho; exact none_ (by rw [ho]; rfl)
  · rename_i ho; exact none_ (by rw [ho]; rfl)
  · rename_i ho; exact none_ (by rw [ho]; rfl)
  · rename_i t x l hh m ho
    split
    · rename_i κ hx
      refine none_ ?_
      rw [ho]
      simp only [valOp, hx]
      split
      · rename_i vx il ih im h1 h2 h3 h4
        cases h1
        simp only [sliceV]
      · rfl
    · rw [← ho, h2]; rfl
  · rename_i c ho
    split
    · rename_i hb
      refine none_ ?_
      rw [ho]
      obtain ⟨cal, args, tys⟩ := c
      cases cal with
      | builtin b => cases b <;> first | rfl | simp [isBlt] at hb
      | _ => simp [isBlt] at hb
    · rw [← ho, h2]; rfl
  · rw [h2]; rfl

/-! ### Tests that are decided on the way -/
def setAt {α : Type} (t : Nat) (v : α) : List (Nat × α) → List (Nat × α)
  | [] => []
  | (k, u) :: l => if t = k then (k, v) :: l else (k, u) :: setAt t v l
theorem setAt_same {α β : Type} {f : α → β} {t : Nat} {u v : α} (he : f v = f u) : ∀ {l : List (Nat × α)}, gt t l = some u → mapk f (setAt t v l) = mapk f l
  | [], h => by simp [gt] at h
  | (k, w) :: l, h => by
    simp only [gt] at h
    simp only [setAt]
    split at h
    · rename_i e; cases h; rw [if_pos e]; simp only [mapk, he]
    · rename_i e; rw [if_neg e]; simp only [mapk, setAt_same he h]
/-- The slot of a test, its outcome known. -/
def SSt.know (s : SSt) (t : Nat) (b : Bool) : SSt := { s with tm := setAt t (.d (.v (.bool b))) s.tm }
theorem know_img {s : SSt} {t : Nat} {b : Bool} (h : gt t s.tm = some (.b b)) : (s.know t b).toSt = s.toSt := by
  simp only [SSt.know, SSt.toSt]
  rw [setAt_same (u := .b b) (by simp only [SV.toAV]) h]
def SSt.knowO (s : SSt) (x : Operand) (b : Bool) : SSt := match x with | .tmp t => s.know t b | _ => s
theorem knowO_img {s : SSt} {x : Operand} {b : Bool} (h : s.ev x = some (.b b)) : (s.knowO x b).toSt = s.toSt := by
  cases x with
  | tmp t => exact know_img h
  | _ => rfl

/-! ### One operation -/
def putV {R : Type} (s : SSt) (dst : Option Nat) (k : SSt → Option R) (r : Bool × SV) : Option R := cond r.1 (k (s.put dst r.2)) none
def putB {R : Type} (s : SSt) (dst : Option Nat) (k : SSt → Option R) (r : BlkR) : Option R := cond r.ob (k ((s.setB r.kill r.κ r.B).put dst r.v)) none
def opB {R : Type} (P : Program) (s : SSt) (o : Oper) (k : SSt → Option R) : Option R :=
  match valS P s o.op with
  | some r => putV s o.dst k r
  | none => match blkS P s o with
    | some r => putB s o.dst k r
    | none => none
/-- One of two values, by a test that is not known. -/
def opPick {R : Type} (P : Program) (s : SSt) (o : Oper) (k : SSt → Option R) : Option R :=
  match o.op with
  | .pick c x y => match s.ev c with
    | some (.b b) => match s.ev x, s.ev y with
      | some p, some q => cond b (k ((s.knowO c true).put o.dst p)) (k ((s.knowO c false).put o.dst q))
      | _, _ => none
    | _ => none
  | _ => none
def opF {R : Type} (P : Program) (s : SSt) (o : Oper) (k : SSt → Option R) : Option R :=
  match takenK s.toSt o with
  | [] => none
  | l => match s.freezeL l with
    | some s1 => opB P s1 o k
    | none => none
def opA {R : Type} (P : Program) (s : SSt) (o : Oper) (k : SSt → Option R) : Option R :=
  match valS P s o.op with
  | some r => putV s o.dst k r
  | none => match blkS P s o with
    | some r => putB s o.dst k r
    | none => match o.op with
      | .pick _ _ _ => opPick P s o k
      | _ => opF P s o k
def opK {R : Type} (P : Program) (ck : CallK) (fl : FuncId → Bool) (s : SSt) (o : Oper) (k : SSt → Option R) : Option R :=
  if s.okDst o.dst = true then
    if isCallO o.op then match o.op with
      | .call c => callX1 P ck fl s o.dst c k
      | _ => none
    else opA P s o k
  else none
theorem putV_ok {R : Type} {P : Program} {s : SSt} {o : Oper} {k : SSt → Option R} {x : Bool × SV} {r : R} (hg : o.guard = none) (hd : s.okDst o.dst = true) (hv : valS P s o.op = some x) (h : putV s o.dst k x = some r) : ∃ s', OpOk P s o s' ∧ k s' = some r := by
  obtain ⟨ob, v⟩ := x
  unfold putV at h
  cases ob with
  | false => cases h
  | true =>
    obtain ⟨u, h1, h2⟩ := valS_sound hv rfl
    refine ⟨_, fun ops l Q next => ?_, h⟩
    rw [put_img] at next
    exact awpl_step (by unfold stepG; rw [hg]; exact stepF_val (by rw [okDst_img]; exact hd) h1) (awpl_le (le_put h2) next)
theorem putB_ok {R : Type} {P : Program} {s : SSt} {o : Oper} {k : SSt → Option R} {x : BlkR} {r : R} (hg : o.guard = none) (hd : s.okDst o.dst = true) (hv : blkS P s o = some x) (h : putB s o.dst k x = some r) : ∃ s', OpOk P s o s' ∧ k s' = some r := by
  unfold putB at h
  cases hob : x.ob with
  | false => rw [hob] at h; cases h
  | true =>
    rw [hob] at h
    obtain ⟨B0, h1, h2⟩ := blkS_img hv hob
    obtain ⟨s2, h3, h4⟩ := blkE_step h1 (by rw [okDst_img]; exact hd)
    refine ⟨_, fun ops l Q next => ?_, h⟩
    rw [put_img, setB_img] at next
    refine awpl_step (by unfold stepG; rw [hg]; exact h3) (awpl_le (.trans ?_ (LeSt.sub h4)) next)
    have hB0 : gt x.κ ((s.toSt.setB x.kill x.κ B0).put o.dst x.v.toAV).hp = some B0 := by
      rw [put_hp]
      cases x.kill <;> simp only [St.setB, Bool.false_eq_true, if_false, if_true, gt_ins_same]
    refine LeSt.trans (LeSt.sub ?_) (le_blk hB0 h2)
    have e1 : ((s.toSt.setB x.kill x.κ x.B.toB).put o.dst x.v.toAV).tm = ((s.toSt.setB x.kill x.κ B0).put o.dst x.v.toAV).tm := by
      cases o.dst <;> cases x.kill <;> rfl
    refine ⟨?_, ?_, ?_⟩
    · cases o.dst <;> cases x.kill <;> rfl
    · intro t v hv; exact .inr (by rw [← e1]; exact hv)
    · intro κ B hB
      rw [put_hp] at hB
      show gt κ (ins x.κ x.B.toB (((s.toSt.setB x.kill x.κ B0).put o.dst x.v.toAV).hp)) = some B
      rw [put_hp, gt_ins]
      cases hk : x.kill
      · rw [hk] at hB
        simp only [St.setB, Bool.false_eq_true, if_false, gt_ins] at hB ⊢
        split at hB
        · rename_i e; rw [if_pos e]; exact hB
        · rename_i e; rw [if_neg e, if_neg e]; exact hB
      · rw [hk] at hB
        simp only [St.setB, if_true, gt_ins] at hB ⊢
        split at hB
        · rename_i e; rw [if_pos e]; exact hB
        · rename_i e; rw [if_neg e, if_neg e]; exact hB
theorem opB_ok {R : Type} {P : Program} {s : SSt} {o : Oper} {k : SSt → Option R} {r : R} (hg : o.guard = none) (hd : s.okDst o.dst = true) (h : opB P s o k = some r) : ∃ s', OpOk P s o s' ∧ k s' = some r := by
  unfold opB at h
  split at h
  · rename_i hv; exact putV_ok hg hd hv h
  · split at h
    · rename_i hv; exact putB_ok hg hd hv h
    · cases h
theorem freezeL_n : ∀ {l : List Nat} {s s' : SSt}, s.freezeL l = some s' → s'.n = s.n
  | [], s, s', h => by simp only [SSt.freezeL] at h; cases h; rfl
  | κ :: l, s, s', h => by
    simp only [SSt.freezeL] at h
    split at h
    · rename_i s1 h1
      rw [freezeL_n h]
      unfold SSt.freeze at h1
      split at h1
      · split at h1
        · cases h1; rfl
        · cases h1
      · cases h1
    · cases h
theorem okDst_n {s s' : SSt} {d : Option Nat} (h : s'.n = s.n) : s'.okDst d = s.okDst d := by cases d <;> simp only [SSt.okDst, h]
theorem opPick_val {P : Program} {s : SSt} {c x y : Operand} {b : Bool} {p q : SV} (hc : s.ev c = some (.b b)) (hx : s.ev x = some p) (hy : s.ev y = some q) : ∃ u, valOp P s.toSt (.pick c x y) = some u ∧ u = (if b then p else q).toAV := by
  simp only [valOp, SSt.ev_img hc, SSt.ev_img hx, SSt.ev_img hy, SV.toAV]
  split
  · rename_i p' q' h1 h2
    simp only [Option.some.injEq] at h1 h2
    cases b <;> simp [h1, h2]
  · cases b <;> simp
theorem opPick_ok {R : Type} {P : Program} {s : SSt} {o : Oper} {k : SSt → Option R} {r : R} (hg : o.guard = none) (hd : s.okDst o.dst = true) (h : opPick P s o k = some r) : ∃ s', OpOk P s o s' ∧ k s' = some r := by
  unfold opPick at h
  split at h
  · rename_i c x y ho
    split at h
    · rename_i b hc
      split at h
      · rename_i p q hx hy
        obtain ⟨u, h1, h2⟩ := opPick_val (P := P) hc hx hy
        have run : ∀ (v : SV) (s1 : SSt), s1.toSt = s.toSt → u = v.toAV → OpOk P s o (s1.put o.dst v) := by
          intro v s1 hs he ops l Q next
          rw [put_img, hs] at next
          exact awpl_step (by unfold stepG; rw [hg]; exact stepF_val (by rw [okDst_img]; exact hd) (by rw [ho]; exact h1)) (by rw [he]; exact next)
        cases b with
        | true => exact ⟨_, run p _ (knowO_img hc) (by simpa using h2), h⟩
        | false => exact ⟨_, run q _ (knowO_img hc) (by simpa using h2), h⟩
      · cases h
    · cases h
  · cases h
theorem opF_ok {R : Type} {P : Program} {s : SSt} {o : Oper} {k : SSt → Option R} {r : R} (hg : o.guard = none) (hd : s.okDst o.dst = true) (h : opF P s o k = some r) : ∃ s', OpOk P s o s' ∧ k s' = some r := by
  unfold opF at h
  split at h
  · cases h
  · split at h
    · rename_i s1 h1
      obtain ⟨s', h2, h3⟩ := opB_ok hg (by rw [okDst_n (freezeL_n h1)]; exact hd) h
      exact ⟨s', fun ops l Q next => awpl_le (freezeL_le h1) (h2 ops l Q next), h3⟩
    · cases h
theorem opA_ok {R : Type} {P : Program} {s : SSt} {o : Oper} {k : SSt → Option R} {r : R} (hg : o.guard = none) (hd : s.okDst o.dst = true) (h : opA P s o k = some r) : ∃ s', OpOk P s o s' ∧ k s' = some r := by
  unfold opA at h
  split at h
  · rename_i hv; exact putV_ok hg hd hv h
  · split at h
    · rename_i hv; exact putB_ok hg hd hv h
    · split at h
      · exact opPick_ok hg hd h
      · exact opF_ok hg hd h
theorem opK_ok {R : Type} {P : Program} {ck : CallK} (hck : CallOk P ck) {fl : FuncId → Bool} {s : SSt} {o : Oper} {k : SSt → Option R} {r : R} (hg : o.guard = none) (h : opK P ck fl s o k = some r) : ∃ s', OpOk P s o s' ∧ k s' = some r := by
  unfold opK at h
  split at h
  · rename_i hd
    split at h
    · split at h
      · rename_i c ho; exact callX1_sound hck hg ho h
      · cases h
    · exact opA_ok hg hd h
  · cases h

/-! ### Guards -/
def skipK {R : Type} (s : SSt) (o : Oper) (k : SSt → Option R) : Option R := if s.okDst o.dst = true then k (s.put o.dst (.tup [])) else none
def guardK {R : Type} (P : Program) (ck : CallK) (fl : FuncId → Bool) (s : SSt) (o : Oper) (b want : Bool) (k : SSt → Option R) : Option R :=
  if b = want then opK P ck fl s { o with guard := none } k else skipK s o k
def opGK {R : Type} (P : Program) (ck : CallK) (fl : FuncId → Bool) (ops : Array Oper) (s : SSt) (o : Oper) (k : SSt → Option R) : Option R :=
  match o.guard with
  | none => opK P ck fl s o k
  | some (j, want) => match obind ops[j]? Oper.dst with
    | some t => match gt t s.tm with
      | some (.d (.v (.bool b))) => guardK P ck fl s o b want k
      | some (.tup []) => skipK s o k
      | some (.b x) => cond x (guardK P ck fl (s.know t true) o true want k) (guardK P ck fl (s.know t false) o false want k)
      | _ => none
    | none => none
/-- The same, whichever region it stands in. -/
def OpOkR (P : Program) (ops : Array Oper) (s : SSt) (o : Oper) (s' : SSt) : Prop := ∀ (l : List Oper) (Q : St → Prop), AWpL P ops l Q s'.toSt → AWpL P ops (o :: l) Q s.toSt
theorem skipK_ok {R : Type} {P : Program} {ops : Array Oper} {s : SSt} {o : Oper} {k : SSt → Option R} {r : R} {j t : Nat} {want : Bool} (hg : o.guard = some (j, want)) (ht : obind ops[j]? Oper.dst = some t)
    (hb : gt t s.toSt.tm = some (.tup []) ∨ ∃ b, gt t s.toSt.tm = some (.d (.v (.bool b))) ∧ b ≠ want) (h : skipK s o k = some r) : ∃ s', OpOkR P ops s o s' ∧ k s' = some r := by
  unfold skipK at h
  split at h
  · rename_i hd
    refine ⟨_, fun l Q next => ?_, h⟩
    rw [put_img] at next
    refine awpl_step (s' := s.toSt.put o.dst (.tup [])) ?_ (by simpa only [SV.toAV, SV.toAVs] using next)
    unfold stepG
    rw [hg]
    simp only [ht, gtO]
    rcases hb with hb | ⟨b, hb, hne⟩
    · rw [hb]; simp only [okDst_img, hd, if_true]
    · rw [hb]; simp only [if_neg hne, okDst_img, hd, if_true]
  · cases h
theorem guardK_ok {R : Type} {P : Program} {ck : CallK} (hck : CallOk P ck) {fl : FuncId → Bool} {ops : Array Oper} {s : SSt} {o : Oper} {k : SSt → Option R} {r : R} {j t : Nat} {b want : Bool} (hg : o.guard = some (j, want)) (ht : obind ops[j]? Oper.dst = some t)
    (hb : gt t s.toSt.tm = some (.d (.v (.bool b)))) (h : guardK P ck fl s o b want k = some r) : ∃ s', OpOkR P ops s o s' ∧ k s' = some r := by
  unfold guardK at h
  split at h
  · rename_i hbw
    subst hbw
    obtain ⟨s', h1, h2⟩ := opK_ok hck rfl h
    exact ⟨s', fun l Q next => awpl_guard hg (Option.bind_eq_some_iff.2 ⟨t, ht, hb⟩) (h1 ops l Q next), h2⟩
  · rename_i hbw
    exact skipK_ok hg ht (.inr ⟨b, hb, hbw⟩) h
theorem opGK_ok {R : Type} {P : Program} {ck : CallK} (hck : CallOk P ck) {fl : FuncId → Bool} {ops : Array Oper} {s : SSt} {o : Oper} {k : SSt → Option R} {r : R} (h : opGK P ck fl ops s o k = some r) : ∃ s', OpOkR P ops s o s' ∧ k s' = some r := by
  unfold opGK at h
  split at h
  · rename_i hg
    obtain ⟨s', h1, h2⟩ := opK_ok hck hg h
    exact ⟨s', fun l Q next => h1 ops l Q next, h2⟩
  · rename_i j want hg
    split at h
    · rename_i t ht
      have slot : ∀ {v : SV}, gt t s.tm = some v → gt t s.toSt.tm = some v.toAV := fun hv => by simp only [SSt.toSt, gt_mapk, hv, Option.map_some]
      split at h
      · rename_i b hb; exact guardK_ok hck hg ht (slot hb) h
      · rename_i hb; exact skipK_ok hg ht (.inl (by have := slot hb; simpa only [SV.toAV, SV.toAVs] using this)) h
      · rename_i x hb
        have hk := know_img hb
        have hs : gt t (s.know t x).toSt.tm = some (.d (.v (.bool x))) := by rw [hk]; exact slot hb
        cases x with
        | true =>
          obtain ⟨s', h1, h2⟩ := guardK_ok hck hg ht hs h
          exact ⟨s', fun l Q next => by have := h1 l Q next; rw [hk] at this; exact this, h2⟩
        | false =>
          obtain ⟨s', h1, h2⟩ := guardK_ok hck hg ht hs h
          exact ⟨s', fun l Q next => by have := h1 l Q next; rw [hk] at this; exact this, h2⟩
      · cases h
    · cases h
def opsR {R : Type} (P : Program) (ck : CallK) (fl : FuncId → Bool) (ops : Array Oper) : List Oper → SSt → (SSt → Option R) → Option R
  | [], s, k => k s
  | o :: l, s, k => opGK P ck fl ops s o fun s' => opsR P ck fl ops l s' k
theorem opsR_ok {R : Type} {P : Program} {ck : CallK} (hck : CallOk P ck) {fl : FuncId → Bool} {ops : Array Oper} {k : SSt → Option R} {r : R} : ∀ {l : List Oper} {s : SSt}, opsR P ck fl ops l s k = some r → ∃ s', k s' = some r ∧ ∀ Q : St → Prop, Q s'.toSt → AWpL P ops l Q s.toSt
  | [], s, h => ⟨s, h, fun Q hq => awpl_nil hq⟩
  | o :: l, s, h => by
    simp only [opsR] at h
    obtain ⟨s1, h1, h2⟩ := opGK_ok hck h
    obtain ⟨s', h3, h4⟩ := opsR_ok hck h2
    exact ⟨s', h3, fun Q hq => h1 l Q (h4 Q hq)⟩

/-! ### Drawn regions whose first operations write slots alone -/
theorem qop_le {P : Program} {ops : Array Oper} {o : Oper} {s : St} {u v : AV} (h : QOp P ops o s u) (hle : AVLe u v) : QOp P ops o s v := by
  intro s2 hn hp hl cx m a w K hr hK
  refine h s2 hn hp hl cx m a w K hr fun s' m' a' w' hs' hr' => ?_
  subst hs'
  exact hK _ m' a' w' rfl (le_put hle cx m' a' w' hr')
/-- The value of an operation of the head. -/
def datLastS : Nat → SV → List SB → Option (SV × List SB)
  | 0, R, BS => some (R, BS)
  | k + 1, R, BS => match BS.getLast? with
    | some B => match B.data with
      | some (x, y) => datLastS k (datS (BS.length - 1) x R) (BS.dropLast.map (datSB (BS.length - 1) x y))
      | none => none
    | none => none
theorem datLastS_img : ∀ {k : Nat} {R R' : SV} {BS BS' : List SB}, datLastS k R BS = some (R', BS') → datLast k R.toAV (BS.map SB.toB) = some (R'.toAV, BS'.map SB.toB)
  | 0, R, R', BS, BS', h => by simp only [datLastS, Option.some.injEq, Prod.mk.injEq] at h; obtain ⟨rfl, rfl⟩ := h; rfl
  | k + 1, R, R', BS, BS', h => by
    simp only [datLastS] at h
    split at h
    · rename_i B hB
      split at h
      · rename_i x y hd
        obtain ⟨h1, h2⟩ := SB.data_img hd
        have := datLastS_img h
        rw [datS_img h2] at this
        simp only [datLast, List.getLast?_map, hB, Option.map_some, h1, List.length_map]
        rw [← this]
        have e : (BS.map SB.toB).dropLast.map (datB (BS.length - 1) y) = (BS.dropLast.map (datSB (BS.length - 1) x y)).map SB.toB := by
          rw [← List.map_dropLast, List.map_map, List.map_map]
          exact List.map_congr_left fun B' _ => (datSB_img h2 B').symm
        rw [e]
      · cases h
    · cases h
def callQN {R : Type} (V : List Nat) (k : SV → Option R) (v : SV) (BS : List SB) : Option R :=
  match datLastS BS.length v BS with
  | some (v', []) => if V.isEmpty || flatV v'.toAV then k (renS (backF [] 16 0) v') else none
  | _ => none
def callQ {R : Type} (P : Program) (ck : CallK) (s : SSt) (dst : Option Nat) (c : Call) (k : SV → Option R) : Option R :=
  match goS P s c with
  | some (f, vs) => match P.funcs[f]? with
    | some fn => if fnOk fn && s.okDst dst then
        if (reachK s.toSt.hp 64 (keysVs ((SV.toAVs vs).filter notOwn)) []).isEmpty && (rmK [] (keysVs ((SV.toAVs vs).filter isOwn))).all (fun κ => (gt κ s.toSt.hp).isSome) then
          ck R f (argsS P s [] (rmK [] (keysVs ((SV.toAVs vs).filter isOwn))) fn.params.toList vs) [] (callQN (rmK [] (keysVs ((SV.toAVs vs).filter isOwn))) k)
        else none
      else none
    | none => none
  | none => none
theorem callQ_ok {R : Type} {P : Program} {ck : CallK} (hck : CallOk P ck) {ops : Array Oper} {s : SSt} {o : Oper} {c : Call} {k : SV → Option R} {r : R} (hg : o.guard = none) (ho : o.op = .call c) (hic : isCallO o.op = true) (h : callQ P ck s o.dst c k = some r) : ∃ v, QOp P ops o s.toSt v.toAV ∧ k v = some r := by
  unfold callQ at h
  split at h
  · rename_i f vs hgo
    split at h
    · rename_i fn hfn
      split at h
      · rename_i hk
        split at h
        · rename_i hc
          simp only [Bool.and_eq_true] at hc
          have hks : reachK s.toSt.hp 64 (keysVs ((SV.toAVs vs).filter notOwn)) [] = [] := List.isEmpty_iff.1 hc.1
          obtain ⟨v, BS, hl, hcall, hn⟩ := hck _ _ _ _ _ _ h
          unfold callQN at hn
          split at hn
          · rename_i v' hd
            split at hn
            · rename_i hf
              refine ⟨_, ?_, hn⟩
              rw [argsS_img] at hcall
              refine callD_sound (run1_ok (by simp) hcall) hg (v := (renS (backF [] 16 0) v').toAV) ?_
              have hd' := datLastS_img hd
              rw [renS_img]
              unfold callD
              rw [if_pos hic, ho]
              simp only [opCall, callD0, goS_img hgo, callD1, hfn, callD2]
              rw [okDst_img, if_pos hk, hks]
              simp only [callD3, callD4]
              have hb : pickB (fun x => posOf x []) s.toSt.hp [] = some [] := rfl
              rw [hb]
              simp only [callD5]
              rw [if_pos (by simp [nodupB]; simpa using hc.2)]
              have : (run1 f (argsA P s.toSt [] (rmK [] (keysVs (List.filter isOwn (SV.toAVs vs)))) fn.params.toList (SV.toAVs vs)) (List.map SB.toB []) v.toAV (List.map SB.toB BS)) f (argsA P s.toSt [] (rmK [] (keysVs (List.filter isOwn (SV.toAVs vs)))) fn.params.toList (SV.toAVs vs)) [] = some (v.toAV, BS.map SB.toB) := run1_self
              rw [this]
              simp only [callD6, List.length_map, List.length_nil, Nat.sub_zero, hd', callD7, List.map_nil, sameK, Bool.true_and, List.all_nil, Bool.and_true]
              rw [if_pos hf]
              congr 1
            · cases hn
          · cases hn
        · cases h
      · cases h
    · cases h
  · cases h
def obV {R : Type} (k : SV → Option R) (r : Bool × SV) : Option R := cond r.1 (k r.2) none
/-- An operation of the head, unguarded. -/
def headV {R : Type} (P : Program) (ck : CallK) (s : SSt) (o : Oper) (k : SV → Option R) : Option R :=
  if s.okDst o.dst = true then
    if isCallO o.op then match o.op with
      | .call c => callQ P ck s o.dst c k
      | _ => none
    else match valS P s o.op with
      | some r => obV k r
      | none => none
  else none
theorem headV_ok {R : Type} {P : Program} {ck : CallK} (hck : CallOk P ck) {ops : Array Oper} {s : SSt} {o : Oper} {k : SV → Option R} {r : R} (hg : o.guard = none) (h : headV P ck s o k = some r) : ∃ v, QOp P ops o s.toSt v.toAV ∧ k v = some r := by
  unfold headV at h
  split at h
  · rename_i hd
    split at h
    · rename_i hic
      split at h
      · rename_i c ho; exact callQ_ok hck hg ho hic h
      · cases h
    · split at h
      · rename_i x hv
        obtain ⟨ob, v⟩ := x
        unfold obV at h
        cases ob with
        | false => cases h
        | true =>
          obtain ⟨u, h1, h2⟩ := valS_sound hv rfl
          refine ⟨v, qop_le (qop_val (v := u) ?_) h2, h⟩
          unfold stepV
          rw [okDst_img, hd, hg]
          simpa using h1
      · cases h
  · cases h
def headG {R : Type} (P : Program) (ck : CallK) (s : SSt) (o : Oper) (b want : Bool) (k : SV → Option R) : Option R :=
  if b = want then headV P ck s { o with guard := none } k else if s.okDst o.dst = true then k (.tup []) else none
def headK {R : Type} (P : Program) (ck : CallK) (ops : Array Oper) (s : SSt) (o : Oper) (k : SSt → SV → Option R) : Option R :=
  match o.guard with
  | none => headV P ck s o (k s)
  | some (j, want) => match obind ops[j]? Oper.dst with
    | some t => match gt t s.tm with
      | some (.d (.v (.bool b))) => headG P ck s o b want (k s)
      | some (.tup []) => if s.okDst o.dst = true then k s (.tup []) else none
      | some (.b x) => cond x (headG P ck (s.know t true) o true want (k (s.know t true))) (headG P ck (s.know t false) o false want (k (s.know t false)))
      | _ => none
    | none => none
theorem headSkip {P : Program} {ops : Array Oper} {s : SSt} {o : Oper} {j t : Nat} {want : Bool} (hg : o.guard = some (j, want)) (ht : obind ops[j]? Oper.dst = some t) (hd : s.okDst o.dst = true)
    (hb : gt t s.toSt.tm = some (.tup []) ∨ ∃ b, gt t s.toSt.tm = some (.d (.v (.bool b))) ∧ b ≠ want) : QOp P ops o s.toSt (SV.tup []).toAV := by
  refine qop_val ?_
  unfold stepV
  rw [okDst_img, hd, hg]
  simp only [ht, gtO]
  rcases hb with hb | ⟨b, hb, hne⟩
  · rw [hb]; simp [SV.toAV, SV.toAVs]
  · rw [hb]; simp only [if_neg hne]; simp [SV.toAV, SV.toAVs]
theorem headG_ok {R : Type} {P : Program} {ck : CallK} (hck : CallOk P ck) {ops : Array Oper} {s : SSt} {o : Oper} {k : SV → Option R} {r : R} {j t : Nat} {b want : Bool} (hg : o.guard = some (j, want)) (ht : obind ops[j]? Oper.dst = some t)
    (hb : gt t s.toSt.tm = some (.d (.v (.bool b)))) (h : headG P ck s o b want k = some r) : ∃ v, QOp P ops o s.toSt v.toAV ∧ k v = some r := by
  unfold headG at h
  split at h
  · rename_i hbw
    subst hbw
    obtain ⟨v, h1, h2⟩ := headV_ok (ops := ops) hck rfl h
    exact ⟨v, qop_guard hg (by rw [ht]; exact hb) h1, h2⟩
  · rename_i hbw
    split at h
    · rename_i hd; exact ⟨_, headSkip hg ht hd (.inr ⟨b, hb, hbw⟩), h⟩
    · cases h
theorem headK_ok {R : Type} {P : Program} {ck : CallK} (hck : CallOk P ck) {ops : Array Oper} {s : SSt} {o : Oper} {k : SSt → SV → Option R} {r : R} (h : headK P ck ops s o k = some r) : ∃ s' v, s'.toSt = s.toSt ∧ QOp P ops o s.toSt v.toAV ∧ k s' v = some r := by
  unfold headK at h
  split at h
  · rename_i hg
    obtain ⟨v, h1, h2⟩ := headV_ok (ops := ops) hck hg h
    exact ⟨s, v, rfl, h1, h2⟩
  · rename_i j want hg
    split at h
    · rename_i t ht
      have slot : ∀ {v : SV}, gt t s.tm = some v → gt t s.toSt.tm = some v.toAV := fun hv => by simp only [SSt.toSt, gt_mapk, hv, Option.map_some]
      split at h
      · rename_i b hb
        obtain ⟨v, h1, h2⟩ := headG_ok hck hg ht (slot hb) h
        exact ⟨s, v, rfl, h1, h2⟩
      · rename_i hb
        split at h
        · rename_i hd; exact ⟨s, _, rfl, headSkip hg ht hd (.inl (by have := slot hb; simpa only [SV.toAV, SV.toAVs] using this)), h⟩
        · cases h
      · rename_i x hb
        have hk := know_img hb
        have hs : gt t (s.know t x).toSt.tm = some (.d (.v (.bool x))) := by rw [hk]; exact slot hb
        cases x with
        | true =>
          obtain ⟨v, h1, h2⟩ := headG_ok hck hg ht hs h
          exact ⟨_, v, hk, by rw [hk] at h1; exact h1, h2⟩
        | false =>
          obtain ⟨v, h1, h2⟩ := headG_ok hck hg ht hs h
          exact ⟨_, v, hk, by rw [hk] at h1; exact h1, h2⟩
      · cases h
    · cases h
def headsK {R : Type} (P : Program) (ck : CallK) (ops : Array Oper) : Nat → List Oper → SSt → (List Oper → SSt → Option R) → Option R
  | 0, l, s, k => k l s
  | p + 1, o :: l, s, k => headK P ck ops s o fun s' v => headsK P ck ops p l (s'.put o.dst v) k
  | _ + 1, [], _, _ => none
theorem headsK_ok {R : Type} {P : Program} {ck : CallK} (hck : CallOk P ck) {ops : Array Oper} {k : List Oper → SSt → Option R} {r : R} : ∀ {p : Nat} {l : List Oper} {s : SSt}, headsK P ck ops p l s k = some r →
    ∃ l' s', k l' s' = some r ∧ ∀ RR : List Oper → St → Prop, RR l' s'.toSt → QRunN P ops RR p l s.toSt
  | 0, l, s, h => ⟨l, s, h, fun RR hr => hr⟩
  | p + 1, o :: l, s, h => by
    simp only [headsK] at h
    obtain ⟨s1, v, h1, h2, h3⟩ := headK_ok hck h
    obtain ⟨l', s', h4, h5⟩ := headsK_ok hck h3
    refine ⟨l', s', h4, fun RR hr => ?_⟩
    have := h5 RR hr
    rw [put_img, h1] at this
    exact ⟨v.toAV, h2, this⟩
  | p + 1, [], s, h => by simp [headsK] at h
end Go.Proofs.Ytpdbekbobkjfgaa
