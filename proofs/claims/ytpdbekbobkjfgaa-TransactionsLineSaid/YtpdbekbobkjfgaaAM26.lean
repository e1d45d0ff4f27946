/-
  An abstract view of the machine, part 26: drawn regions and whole functions reckoned out, and that these are runs of the machine.
  Conditions: none; nothing here speaks of one program.
-/
import Derived.Test.YtpdbekbobkjfgaaAM25
import Derived.ScopeJumps
namespace Go.Proofs.Ytpdbekbobkjfgaa
open Go.RowKit
set_option linter.unusedVariables false

theorem lop_guard {P : Program} {ops : Array Oper} {s : St} {q : Loc} {o : Oper} {j : Nat} {b : Bool} (hg : o.guard = some (j, b)) (hq : q.o = { o with guard := none }) (hrd : q.reads = ({ o with guard := none } : Oper).looksAt ops) (hb : gtO (obind ops[j]? Oper.dst) s.tm = some (.d (.v (.bool b)))) (h : LOp P ops s q) :
    LOp P ops s ⟨o, q.e, o.looksAt ops, q.keys, q.kill⟩ := by
  obtain ⟨t, ht, hb'⟩ := gtO_some hb
  intro s2 hn hr hk hn1 hn2
  have htl : t ∈ o.looksAt ops := List.mem_append_right _ (by have hd' : (ops[j]?).bind (·.dst) = some t := ht
                                                              simp [hg, hd'])
  have := h s2 hn (fun t' ht' => hr t' (by
    rw [hrd] at ht'
    simp only [Oper.looksAt, List.mem_append] at ht' ⊢
    rcases ht' with h | h
    · exact .inl h
    · simp at h)) hk hn1 hn2
  rw [hq] at this
  exact awpl_guard hg (Option.bind_eq_some_iff.2 ⟨t, ht, by rw [hr t htl]; exact hb'⟩) this

/-- An operation of a drawn region, with all that it does. -/
noncomputable def locX (P : Program) (run : RunF) (ops : Array Oper) (s : St) (o : Oper) : Option Loc :=
  match valK P run ops s o with
  | some v => some ⟨o, ⟨dstW o.dst v, []⟩, o.looksAt ops, opsK s o.op.operands.toList, []⟩
  | none => if s.okDst o.dst = true then match o.guard with
      | none => omap (blkE P s o) (blkLoc ops s o)
      | some (j, want) => match gtO (obind ops[j]? Oper.dst) s.tm with
        | some (.d (.v (.bool b))) => if b = want then omap (blkE P s { o with guard := none }) fun r =>
            ⟨o, (blkLoc ops s { o with guard := none } r).e, o.looksAt ops, (blkLoc ops s { o with guard := none } r).keys, (blkLoc ops s { o with guard := none } r).kill⟩ else none
        | _ => none
    else none
theorem locX_sound {P : Program} {run : RunF} (hrun : RunOk P run) {ops : Array Oper} {s : St} {o : Oper} {q : Loc} (h : locX P run ops s o = some q) : LOp P ops s q ∧ q.o = o := by
  unfold locX at h
  split at h
  · rename_i v hv; cases h; exact ⟨lop_val hrun hv, rfl⟩
  · split at h
    · rename_i hok
      split at h
      · rename_i hg
        obtain ⟨r, hr, rfl⟩ := Option.map_eq_some_iff.1 h
        exact ⟨lop_blk hg hr hok, rfl⟩
      · rename_i j want hg
        split at h
        · rename_i b hb
          split at h
          · rename_i hbw
            subst hbw
            obtain ⟨r, hr, rfl⟩ := Option.map_eq_some_iff.1 h
            exact ⟨lop_guard (q := blkLoc ops s { o with guard := none } r) hg rfl rfl hb (lop_blk (o := { o with guard := none }) rfl hr hok), rfl⟩
          · cases h
        · cases h
    · cases h
noncomputable def locsX (P : Program) (run : RunF) (ops : Array Oper) : Nat → List Oper → St → Option (List Loc × St)
  | 0, _, s => some ([], s)
  | _ + 1, [], _ => none
  | p + 1, o :: l, s => match locX P run ops s o with
    | some q => match locsX P run ops p l (applyE s q.e) with
      | some (L, s') => some (q :: L, s')
      | none => none
    | none => none
theorem maskE_shift {D : Nat → Bool} : ∀ {L : List Loc} {i : Nat} {s : St}, maskE D (i + 1) L s = maskE (fun k => D (k + 1)) i L s
  | [], _, _ => rfl
  | q :: l, i, s => by simp only [maskE]; exact maskE_shift
theorem maskE_none {D : Nat → Bool} : ∀ {L : List Loc} {i : Nat} {s : St}, (∀ k, D k = false) → maskE D i L s = s
  | [], _, _, _ => rfl
  | q :: l, i, s, h => by simp only [maskE, h, Bool.false_eq_true, if_false]; exact maskE_none h
theorem locsX_values {P : Program} {run : RunF} (hrun : RunOk P run) {ops : Array Oper} : ∀ {p : Nat} {l : List Oper} {s s' : St} {L : List Loc}, locsX P run ops p l s = some (L, s') →
    L.length = p ∧ p ≤ l.length ∧ L.map (·.o) = l.take p ∧ (∀ (i : Nat) q, L[i]? = some q → LOp P ops (maskE (fun k => decide (k < i)) 0 L s) q) ∧ s' = maskE (fun _ => true) 0 L s
  | 0, l, s, s', L, h => by
    simp only [locsX, Option.some.injEq, Prod.mk.injEq] at h
    obtain ⟨rfl, rfl⟩ := h
    exact ⟨rfl, by simp, by simp, by simp, rfl⟩
  | p + 1, [], s, s', L, h => by simp [locsX] at h
  | p + 1, o :: l, s, s', L, h => by
    simp only [locsX] at h
    split at h
    · rename_i q hq
      split at h
      · rename_i L' s1 h1
        simp only [Option.some.injEq, Prod.mk.injEq] at h
        obtain ⟨rfl, rfl⟩ := h
        obtain ⟨e1, e2, e3, e4, e5⟩ := locsX_values hrun h1
        obtain ⟨q1, q2⟩ := locX_sound hrun hq
        refine ⟨by simp [e1], by simp; exact e2, by simp [e3, q2], fun i q' hi => ?_, ?_⟩
        · cases i with
          | zero =>
            simp at hi; subst hi
            rw [maskE_none (fun k => by simp)]; exact q1
          | succ i =>
            have := e4 i q' (by simpa using hi)
            simp only [maskE]
            rw [maskE_shift]
            simp only [Nat.zero_lt_succ, decide_true, if_true]
            have e : (fun k => decide (k + 1 < i + 1)) = fun k => decide (k < i) := by funext k; simp
            rw [e]; exact this
        · simp only [maskE, if_true]
          rw [maskE_shift, e5]
      · cases h
    · cases h
noncomputable def drawX (P : Program) (run : RunF) (ops : Array Oper) (s : St) : Option St :=
  match leastOk ops.toList (ops.size + 1) 0 with
  | some p => match locsX P run ops p ops.toList s with
    | some (L, s') => if edgesBack 0 ops.toList && (tailOk p ops.toList && indepOk ops.toList s L) then opsX P run ops (ops.toList.drop p) s' else none
    | none => none
  | none => none
theorem drawX_sound {P : Program} (hm : P.follows .mixedOrders = true) {run : RunF} (hrun : RunOk P run) {id : Nat} {ops : Array Oper} {s s' : St} {Q : Exit → St → Prop} (h : drawX P run ops s = some s') (hQ : Q .normal s') : AWp P (.region id ops true) Q s := by
  have e : ops = ops.toList.toArray := by simp
  unfold drawX at h
  split at h
  · rename_i p hp
    split at h
    · rename_i L s1 h1
      split at h
      · rename_i hc
        simp only [Bool.and_eq_true] at hc
        obtain ⟨c1, c2, c3⟩ := hc
        obtain ⟨e1, e2, e3, e4, e5⟩ := locsX_values hrun h1
        subst e1
        rw [e]
        refine awp_drawL L hm c1 c2 e2 e3 c3 (by simpa using e4) ?_
        rw [← e5]
        exact opsX_sound hrun (by simpa using h) hQ
      · cases h
    · cases h
  · cases h

/-! ### Regions and functions -/
/-- A scope that is left forward, to one label. -/
theorem awp_scope_fwd {P : Program} {c rest : Code} {s : St} {Q : Exit → St → Prop} (l : Nat) (hf : findLabel c l = some rest) (h : AWp P c (fun e s' => match e with | .goto l' => l' = l ∧ AWp P rest (Xscope Q) s' | e => Q e s') s) : AWp P (.scope c) Q s := by
  intro cx m a w hr
  refine wp_scope_jumps l (fun a w => ∃ m' s', SRep cx m' s' a w ∧ AWp P rest (Xscope Q) s') (fun _ _ => 0) hf (Code.wp_mono ?_ (h cx m a w hr)) ?_
  · rintro e a' w' ⟨s', m', h1, h2⟩
    cases e with
    | goto l' => exact ⟨h1.1, m', s', h2, h1.2⟩
    | _ => exact ⟨s', m', h1, h2⟩
  · rintro a' w' ⟨m', s', h1, h2⟩
    refine Code.wp_mono ?_ (h2 cx m' a' w' h1)
    rintro e a' w' ⟨s', m', h1, h2⟩
    cases e with
    | goto l' => exact h1.elim
    | _ => exact ⟨s', m', h1, h2⟩
noncomputable def regD (P : Program) (run : RunF) (ops : Array Oper) (s : St) : Option St :=
  match leastOk ops.toList (ops.size + 1) 0 with
  | some p => if drawOk ops.toList p then
      match valsX P run ops p ops.toList s with
      | some (l, s') => opsX P run ops l s'
      | none => drawX P run ops s
    else drawX P run ops s
  | none => none
/-- The own rows that the operations of a region name, or the boxes that they name. -/
def namedK (s : St) (l : List Oper) : List Nat := (reachK s.hp 64 (l.flatMap fun o => opsK s o.op.operands.toList) []).filter (isRowK s.hp)
noncomputable def regX (P : Program) (run : RunF) (ops : Array Oper) (draw : Bool) (s : St) : Option St :=
  if draw then
    match regD P run ops (preFix s ops.toList) with
    | some s' => some s'
    | none => match freezeL (preFix s ops.toList) (namedK (preFix s ops.toList) ops.toList) with
      | some s1 => regD P run ops s1
      | none => none
  else opsX P run ops ops.toList s

/-- What a function hands back. -/
def doneX (s' : St) (n : Nat) (r : AV) : Option (AV × List Blk) :=
  let ks := List.range n ++ (reachK s'.hp 64 (List.range n ++ keysV r) []).filter fun κ => decide (n ≤ κ)
  if nodupB ks then match pickB (posOf · ks) s'.hp ks with
    | some bs => some (renV (posOf · ks) r, bs)
    | none => none
  else none

mutual
noncomputable def codeX (P : Program) (ov : RunF) : Nat → Code → St → Option (Exit × St)
  | 0, _, _ => none
  | n + 1, c, s => match c with
    | .skip => some (.normal, s)
    | .label _ => some (.normal, s)
    | .exit i => some (.exit i, s)
    | .ret => some (.ret, s)
    | .goto l => some (.goto l, s)
    | .seq a b => match codeX P ov n a s with
      | some (.normal, s') => codeX P ov n b s'
      | r => r
    | .cond c a b => match s.ev c with
      | some (.d (.v (.bool true))) => codeX P ov n a s
      | some (.d (.v (.bool false))) => codeX P ov n b s
      | _ => none
    | .block i c => match codeX P ov n c s with
      | some (.exit j, s') => if j = i then some (.normal, s') else some (.exit j, s')
      | r => r
    | .scope c => match codeX P ov n c s with
      | some (.goto l, s') => match findLabel c l with
        | some rest => match codeX P ov n rest s' with
          | some (.goto _, _) => none
          | r => r
        | none => none
      | r => r
    | .loop c => match codeX P ov n c s with
      | some (.normal, s') => codeX P ov n (.loop c) s'
      | r => r
    | .region _ ops draw => match regX P (fun f vs hs => funcX P ov n f vs hs) ops draw s with
      | some s' => some (.normal, s')
      | none => none
    | _ => none
termination_by structural n => n
noncomputable def funcX (P : Program) (ov : RunF) : Nat → FuncId → List AV → List Blk → Option (AV × List Blk)
  | 0, _, _, _ => none
  | n + 1, f, vs, hs => match ov f vs hs with
    | some r => some r
    | none => match P.funcs[f]? with
    | some fn => match fn.body with
      | some c => if decide (vs.length ≤ fn.ntmps) then
          match codeX P ov n c ⟨fn.ntmps, tmFrom 0 vs, hpFrom 0 hs⟩ with
          | some (e, s') => match e, resA P s' fn.results.toList with
            | .ret, some r => doneX s' hs.length r
            | .normal, some r => doneX s' hs.length r
            | _, _ => none
          | none => none
        else none
      | none => none
    | none => none
termination_by structural n => n
end


theorem regD_sound {P : Program} (hm : P.follows .mixedOrders = true) {run : RunF} (hrun : RunOk P run) {id : Nat} {ops : Array Oper} {s s' : St} {Q : Exit → St → Prop} (h : regD P run ops s = some s') (hQ : Q .normal s') : AWp P (.region id ops true) Q s := by
  have e : ops = ops.toList.toArray := by simp
  unfold regD at h
  split at h
  · rename_i p hp
    split at h
    · rename_i hok
      split at h
      · rename_i l s1 h1
        rw [e]
        refine awp_drawq p hm hok (valsX_sound hrun (by simpa using h1) ?_)
        exact opsX_sound hrun (by simpa using h) hQ
      · exact drawX_sound hm hrun h hQ
    · exact drawX_sound hm hrun h hQ
  · cases h
theorem regX_sound {P : Program} (hm : P.follows .mixedOrders = true) {run : RunF} (hrun : RunOk P run) {id : Nat} {ops : Array Oper} {draw : Bool} {s s' : St} {Q : Exit → St → Prop} (h : regX P run ops draw s = some s') (hQ : Q .normal s') : AWp P (.region id ops draw) Q s := by
  unfold regX at h
  split at h
  · rename_i hd
    subst hd
    split at h
    · rename_i s1 h1
      cases h
      exact fun cx m a w hr => regD_sound hm hrun h1 hQ cx m a w (preFix_sound hr)
    · split at h
      · rename_i s1 h1
        exact fun cx m a w hr => regD_sound hm hrun h hQ cx m a w (freezeL_sound h1 (preFix_sound hr))
      · cases h
  · rename_i hd
    have hd : draw = false := by simpa using hd
    subst hd
    exact awp_region (opsX_sound hrun h hQ)

theorem doneX_post {P : Program} {s' : St} {n : Nat} {r R : AV} {BS : List Blk} {res : List ResultVar} {e : Exit} (he : e = .ret ∨ e = .normal) (hr : resA P s' res = some r) (h : doneX s' n r = some (R, BS)) : FPost P res n (fun r' hs' => r' = R ∧ hs' = BS) e s' ∧ n ≤ BS.length := by
  unfold doneX at h
  simp only at h
  split at h
  · rename_i hn
    split at h
    · rename_i bs hb
      simp only [Option.some.injEq, Prod.mk.injEq] at h
      obtain ⟨rfl, rfl⟩ := h
      refine ⟨fret _ he ?_ (by simp) (nodupB_get hn) hb hr ⟨rfl, rfl⟩, ?_⟩
      · rw [List.take_append_of_le_length (by simp), List.take_of_length_le (by simp)]
      · rw [(pickB_get hb).1]; simp
    · cases h
  · cases h

theorem run_sound {P : Program} (hm : P.follows .mixedOrders = true) {ov : RunF} (hov : RunOk P ov) : ∀ n, (∀ (c : Code) (s : St) e s', codeX P ov n c s = some (e, s') → ∀ Q : Exit → St → Prop, Q e s' → AWp P c Q s) ∧
    (∀ (c : Code) (s : St) e s', codeX P ov n (.loop c) s = some (e, s') → ∀ (cx : Ctx) (m : Nat → Value) (a : Act) (w : World) (Q : Exit → Act → World → Prop), (∀ m' a' w', SRep cx m' s' a' w' → Q e a' w') → SRep cx m s a w → LoopAt P c Q a w) ∧ RunOk P (fun f vs hs => funcX P ov n f vs hs) := by
  intro n
  induction n with
  | zero =>
    refine ⟨fun c s e s' h => by simp [codeX] at h, fun c s e s' h => by simp [codeX] at h, fun f vs hs R BS h => by simp [funcX] at h⟩
  | succ n ih =>
    obtain ⟨ih1, ih2, ih3⟩ := ih
    have loop : ∀ (c : Code) (s : St) e s', codeX P ov (n + 1) (.loop c) s = some (e, s') → ∀ (cx : Ctx) (m : Nat → Value) (a : Act) (w : World) (Q : Exit → Act → World → Prop), (∀ m' a' w', SRep cx m' s' a' w' → Q e a' w') → SRep cx m s a w → LoopAt P c Q a w := by
      intro c s e s' h cx m a w Q hQ hr
      simp only [codeX] at h
      split at h
      · rename_i s1 h1
        have := ih1 c s .normal s1 h1 (fun e' s2 => e' = .normal ∧ s2 = s1) ⟨rfl, rfl⟩ cx m a w hr
        refine loopAt_step (Code.wp_mono ?_ this)
        rintro e' a' w' ⟨s2, m', ⟨rfl, rfl⟩, hr'⟩
        exact ih2 c _ e s' h cx m' a' w' Q hQ hr'
      · rename_i r hno
        have hen : e ≠ .normal := by
          rintro rfl
          exact hno s' h
        have := ih1 c s e s' h (fun e' s2 => e' = e ∧ s2 = s') ⟨rfl, rfl⟩ cx m a w hr
        refine loopAt_step (Code.wp_mono ?_ this)
        rintro e' a' w' ⟨s2, m', ⟨rfl, rfl⟩, hr'⟩
        have := hQ m' a' w' hr'
        cases e' <;> first | exact absurd rfl hen | exact this
    refine ⟨?_, loop, ?_⟩
    · intro c s e s' h Q hQ
      have h0 := h
      simp only [codeX] at h
      split at h
      · cases h; exact awp_skip hQ
      · cases h; exact awp_label hQ
      · cases h; exact awp_exit hQ
      · cases h; exact awp_ret hQ
      · cases h; exact awp_goto hQ
      · rename_i a b
        split at h
        · rename_i s1 h1
          exact awp_seq (ih1 a s .normal s1 h1 _ (by simp only [Xthen]; exact ih1 b s1 e s' h Q hQ))
        · rename_i hno
          have hen : e ≠ .normal := by
            rintro rfl
            exact hno s' h
          refine awp_seq (ih1 a s e s' h _ ?_)
          cases e <;> first | exact absurd rfl hen | exact hQ
      · rename_i x a b
        split at h
        · rename_i hx; exact awp_cond_true hx (ih1 a s e s' h Q hQ)
        · rename_i hx; exact awp_cond_false hx (ih1 b s e s' h Q hQ)
        · cases h
      · rename_i i c
        split at h
        · rename_i j s1 h1
          refine awp_block (ih1 c s _ s1 h1 _ ?_)
          simp only [Xblock]
          split at h
          · rename_i hj; rw [if_pos hj]; cases h; exact hQ
          · rename_i hj; rw [if_neg hj]; cases h; exact hQ
        · rename_i hno
          refine awp_block (ih1 c s e s' h _ ?_)
          cases e with
          | exit j => exact absurd h (hno j s')
          | _ => exact hQ
      · rename_i c
        split at h
        · rename_i l s1 h1
          split at h
          · rename_i rest hf
            split at h
            · cases h
            · rename_i hno
              refine awp_scope_fwd l hf (ih1 c s _ s1 h1 _ ?_)
              refine ⟨rfl, ih1 rest s1 e s' h _ ?_⟩
              cases e with
              | goto j => exact absurd h (hno j s')
              | _ => exact hQ
          · cases h
        · rename_i hno
          refine awp_scope (ih1 c s e s' h _ ?_)
          cases e with
          | goto j => exact absurd h (hno j s')
          | _ => exact hQ
      · rename_i c
        intro cx m a w hr
        exact loopAt_of (loop c s e s' h0 cx m a w _ (fun m' a' w' hr' => ⟨s', m', hQ, hr'⟩) hr)
      · rename_i id ops draw
        split at h
        · rename_i s1 h1
          cases h
          exact regX_sound hm ih3 h1 hQ
        · cases h
      · cases h
    · intro f vs hs R BS h
      simp only [funcX] at h
      split at h
      · rename_i r hr
        cases h
        exact hov _ _ _ _ _ hr
      split at h
      · rename_i fn hfn
        split at h
        · rename_i c hc
          split at h
          · rename_i hle
            simp only [decide_eq_true_eq] at hle
            split at h
            · rename_i e s' h1
              have key : ∀ (he : e = .ret ∨ e = .normal) r, resA P s' fn.results.toList = some r → doneX s' hs.length r = some (R, BS) → hs.length ≤ BS.length ∧ ACall P f vs hs fun r hs' => r = R ∧ hs' = BS := by
                intro he r hr hd
                obtain ⟨p1, p2⟩ := doneX_post he hr hd
                exact ⟨p2, acall_body hfn hc rfl rfl hle (ih1 c _ e s' h1 _ p1)⟩
              split at h
              · rename_i r hr; exact key (.inl rfl) r hr h
              · rename_i r hr; exact key (.inr rfl) r hr h
              · cases h
            · cases h
          · cases h
        · cases h
      · cases h

/-- A closed run that returns a bool. -/
noncomputable def boolX (P : Program) (ov : RunF) (n : Nat) (f : FuncId) : Option Bool :=
  match funcX P ov n f [] [] with
  | some (.d (.v (.bool b)), []) => some b
  | _ => none
theorem boolX_sound {P : Program} (hm : P.follows .mixedOrders = true) {ov : RunF} (hov : RunOk P ov) {n : Nat} {f : FuncId} {b : Bool} (h : boolX P ov n f = some b) : AFun P f [] (.v (.bool b)) := by
  unfold boolX at h
  split at h
  · rename_i b' hR
    cases h
    exact ((run_sound hm hov n).2.2 _ _ _ _ _ hR).2
  · cases h
/-- A run that is reckoned out by rewriting. -/
theorem afun_x {P : Program} (hm : P.follows .mixedOrders = true) {ov : RunF} (hov : RunOk P ov) (n : Nat) {f : FuncId} {ds : List D} {d : D} (h : ∀ r, funcX P ov n f (ds.map .d) [] = r → r = some (.d d, [])) : AFun P f ds d := ((run_sound hm hov n).2.2 _ _ _ _ _ (h _ rfl)).2
theorem aret_x {P : Program} (hm : P.follows .mixedOrders = true) {ov : RunF} (hov : RunOk P ov) (n : Nat) {f : FuncId} {ds : List D} {R : AV} {BS : List Blk} (h : ∀ r, funcX P ov n f (ds.map .d) [] = r → r = some (R, BS)) : ACall P f (ds.map .d) [] fun r hs' => r = R ∧ hs' = BS := ((run_sound hm hov n).2.2 _ _ _ _ _ (h _ rfl)).2
end Go.Proofs.Ytpdbekbobkjfgaa
