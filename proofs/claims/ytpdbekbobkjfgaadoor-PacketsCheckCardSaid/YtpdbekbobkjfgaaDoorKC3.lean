/-
  An abstract view of the machine: runs reckoned out, by which a slice of an own row is only measured.
  Conditions: none; nothing here speaks of one program.
-/
import Derived.Test.YtpdbekbobkjfgaaDoorKC2
namespace Go.Proofs.YtpdbekbobkjfgaaDoor
open Go.RowKit
set_option linter.unusedVariables false

def readsO (t : Nat) (x : Operand) : Bool := match x with | .tmp t' => t' == t | _ => false
def readsC : Code → Nat → Bool
  | .region _ ops _, t => ops.toList.any fun o => o.op.operands.toList.any (readsO t)
  | .seq a b, t => readsC a t || readsC b t
  | .cond c a b, t => readsO t c || (readsC a t || readsC b t)
  | .block _ c, t => readsC c t
  | .loop c, t => readsC c t
  | .scope c, t => readsC c t
  | .rangeFunc _ _ _ _, _ => true
  | _, _ => false

def isSlA (o : Oper) : Bool := match o.op with | .slice _ _ _ _ _ => true | _ => false
def lenOfA (t : Nat) (o : Oper) : Bool := match o.op with
  | .call c => match c.callee with
    | .builtin .len => match c.args.toList with
      | [.tmp t'] => t' == t
      | _ => false
    | _ => false
  | _ => false
def peekV (P : Program) (s sf : St) (o1 o2 : Oper) : Option St :=
  match o1.guard, o2.guard, s.okDst o1.dst && (sf.okDst o1.dst && (s.put o1.dst .bot).okDst o2.dst) with
  | none, none, true => match valOp P sf o1.op with
    | some v1 => match valOp P (sf.put o1.dst v1) o2.op with
      | some (.d (.v (.int k n))) => some ((s.put o1.dst .bot).put o2.dst (.d (.v (.int k n))))
      | _ => none
    | none => none
  | _, _, _ => none
def peekX (P : Program) (ops : Array Oper) (rd : Nat → Bool) (s : St) : List Oper → Option (St × List Oper)
  | o1 :: o2 :: post => match o1.dst with
    | some t => if lenOfA t o2 && (!(takenK s o1).isEmpty && !rd t && post.all fun o => !(o.looksAt ops).contains t) then
        match freezeL s (takenK s o1) with
        | some sf => match peekV P s sf o1 o2 with
          | some s2 => some (s2, post)
          | none => none
        | none => none
      else none
    | none => none
  | _ => none
def regN (P : Program) (run : RunF) (ops : Array Oper) (rd : Nat → Bool) (s : St) : Option St :=
  match ops.toList.dropWhile fun o => !isSlA o with
  | [] => opsX P run ops ops.toList s
  | r => match opsX P run ops (ops.toList.takeWhile fun o => !isSlA o) s with
    | some s1 => match peekX P ops rd s1 r with
      | some (s2, post) => opsX P run ops post s2
      | none => opsX P run ops r s1
    | none => none
theorem opsX_sound2 {P : Program} {run : RunF} (hrun : RunOk P run) {ops : Array Oper} {Q : St → Prop} (l2 : List Oper) : ∀ {l : List Oper} {s s' : St}, opsX P run ops l s = some s' → AWpL P ops l2 Q s' → AWpL P ops (l ++ l2) Q s
  | [], s, s', h, hq => by simp only [opsX, Option.some.injEq] at h; subst h; exact hq
  | o :: l, s, s', h, hq => by
    simp only [opsX] at h
    split at h
    · rename_i s1 h1
      exact opG_sound hrun h1 (opsX_sound2 hrun l2 h hq)
    · cases h
theorem wp_yldA {P : Program} {o : Oper} {a : Act} {w : World} {u : Value} {ops : Array Oper} {l : List Oper} {K : Exit → Act → World → Prop} (hg : o.guard = none) (h : Yld P o a w u) (next : wpList P ops K l (a.put o.dst u) w) : wpList P ops K (o :: l) a w := by
  unfold wpList
  rw [if_pos (wanted_none hg _)]
  refine .inl ?_
  unfold Oper.wp
  unfold Yld at h
  rw [h]
  exact next
theorem peekX_sound {P : Program} {ops : Array Oper} {rd : Nat → Bool} {s s2 : St} {l post : List Oper} {Q : St → Prop} (h : peekX P ops rd s l = some (s2, post)) (next : AWpL P ops post Q s2) : AWpL P ops l Q s := by
  unfold peekX at h
  split at h
  · rename_i o1 o2 post'
    split at h
    · rename_i t ht
      split at h
      · split at h
        · rename_i sf hf
          split at h
          · rename_i s2' hv
            simp only [Option.some.injEq, Prod.mk.injEq] at h
            obtain ⟨rfl, rfl⟩ := h
            unfold peekV at hv
            split at hv
            · rename_i hg1 hg2 hd
              simp only [Bool.and_eq_true] at hd
              obtain ⟨hd1, hd1f, hd2⟩ := hd
              split at hv
              · rename_i v1 hv1
                split at hv
                · rename_i k n hv2
                  cases hv
                  intro cx m a w K hr hk
                  have hrf : SRep cx m sf a w := freezeL_sound hf hr
                  obtain ⟨u1, y1, q1⟩ := valOp_sound hrf hv1
                  obtain ⟨u2, y2, q2⟩ := valOp_sound (hrf.put hd1f q1) hv2
                  refine wp_yldA hg1 y1 (wp_yldA hg2 y2 (next cx m _ w K ?_ hk))
                  refine (hr.put hd1 (v := .bot) (u := u1) (by simp only [RepV])).put hd2 ?_
                  simp only [RepV, RepD] at q2 ⊢
                  exact q2
                · cases hv
              · cases hv
            · cases hv
          · cases h
        · cases h
      · cases h
    · cases h
  · cases h
theorem regN_sound {P : Program} {run : RunF} (hrun : RunOk P run) {ops : Array Oper} {rd : Nat → Bool} {Q : St → Prop} {s s' : St} (h : regN P run ops rd s = some s') (hq : Q s') : AWpL P ops ops.toList Q s := by
  unfold regN at h
  split at h
  · exact opsX_sound hrun h hq
  · rename_i r hr
    split at h
    · rename_i s1 h1
      have e : ops.toList = (ops.toList.takeWhile fun o => !isSlA o) ++ (ops.toList.dropWhile fun o => !isSlA o) := (List.takeWhile_append_dropWhile ..).symm
      rw [e]
      refine opsX_sound2 hrun _ h1 ?_
      split at h
      · rename_i s2 post h2
        exact peekX_sound h2 (opsX_sound hrun h hq)
      · exact opsX_sound hrun h hq
    · cases h
noncomputable def regF0 (P : Program) (run : RunF) (ops : Array Oper) (rd : Nat → Bool) (s : St) : Option St :=
  match regN P run ops rd s with
  | some s' => some s'
  | none => match freezeL s (namedK s ops.toList) with
    | some s1 => regN P run ops rd s1
    | none => none
theorem regF0_sound {P : Program} {run : RunF} (hrun : RunOk P run) {ops : Array Oper} {rd : Nat → Bool} {Q : St → Prop} {s s' : St} (h : regF0 P run ops rd s = some s') (hq : Q s') : AWpL P ops ops.toList Q s := by
  unfold regF0 at h
  split at h
  · rename_i s1 h1
    cases h
    exact regN_sound hrun h1 hq
  · split at h
    · rename_i s1 h1
      exact fun cx m a w K hr hK => regN_sound hrun h hq cx m a w K (freezeL_sound h1 hr) hK
    · cases h

def ownA : List AV → List Nat
  | [] => []
  | v :: l => (match v with | .own κ => [κ] | _ => []) ++ ownA l
def loadA (P : Program) (s : St) (t : Nat) : List Oper → List Nat
  | [] => []
  | o :: l => (if o.dst = some t then match o.op with
      | .load ty ad => match s.ev ad, aggT P ty with
        | some (.ptr κ off), some true => match gt κ s.hp, szT P ty with
          | some (.box _ cs), some n => ownA ((cs.drop off).take n)
          | _, _ => []
        | _, _ => []
      | _ => []
    else []) ++ loadA P s t l
def preRows (P : Program) (s : St) (ops : List Oper) : List Oper → List Nat
  | [] => []
  | o :: l => (match o.op with
      | .call c => if isCallO o.op then c.args.toList.flatMap fun x => match x with | .tmp t => loadA P s t ops | _ => [] else []
      | _ => []) ++ preRows P s ops l
def uniqN : List Nat → List Nat
  | [] => []
  | x :: l => if l.contains x then uniqN l else x :: uniqN l
noncomputable def regF (P : Program) (run : RunF) (ops : Array Oper) (rd : Nat → Bool) (s : St) : Option St :=
  match uniqN (preRows P s ops.toList ops.toList) with
  | [] => regF0 P run ops rd s
  | l => match freezeL s l with
    | some s1 => regF0 P run ops rd s1
    | none => regF0 P run ops rd s
theorem regF_sound {P : Program} {run : RunF} (hrun : RunOk P run) {ops : Array Oper} {rd : Nat → Bool} {Q : St → Prop} {s s' : St} (h : regF P run ops rd s = some s') (hq : Q s') : AWpL P ops ops.toList Q s := by
  unfold regF at h
  split at h
  · exact regF0_sound hrun h hq
  · split at h
    · rename_i s1 h1
      exact fun cx m a w K hr hK => regF0_sound hrun h hq cx m a w K (freezeL_sound h1 hr) hK
    · exact regF0_sound hrun h hq

mutual
noncomputable def codeY (P : Program) (ov : RunF) : Nat → Code → St → Option (Exit × St)
  | 0, _, _ => none
  | n + 1, c, s => match c with
    | .skip => some (.normal, s)
    | .label _ => some (.normal, s)
    | .exit i => some (.exit i, s)
    | .ret => some (.ret, s)
    | .goto l => some (.goto l, s)
    | .seq a b => match a with
      | .region _ ops false => match regF P (fun f vs hs => funcY P ov n f vs hs) ops (readsC b) s with
        | some s' => codeY P ov n b s'
        | none => none
      | a => match codeY P ov n a s with
        | some (.normal, s') => codeY P ov n b s'
        | r => r
    | .cond c a b => match s.ev c with
      | some (.d (.v (.bool true))) => codeY P ov n a s
      | some (.d (.v (.bool false))) => codeY P ov n b s
      | _ => none
    | .block i c => match codeY P ov n c s with
      | some (.exit j, s') => if j = i then some (.normal, s') else some (.exit j, s')
      | r => r
    | .scope c => match codeY P ov n c s with
      | some (.goto l, s') => match findLabel c l with
        | some rest => match codeY P ov n rest s' with
          | some (.goto _, _) => none
          | r => r
        | none => none
      | r => r
    | .loop c => match codeY P ov n c s with
      | some (.normal, s') => codeY P ov n (.loop c) s'
      | r => r
    | .region _ ops draw => match regX P (fun f vs hs => funcY P ov n f vs hs) ops draw s with
      | some s' => some (.normal, s')
      | none => none
    | _ => none
termination_by structural n => n
noncomputable def funcY (P : Program) (ov : RunF) : Nat → FuncId → List AV → List Blk → Option (AV × List Blk)
  | 0, _, _, _ => none
  | n + 1, f, vs, hs => match ov f vs hs with
    | some r => some r
    | none => match P.funcs[f]? with
    | some fn => match fn.body with
      | some c => if decide (vs.length ≤ fn.ntmps) then
          match codeY P ov n c ⟨fn.ntmps, tmFrom 0 vs, hpFrom 0 hs⟩ with
          | some (e, s') => match e, resA P s' fn.results.toList with
            | .ret, some r => doneX s' hs.length r
            | .normal, some r => doneX s' hs.length r
            | _, _ => none
          | none => none
        else none
      | none => none
    | none => none
termination_by structural n => n
end


theorem runY_sound {P : Program} (hm : P.follows .mixedOrders = true) {ov : RunF} (hov : RunOk P ov) : ∀ n, (∀ (c : Code) (s : St) e s', codeY P ov n c s = some (e, s') → ∀ Q : Exit → St → Prop, Q e s' → AWp P c Q s) ∧
    (∀ (c : Code) (s : St) e s', codeY P ov n (.loop c) s = some (e, s') → ∀ (cx : Ctx) (m : Nat → Value) (a : Act) (w : World) (Q : Exit → Act → World → Prop), (∀ m' a' w', SRep cx m' s' a' w' → Q e a' w') → SRep cx m s a w → LoopAt P c Q a w) ∧ RunOk P (fun f vs hs => funcY P ov n f vs hs) := by
  intro n
  induction n with
  | zero =>
    refine ⟨fun c s e s' h => by simp [codeY] at h, fun c s e s' h => by simp [codeY] at h, fun f vs hs R BS h => by simp [funcY] at h⟩
  | succ n ih =>
    obtain ⟨ih1, ih2, ih3⟩ := ih
    have loop : ∀ (c : Code) (s : St) e s', codeY P ov (n + 1) (.loop c) s = some (e, s') → ∀ (cx : Ctx) (m : Nat → Value) (a : Act) (w : World) (Q : Exit → Act → World → Prop), (∀ m' a' w', SRep cx m' s' a' w' → Q e a' w') → SRep cx m s a w → LoopAt P c Q a w := by
      intro c s e s' h cx m a w Q hQ hr
      simp only [codeY] at h
      split at h
      · rename_i s1 h1
        have := ih1 c s .normal s1 h1 (fun e' s2 => e' = .normal ∧ s2 = s1) ⟨rfl, rfl⟩ cx m a w hr
        refine loopAt_step (Code.wp_mono ?_ this)
        rintro e' a' w' ⟨s2, m', ⟨rfl, rfl⟩, hr'⟩
        exact ih2 c _ e s' h cx m' a' w' Q hQ hr'
      · rename_i r hno
        have hen : e ≠ .normal := by
          rintro rfl
          exact hno s' h
        have := ih1 c s e s' h (fun e' s2 => e' = e ∧ s2 = s') ⟨rfl, rfl⟩ cx m a w hr
        refine loopAt_step (Code.wp_mono ?_ this)
        rintro e' a' w' ⟨s2, m', ⟨rfl, rfl⟩, hr'⟩
        have := hQ m' a' w' hr'
        cases e' <;> first | exact absurd rfl hen | exact this
    refine ⟨?_, loop, ?_⟩
    · intro c s e s' h Q hQ
      have h0 := h
      simp only [codeY] at h
      split at h
      · cases h; exact awp_skip hQ
      · cases h; exact awp_label hQ
      · cases h; exact awp_exit hQ
      · cases h; exact awp_ret hQ
      · cases h; exact awp_goto hQ
      · rename_i a b
        split at h
        · rename_i id ops
          split at h
          · rename_i s1 h1
            exact awp_seq (awp_region (regF_sound ih3 h1 (by simp only [Xthen]; exact ih1 b s1 e s' h Q hQ)))
          · cases h
        · rename_i a' _
          split at h
          · rename_i s1 h1
            exact awp_seq (ih1 _ s .normal s1 h1 _ (by simp only [Xthen]; exact ih1 b s1 e s' h Q hQ))
          · rename_i hno
            have hen : e ≠ .normal := by
              rintro rfl
              exact hno s' h
            refine awp_seq (ih1 _ s e s' h _ ?_)
            cases e <;> first | exact absurd rfl hen | exact hQ
      · rename_i x a b
        split at h
        · rename_i hx; exact awp_cond_true hx (ih1 a s e s' h Q hQ)
        · rename_i hx; exact awp_cond_false hx (ih1 b s e s' h Q hQ)
        · cases h
      · rename_i i c
        split at h
        · rename_i j s1 h1
          refine awp_block (ih1 c s _ s1 h1 _ ?_)
          simp only [Xblock]
          split at h
          · rename_i hj; rw [if_pos hj]; cases h; exact hQ
          · rename_i hj; rw [if_neg hj]; cases h; exact hQ
        · rename_i hno
          refine awp_block (ih1 c s e s' h _ ?_)
          cases e with
          | exit j => exact absurd h (hno j s')
          | _ => exact hQ
      · rename_i c
        split at h
        · rename_i l s1 h1
          split at h
          · rename_i rest hf
            split at h
            · cases h
            · rename_i hno
              refine awp_scope_fwd l hf (ih1 c s _ s1 h1 _ ?_)
              refine ⟨rfl, ih1 rest s1 e s' h _ ?_⟩
              cases e with
              | goto j => exact absurd h (hno j s')
              | _ => exact hQ
          · cases h
        · rename_i hno
          refine awp_scope (ih1 c s e s' h _ ?_)
          cases e with
          | goto j => exact absurd h (hno j s')
          | _ => exact hQ
      · rename_i c
        intro cx m a w hr
        exact loopAt_of (loop c s e s' h0 cx m a w _ (fun m' a' w' hr' => ⟨s', m', hQ, hr'⟩) hr)
      · rename_i id ops draw
        split at h
        · rename_i s1 h1
          cases h
          exact regX_sound hm ih3 h1 hQ
        · cases h
      · cases h
    · intro f vs hs R BS h
      simp only [funcY] at h
      split at h
      · rename_i r hr
        cases h
        exact hov _ _ _ _ _ hr
      split at h
      · rename_i fn hfn
        split at h
        · rename_i c hc
          split at h
          · rename_i hle
            simp only [decide_eq_true_eq] at hle
            split at h
            · rename_i e s' h1
              have key : ∀ (he : e = .ret ∨ e = .normal) r, resA P s' fn.results.toList = some r → doneX s' hs.length r = some (R, BS) → hs.length ≤ BS.length ∧ ACall P f vs hs fun r hs' => r = R ∧ hs' = BS := by
                intro he r hr hd
                obtain ⟨p1, p2⟩ := doneX_post he hr hd
                exact ⟨p2, acall_body hfn hc rfl rfl hle (ih1 c _ e s' h1 _ p1)⟩
              split at h
              · rename_i r hr; exact key (.inl rfl) r hr h
              · rename_i r hr; exact key (.inr rfl) r hr h
              · cases h
            · cases h
          · cases h
        · cases h
      · cases h

noncomputable def boolY (P : Program) (ov : RunF) (n : Nat) (f : FuncId) : Option Bool :=
  match funcY P ov n f [] [] with
  | some (.d (.v (.bool b)), []) => some b
  | _ => none
theorem boolY_sound {P : Program} (hm : P.follows .mixedOrders = true) {ov : RunF} (hov : RunOk P ov) {n : Nat} {f : FuncId} {b : Bool} (h : boolY P ov n f = some b) : AFun P f [] (.v (.bool b)) := by
  unfold boolY at h
  split at h
  · rename_i b' hR
    cases h
    exact ((runY_sound hm hov n).2.2 _ _ _ _ _ hR).2
  · cases h
end Go.Proofs.YtpdbekbobkjfgaaDoor

