/-
  An abstract view of the machine, part 21: a run that is reckoned out is a run of the machine.
  Conditions: none; nothing here speaks of one program.
-/
import Derived.Test.YtapbnkbknflggaaAM20
namespace Go.Proofs.Ytapbnkbknflggaa
open Go.RowKit
set_option linter.unusedVariables false

theorem freezeL_sound {cx : Ctx} {m : Nat → Value} {a : Act} {w : World} : ∀ {l : List Nat} {s s1 : St}, freezeL s l = some s1 → SRep cx m s a w → SRep cx m s1 a w
  | [], s, s1, h, hr => by simp only [freezeL, Option.some.injEq] at h; subst h; exact hr
  | κ :: l, s, s1, h, hr => by
    simp only [freezeL] at h
    split at h
    · rename_i d hd
      obtain ⟨B, hB, hBd⟩ := Option.bind_eq_some_iff.1 hd
      exact freezeL_sound h (hr.freeze hB hBd)
    · cases h

theorem preFix_sound {cx : Ctx} {m : Nat → Value} {a : Act} {w : World} : ∀ {l : List Oper} {s : St}, SRep cx m s a w → SRep cx m (preFix s l) a w
  | [], s, hr => hr
  | o :: l, s, hr => by
    unfold preFix
    repeat' split
    all_goals first
      | exact preFix_sound hr
      | (rename_i hB _ _ hd; exact preFix_sound (hr.fix hB hd))
theorem maxK_le : ∀ (l : List (Nat × Blk)) (n : Nat), n ≤ maxK l n
  | [], n => Nat.le_refl _
  | (k, _) :: l, n => by
    simp only [maxK]
    refine Nat.le_trans ?_ (maxK_le l _)
    split <;> omega

theorem callS_sound {P : Program} {run : RunF} (hrun : RunOk P run) {s s' : St} {V : List Nat} {o : Oper} {l : List Oper} {ops : Array Oper} {Q : St → Prop} {g : Operand} {args : Array Operand} {tys : Array TypeId} {f : FuncId} {fn : Func} {vs caps : List AV}
    (hg : o.guard = none) (ho : o.op = .call { callee := .value g, args := args, argTypes := tys }) (hf : IsFn P f fn) (hgv : s.ev g = some (.clos f caps)) (hvs : s.evL args.toList = some vs) (hdst : s.okDst o.dst = true)
    (h : callS P run s V f fn o.dst vs caps = some s') (next : AWpL P ops l Q s') : AWpL P ops (o :: l) Q s := by
  unfold callS at h
  simp only at h
  split at h
  · rename_i bs hb
    split at h
    · rename_i hc
      simp only [Bool.and_eq_true, decide_eq_true_eq] at hc
      obtain ⟨h1, h2, h3, h4⟩ := hc
      split at h
      · rename_i R BS hR
        split at h
        · rename_i hfl
          cases h
          obtain ⟨r1, r2⟩ := hrun _ _ _ _ _ hR
          refine awpl_call hg ho hf hgv hvs hdst _ _ (maxK s.hp 16) r2 (nodupB_get h1) hb h2 (maxK_le s.hp 16) (fun κ hκ => ⟨?_, List.all_eq_true.1 h3 κ hκ⟩) ?_
          · have := (List.mem_filter.1 hκ).2
            simpa using this
          · rintro r hs' ⟨rfl, rfl⟩ _
            refine ⟨fun κ hκ => .inl (by simpa using List.all_eq_true.1 h4 κ hκ), ?_, next⟩
            simp only [Bool.or_eq_true, Bool.and_eq_true] at hfl
            rcases hfl with hfl | ⟨h5, h6⟩
            · exact .inl (List.isEmpty_iff.1 hfl)
            · exact .inr ⟨h5, fun B hB => List.all_eq_true.1 h6 B hB⟩
        · cases h
      · cases h
    · cases h
  · cases h

theorem isFn_of {P : Program} {f : FuncId} {fn : Func} (h : P.funcs[f]? = some fn) (hk : fnOk fn = true) : IsFn P f fn := by
  simp only [fnOk, Bool.and_eq_true, Bool.not_eq_true'] at hk
  exact ⟨h, hk.1, hk.2⟩

theorem opX_sound {P : Program} {run : RunF} (hrun : RunOk P run) {s s' : St} {o : Oper} {l : List Oper} {ops : Array Oper} {Q : St → Prop} (hg : o.guard = none) (h : opX P run s o = some s') (next : AWpL P ops l Q s') : AWpL P ops (o :: l) Q s := by
  have one : ∀ s1, stepF P s1 o = some s' → AWpL P ops (o :: l) Q s1 := fun s1 h => awpl_step (by unfold stepG; rw [hg]; exact h) next
  have plain : stepX P s o = some s' → AWpL P ops (o :: l) Q s := by
    intro h cx m a w K hr hK
    unfold stepX at h
    simp only at h
    split at h
    · rename_i s2 h2
      cases h
      exact one _ h2 cx m a w K (preFix_sound hr) hK
    · split at h
      · rename_i s1 h1
        exact one _ h cx m a w K (freezeL_sound h1 (preFix_sound hr)) hK
      · cases h
  unfold opX at h
  split at h
  · rename_i g args tys ho
    split at h
    · rename_i f caps vs hgv hvs
      split at h
      · rename_i fn hfn
        split at h
        · rename_i hk
          simp only [Bool.and_eq_true] at hk
          simp only at h
          split at h
          · rename_i s2 hs2
            cases h
            exact callS_sound hrun hg ho (isFn_of hfn hk.1) hgv hvs hk.2 hs2 next
          · split at h
            · rename_i s1 hs1
              split at h
              · rename_i f' caps' vs' h1 h2
                split at h
                · rename_i hc
                  obtain ⟨rfl, hc⟩ := hc
                  have := callS_sound hrun hg ho (isFn_of hfn hk.1) h1 h2 hc h next
                  exact fun cx m a w K hr hK => this cx m a w K (freezeL_sound hs1 hr) hK
                · cases h
              · cases h
            · cases h
        · cases h
      · cases h
    · cases h
  · exact plain h

theorem opG_sound {P : Program} {run : RunF} (hrun : RunOk P run) {s s' : St} {o : Oper} {l : List Oper} {ops : Array Oper} {Q : St → Prop} (h : opG P run ops s o = some s') (next : AWpL P ops l Q s') : AWpL P ops (o :: l) Q s := by
  unfold opG at h
  split at h
  · rename_i hg; exact opX_sound hrun hg h next
  · rename_i j want hg
    split at h
    · rename_i b hb
      split at h
      · rename_i hbw
        subst hbw
        obtain ⟨t, ht, hb'⟩ := gtO_some hb
        exact awpl_guard hg (Option.bind_eq_some_iff.2 ⟨t, ht, hb'⟩) (opX_sound hrun rfl h next)
      · rename_i hbw
        split at h
        · rename_i hok
          cases h
          refine awpl_step (s' := s.put o.dst (.tup [])) ?_ next
          unfold stepG
          rw [hg]
          simp only [hb, if_neg hbw, hok, if_true]
        · cases h
    · rename_i hb
      split at h
      · rename_i hok
        cases h
        refine awpl_step (s' := s.put o.dst (.tup [])) ?_ next
        unfold stepG
        rw [hg]
        simp only [hb, hok, if_true]
      · cases h
    · cases h

theorem opsX_sound {P : Program} {run : RunF} (hrun : RunOk P run) {ops : Array Oper} {Q : St → Prop} : ∀ {l : List Oper} {s s' : St}, opsX P run ops l s = some s' → Q s' → AWpL P ops l Q s
  | [], s, s', h, hq => by simp only [opsX, Option.some.injEq] at h; subst h; exact awpl_nil hq
  | o :: l, s, s', h, hq => by
    simp only [opsX] at h
    split at h
    · rename_i s1 h1
      exact opG_sound hrun h1 (opsX_sound hrun h hq)
    · cases h

theorem allD_map : ∀ {vs : List AV} {ds : List D}, allD vs = some ds → vs = ds.map .d
  | [], ds, h => by simp only [allD, Option.some.injEq] at h; subst h; rfl
  | v :: vs, ds, h => by
    cases v with
    | d x =>
      simp only [allD] at h
      obtain ⟨r, h1, rfl⟩ := Option.map_eq_some_iff.1 h
      rw [allD_map h1]; rfl
    | _ => simp [allD] at h

theorem callD_sound {P : Program} {run : RunF} (hrun : RunOk P run) {s : St} {o : Oper} {ops : Array Oper} {v : AV} (hg : o.guard = none) (h : callD P run s o = some v) : QOp P ops o s v := by
  unfold callD at h
  split at h
  · rename_i f args tys ho
    split at h
    · rename_i vs hvs
      split at h
      · rename_i fn hfn
        split at h
        · rename_i hk
          simp only [Bool.and_eq_true] at hk
          simp only at h
          split at h
          · rename_i ds hds
            split at h
            · rename_i hV
              have fin : ∀ d, AFun P f ds d → (keysVs (vs.filter isOwn)).isEmpty = true ∨ flatD d = true → QOp P ops o s (.d d) := by
                intro d hd hfl
                refine qop_call hg ho (isFn_of hfn hk.1) rfl hvs hk.2 _ hd (allD_map hds) (fun κ hκ => List.all_eq_true.1 hV κ hκ) ?_
                rcases hfl with h | h
                · exact .inl (List.isEmpty_iff.1 h)
                · exact .inr h
              split at h
              · rename_i d hR
                split at h
                · rename_i hfl
                  cases h
                  simp only [Bool.or_eq_true] at hfl
                  exact fin d (hrun _ _ _ _ _ hR).2 hfl
                · cases h
              · rename_i B hR
                split at h
                · rename_i d hB
                  split at h
                  · rename_i hfl
                    cases h
                    simp only [Bool.or_eq_true] at hfl
                    exact fin d (afun_of_arow (hrun _ _ _ _ _ hR).2 hB) hfl
                  · cases h
                · cases h
              · cases h
            · cases h
          · cases h
        · cases h
      · cases h
    · cases h
  · cases h

/-- The guard of an operation that only looks at slots. -/
theorem qop_guard {P : Program} {ops : Array Oper} {o : Oper} {s : St} {v : AV} {j : Nat} {b : Bool} (hg : o.guard = some (j, b)) (hb : gtO (obind ops[j]? Oper.dst) s.tm = some (.d (.v (.bool b)))) (h : QOp P ops { o with guard := none } s v) : QOp P ops o s v := by
  obtain ⟨t, ht, hb'⟩ := gtO_some hb
  intro s2 hn hp hl
  have htl : t ∈ o.looksAt ops := List.mem_append_right _ (by have hd' : (ops[j]?).bind (·.dst) = some t := ht
                                                              simp [hg, hd'])
  refine awpl_guard hg (Option.bind_eq_some_iff.2 ⟨t, ht, by rw [hl t htl]; exact hb'⟩) (h s2 hn hp fun t' ht' => hl t' ?_)
  simp only [Oper.looksAt, List.mem_append] at ht' ⊢
  rcases ht' with h | h
  · exact .inl h
  · simp at h

theorem valX_sound {P : Program} {run : RunF} (hrun : RunOk P run) {s : St} {o : Oper} {ops : Array Oper} {v : AV} (h : valX P run ops s o = some v) : QOp P ops o s v := by
  unfold valX at h
  split at h
  · rename_i v' hv; cases h; exact qop_val hv
  · split at h
    · rename_i hg; exact callD_sound hrun hg h
    · rename_i j want hg
      split at h
      · rename_i b hb
        split at h
        · rename_i hbw
          subst hbw
          exact qop_guard hg hb (callD_sound hrun rfl h)
        · cases h
      · cases h

theorem valsX_sound {P : Program} {run : RunF} (hrun : RunOk P run) {ops : Array Oper} {R : List Oper → St → Prop} : ∀ {p : Nat} {l l' : List Oper} {s s' : St}, valsX P run ops p l s = some (l', s') → R l' s' → QRunN P ops R p l s
  | 0, l, l', s, s', h, hR => by simp only [valsX, Option.some.injEq, Prod.mk.injEq] at h; obtain ⟨rfl, rfl⟩ := h; exact hR
  | p + 1, [], l', s, s', h, hR => by simp [valsX] at h
  | p + 1, o :: l, l', s, s', h, hR => by
    simp only [valsX] at h
    split at h
    · rename_i v hv
      exact ⟨v, valX_sound hrun hv, valsX_sound hrun h hR⟩
    · cases h

theorem regX_sound {P : Program} (hm : P.follows .mixedOrders = true) {run : RunF} (hrun : RunOk P run) {id : Nat} {ops : Array Oper} {draw : Bool} {s s' : St} {Q : Exit → St → Prop} (h : regX P run ops draw s = some s') (hQ : Q .normal s') : AWp P (.region id ops draw) Q s := by
  have e : ops = ops.toList.toArray := by simp
  unfold regX at h
  split at h
  · rename_i hd
    subst hd
    simp only at h
    suffices hpre : AWp P (.region id ops true) Q (preFix s ops.toList) from fun cx m a w hr => hpre cx m a w (preFix_sound hr)
    generalize preFix s ops.toList = s at h ⊢
    split at h
    · rename_i p hp
      split at h
      · rename_i hok
        split at h
        · rename_i l s1 h1
          rw [e]
          refine awp_drawq p hm hok (valsX_sound hrun (by simpa using h1) ?_)
          exact opsX_sound hrun (by simpa using h) hQ
        · cases h
      · cases h
    · cases h
  · rename_i hd
    have hd : draw = false := by simpa using hd
    subst hd
    exact awp_region (opsX_sound hrun h hQ)

theorem doneX_post {P : Program} {s' : St} {n : Nat} {r R : AV} {BS : List Blk} {res : List ResultVar} {e : Exit} (he : e = .ret ∨ e = .normal) (hr : resA P s' res = some r) (h : doneX s' n r = some (R, BS)) : FPost P res n (fun r' hs' => r' = R ∧ hs' = BS) e s' ∧ n ≤ BS.length := by
  unfold doneX at h
  simp only at h
  split at h
  · rename_i hn
    split at h
    · rename_i bs hb
      simp only [Option.some.injEq, Prod.mk.injEq] at h
      obtain ⟨rfl, rfl⟩ := h
      refine ⟨fret _ he ?_ (by simp) (nodupB_get hn) hb hr ⟨rfl, rfl⟩, ?_⟩
      · rw [List.take_append_of_le_length (by simp), List.take_of_length_le (by simp)]
      · rw [(pickB_get hb).1]; simp
    · cases h
  · cases h

theorem run_sound {P : Program} (hm : P.follows .mixedOrders = true) {ov : RunF} (hov : RunOk P ov) : ∀ n, (∀ (c : Code) (s : St) e s', codeX P ov n c s = some (e, s') → ∀ Q : Exit → St → Prop, Q e s' → AWp P c Q s) ∧
    (∀ (c : Code) (s : St) e s', codeX P ov n (.loop c) s = some (e, s') → ∀ (cx : Ctx) (m : Nat → Value) (a : Act) (w : World) (Q : Exit → Act → World → Prop), (∀ m' a' w', SRep cx m' s' a' w' → Q e a' w') → SRep cx m s a w → LoopAt P c Q a w) ∧ RunOk P (fun f vs hs => funcX P ov n f vs hs) := by
  intro n
  induction n with
  | zero =>
    refine ⟨fun c s e s' h => by simp [codeX] at h, fun c s e s' h => by simp [codeX] at h, fun f vs hs R BS h => by simp [funcX] at h⟩
  | succ n ih =>
    obtain ⟨ih1, ih2, ih3⟩ := ih
    have loop : ∀ (c : Code) (s : St) e s', codeX P ov (n + 1) (.loop c) s = some (e, s') → ∀ (cx : Ctx) (m : Nat → Value) (a : Act) (w : World) (Q : Exit → Act → World → Prop), (∀ m' a' w', SRep cx m' s' a' w' → Q e a' w') → SRep cx m s a w → LoopAt P c Q a w := by
      intro c s e s' h cx m a w Q hQ hr
      simp only [codeX] at h
      split at h
      · rename_i s1 h1
        have := ih1 c s .normal s1 h1 (fun e' s2 => e' = .normal ∧ s2 = s1) ⟨rfl, rfl⟩ cx m a w hr
        refine loopAt_step (Code.wp_mono ?_ this)
        rintro e' a' w' ⟨s2, m', ⟨rfl, rfl⟩, hr'⟩
        exact ih2 c _ e s' h cx m' a' w' Q hQ hr'
      · rename_i r hno
        have hen : e ≠ .normal := by
          rintro rfl
          exact hno s' h
        have := ih1 c s e s' h (fun e' s2 => e' = e ∧ s2 = s') ⟨rfl, rfl⟩ cx m a w hr
        refine loopAt_step (Code.wp_mono ?_ this)
        rintro e' a' w' ⟨s2, m', ⟨rfl, rfl⟩, hr'⟩
        have := hQ m' a' w' hr'
        cases e' <;> first | exact absurd rfl hen | exact this
    refine ⟨?_, loop, ?_⟩
    · intro c s e s' h Q hQ
      have h0 := h
      simp only [codeX] at h
      split at h
      · cases h; exact awp_skip hQ
      · cases h; exact awp_label hQ
      · cases h; exact awp_exit hQ
      · cases h; exact awp_ret hQ
      · cases h; exact awp_goto hQ
      · rename_i a b
        split at h
        · rename_i s1 h1
          exact awp_seq (ih1 a s .normal s1 h1 _ (by simp only [Xthen]; exact ih1 b s1 e s' h Q hQ))
        · rename_i hno
          have hen : e ≠ .normal := by
            rintro rfl
            exact hno s' h
          refine awp_seq (ih1 a s e s' h _ ?_)
          cases e <;> first | exact absurd rfl hen | exact hQ
      · rename_i x a b
        split at h
        · rename_i hx; exact awp_cond_true hx (ih1 a s e s' h Q hQ)
        · rename_i hx; exact awp_cond_false hx (ih1 b s e s' h Q hQ)
        · cases h
      · rename_i i c
        split at h
        · rename_i j s1 h1
          refine awp_block (ih1 c s _ s1 h1 _ ?_)
          simp only [Xblock]
          split at h
          · rename_i hj; rw [if_pos hj]; cases h; exact hQ
          · rename_i hj; rw [if_neg hj]; cases h; exact hQ
        · rename_i hno
          refine awp_block (ih1 c s e s' h _ ?_)
          cases e with
          | exit j => exact absurd h (hno j s')
          | _ => exact hQ
      · rename_i c
        split at h
        · cases h
        · rename_i hno
          refine awp_scope (ih1 c s e s' h _ ?_)
          cases e with
          | goto j => exact absurd h (hno j s')
          | _ => exact hQ
      · rename_i c
        intro cx m a w hr
        exact loopAt_of (loop c s e s' h0 cx m a w _ (fun m' a' w' hr' => ⟨s', m', hQ, hr'⟩) hr)
      · rename_i id ops draw
        split at h
        · rename_i s1 h1
          cases h
          exact regX_sound hm ih3 h1 hQ
        · cases h
      · cases h
    · intro f vs hs R BS h
      simp only [funcX] at h
      split at h
      · rename_i r hr
        cases h
        exact hov _ _ _ _ _ hr
      split at h
      · rename_i fn hfn
        split at h
        · rename_i c hc
          split at h
          · rename_i hle
            simp only [decide_eq_true_eq] at hle
            split at h
            · rename_i e s' h1
              have key : ∀ (he : e = .ret ∨ e = .normal) r, resA P s' fn.results.toList = some r → doneX s' hs.length r = some (R, BS) → hs.length ≤ BS.length ∧ ACall P f vs hs fun r hs' => r = R ∧ hs' = BS := by
                intro he r hr hd
                obtain ⟨p1, p2⟩ := doneX_post he hr hd
                exact ⟨p2, acall_body hfn hc rfl rfl hle (ih1 c _ e s' h1 _ p1)⟩
              split at h
              · rename_i r hr; exact key (.inl rfl) r hr h
              · rename_i r hr; exact key (.inr rfl) r hr h
              · cases h
            · cases h
          · cases h
        · cases h
      · cases h

/-- A closed run that returns a bool. -/
def boolX (P : Program) (ov : RunF) (n : Nat) (f : FuncId) : Option Bool :=
  match funcX P ov n f [] [] with
  | some (.d (.v (.bool b)), []) => some b
  | _ => none
theorem boolX_sound {P : Program} (hm : P.follows .mixedOrders = true) {ov : RunF} (hov : RunOk P ov) {n : Nat} {f : FuncId} {b : Bool} (h : boolX P ov n f = some b) : AFun P f [] (.v (.bool b)) := by
  unfold boolX at h
  split at h
  · rename_i b' hR
    cases h
    exact ((run_sound hm hov n).2.2 _ _ _ _ _ hR).2
  · cases h
/-- A run that is reckoned out by rewriting. -/
theorem afun_x {P : Program} (hm : P.follows .mixedOrders = true) {ov : RunF} (hov : RunOk P ov) (n : Nat) {f : FuncId} {ds : List D} {d : D} (h : ∀ r, funcX P ov n f (ds.map .d) [] = r → r = some (.d d, [])) : AFun P f ds d := ((run_sound hm hov n).2.2 _ _ _ _ _ (h _ rfl)).2
theorem aret_x {P : Program} (hm : P.follows .mixedOrders = true) {ov : RunF} (hov : RunOk P ov) (n : Nat) {f : FuncId} {ds : List D} {R : AV} {BS : List Blk} (h : ∀ r, funcX P ov n f (ds.map .d) [] = r → r = some (R, BS)) : ACall P f (ds.map .d) [] fun r hs' => r = R ∧ hs' = BS := ((run_sound hm hov n).2.2 _ _ _ _ _ (h _ rfl)).2
end Go.Proofs.Ytapbnkbknflggaa
