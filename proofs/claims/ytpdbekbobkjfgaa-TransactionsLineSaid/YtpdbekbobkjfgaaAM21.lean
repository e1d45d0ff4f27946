/-
  An abstract view of the machine, part 21: a run that is reckoned out is a run of the machine.
  Conditions: none; nothing here speaks of one program.
-/
import Derived.Test.YtpdbekbobkjfgaaAM20
namespace Go.Proofs.Ytpdbekbobkjfgaa
open Go.RowKit
set_option linter.unusedVariables false

theorem freezeL_sound {cx : Ctx} {m : Nat → Value} {a : Act} {w : World} : ∀ {l : List Nat} {s s1 : St}, freezeL s l = some s1 → SRep cx m s a w → SRep cx m s1 a w
  | [], s, s1, h, hr => by simp only [freezeL, Option.some.injEq] at h; subst h; exact hr
  | κ :: l, s, s1, h, hr => by
    simp only [freezeL] at h
    split at h
    · rename_i d hd
      obtain ⟨B, hB, hBd⟩ := Option.bind_eq_some_iff.1 hd
      exact freezeL_sound h (hr.freeze hB hBd)
    · cases h

theorem preFix_sound {cx : Ctx} {m : Nat → Value} {a : Act} {w : World} : ∀ {l : List Oper} {s : St}, SRep cx m s a w → SRep cx m (preFix s l) a w
  | [], s, hr => hr
  | o :: l, s, hr => by
    unfold preFix
    repeat' split
    all_goals first
      | exact preFix_sound hr
      | (rename_i hB _ _ hd; exact preFix_sound (hr.fix hB hd))
theorem maxK_le : ∀ (l : List (Nat × Blk)) (n : Nat), n ≤ maxK l n
  | [], n => Nat.le_refl _
  | (k, _) :: l, n => by
    simp only [maxK]
    refine Nat.le_trans ?_ (maxK_le l _)
    split <;> omega

theorem callS_sound {P : Program} {run : RunF} (hrun : RunOk P run) {s s' : St} {V : List Nat} {o : Oper} {l : List Oper} {ops : Array Oper} {Q : St → Prop} {f : FuncId} {fn : Func} {vs : List AV}
    (hg : o.guard = none) (hf : IsFn P f fn) (hgo : GoesTo P s o f vs) (hdst : s.okDst o.dst = true)
    (h : callS P run s V f fn o.dst vs = some s') (next : AWpL P ops l Q s') : AWpL P ops (o :: l) Q s := by
  unfold callS at h
  simp only at h
  split at h
  · rename_i bs hb
    split at h
    · rename_i hc
      simp only [Bool.and_eq_true, decide_eq_true_eq] at hc
      obtain ⟨h1, h2, h3, h4⟩ := hc
      split at h
      · rename_i R BS hR
        split at h
        · rename_i hfl
          cases h
          obtain ⟨r1, r2⟩ := hrun _ _ _ _ _ hR
          refine awpl_callG hg hf hgo hdst _ _ (maxK s.hp (16 + s.n)) r2 (nodupB_get h1) hb h2 (Nat.le_trans (Nat.le_add_right 16 s.n) (maxK_le s.hp (16 + s.n))) (fun κ hκ => ⟨?_, List.all_eq_true.1 h3 κ hκ⟩) ?_
          · have := (List.mem_filter.1 hκ).2
            simpa using this
          · rintro r hs' ⟨rfl, rfl⟩ _
            refine ⟨fun κ hκ => .inl (by simpa using List.all_eq_true.1 h4 κ hκ), ?_, next⟩
            simp only [Bool.or_eq_true, Bool.and_eq_true] at hfl
            rcases hfl with hfl | ⟨h5, h6⟩
            · exact .inl (List.isEmpty_iff.1 hfl)
            · exact .inr ⟨h5, fun B hB => List.all_eq_true.1 h6 B hB⟩
        · cases h
      · cases h
    · cases h
  · cases h

theorem isFn_of {P : Program} {f : FuncId} {fn : Func} (h : P.funcs[f]? = some fn) (hk : fnOk fn = true) : IsFn P f fn := by
  simp only [fnOk, Bool.and_eq_true, Bool.not_eq_true'] at hk
  exact ⟨h, hk.1, hk.2⟩

theorem opX_sound {P : Program} {run : RunF} (hrun : RunOk P run) {s s' : St} {o : Oper} {l : List Oper} {ops : Array Oper} {Q : St → Prop} (hg : o.guard = none) (h : opX P run s o = some s') (next : AWpL P ops l Q s') : AWpL P ops (o :: l) Q s := by
  have one : ∀ s1, stepF P s1 o = some s' → AWpL P ops (o :: l) Q s1 := fun s1 h => awpl_step (by unfold stepG; rw [hg]; exact h) next
  have plain : stepX P s o = some s' → AWpL P ops (o :: l) Q s := by
    intro h cx m a w K hr hK
    unfold stepX at h
    simp only at h
    split at h
    · rename_i s2 h2
      cases h
      exact one _ h2 cx m a w K (preFix_sound hr) hK
    · split at h
      · rename_i s1 h1
        exact one _ h cx m a w K (freezeL_sound h1 (preFix_sound hr)) hK
      · cases h
  unfold opX kindX at h
  split at h
  · split at h
    · rename_i c ho
      unfold callX callE at h
      split at h
      · rename_i f vs hgo
        unfold callF at h
        split at h
        · rename_i fn hfn
          split at h
          · rename_i hk
            simp only [Bool.and_eq_true] at hk
            unfold call0 at h
            split at h
            · rename_i s2 hs2
              cases h
              exact callS_sound hrun hg (isFn_of hfn hk.1) (goC_sound ho (isFn_of hfn hk.1) hgo) hk.2 hs2 next
            · have one : ∀ L, call1 P run f fn o.dst c (freezeL s L) = some s' → AWpL P ops (o :: l) Q s := by
                intro L h
                unfold call1 at h
                split at h
                · rename_i s1 hs1
                  unfold call2 at h
                  split at h
                  · rename_i f' vs' h1
                    split at h
                    · rename_i hc
                      obtain ⟨rfl, hc⟩ := hc
                      have := callS_sound hrun hg (isFn_of hfn hk.1) (goC_sound ho (isFn_of hfn hk.1) h1) hc h next
                      exact fun cx m a w K hr hK => this cx m a w K (freezeL_sound hs1 hr) hK
                    · cases h
                  · cases h
                · cases h
              unfold callB at h
              split at h
              · rename_i s2 hs2
                cases h
                exact one _ hs2
              · exact one _ h
          · cases h
        · cases h
      · cases h
    · cases h
  · exact plain h

theorem opG_sound {P : Program} {run : RunF} (hrun : RunOk P run) {s s' : St} {o : Oper} {l : List Oper} {ops : Array Oper} {Q : St → Prop} (h : opG P run ops s o = some s') (next : AWpL P ops l Q s') : AWpL P ops (o :: l) Q s := by
  unfold opG at h
  split at h
  · rename_i hg; exact opX_sound hrun hg h next
  · rename_i j want hg
    split at h
    · rename_i b hb
      split at h
      · rename_i hbw
        subst hbw
        obtain ⟨t, ht, hb'⟩ := gtO_some hb
        exact awpl_guard hg (Option.bind_eq_some_iff.2 ⟨t, ht, hb'⟩) (opX_sound hrun rfl h next)
      · rename_i hbw
        split at h
        · rename_i hok
          cases h
          refine awpl_step (s' := s.put o.dst (.tup [])) ?_ next
          unfold stepG
          rw [hg]
          simp only [hb, if_neg hbw, hok, if_true]
        · cases h
    · rename_i hb
      split at h
      · rename_i hok
        cases h
        refine awpl_step (s' := s.put o.dst (.tup [])) ?_ next
        unfold stepG
        rw [hg]
        simp only [hb, hok, if_true]
      · cases h
    · cases h

theorem opsX_sound {P : Program} {run : RunF} (hrun : RunOk P run) {ops : Array Oper} {Q : St → Prop} : ∀ {l : List Oper} {s s' : St}, opsX P run ops l s = some s' → Q s' → AWpL P ops l Q s
  | [], s, s', h, hq => by simp only [opsX, Option.some.injEq] at h; subst h; exact awpl_nil hq
  | o :: l, s, s', h, hq => by
    simp only [opsX] at h
    split at h
    · rename_i s1 h1
      exact opG_sound hrun h1 (opsX_sound hrun h hq)
    · cases h

theorem allD_map : ∀ {vs : List AV} {ds : List D}, allD vs = some ds → vs = ds.map .d
  | [], ds, h => by simp only [allD, Option.some.injEq] at h; subst h; rfl
  | v :: vs, ds, h => by
    cases v with
    | d x =>
      simp only [allD] at h
      obtain ⟨r, h1, rfl⟩ := Option.map_eq_some_iff.1 h
      rw [allD_map h1]; rfl
    | _ => simp [allD] at h

theorem goC_congr {P : Program} {s s2 : St} {c : Call} (h : ∀ x ∈ c.operands, s2.ev x = s.ev x) : goC P s2 c = goC P s c := by
  obtain ⟨cal, args, tys⟩ := c
  have ha : ∀ x ∈ args.toList, s2.ev x = s.ev x := fun x hx => h x (by simp [Call.operands]; exact .inr (by simpa using hx))
  unfold goC
  cases cal with
  | value g =>
    simp only
    rw [h g (by simp [Call.operands]), evL_congr ha]
  | invoke r n =>
    simp only
    rw [h r (by simp [Call.operands]), evL_congr ha]
  | builtin b => rfl
theorem argsA_hp {P : Program} {s s2 : St} {ks V : List Nat} (hp : s2.hp = s.hp) : ∀ ts vs, argsA P s2 ks V ts vs = argsA P s ks V ts vs := by
  intro ts
  induction ts with
  | nil => intro vs; simp only [argsA]
  | cons t ts ih =>
    intro vs
    cases vs with
    | nil => simp only [argsA]
    | cons v vs =>
      simp only [argsA, ih]
      congr 1
      unfold argA
      simp only [hp]
theorem callD_sound {P : Program} {run : RunF} (hrun : RunOk P run) {s : St} {o : Oper} {ops : Array Oper} {v : AV} (hg : o.guard = none) (h : callD P run s o = some v) : QOp P ops o s v := by
  unfold callD at h
  split at h
  · unfold callD0 at h
    split at h
    · rename_i c hc0
      have ho : o.op = .call c := by
        unfold opCall at hc0
        split at hc0
        · rename_i c' hc'; cases hc0; exact hc'
        · cases hc0
      unfold callD1 at h
      split at h
      · rename_i f vs hgo
        unfold callD2 at h
        split at h
        · rename_i fn hfn
          split at h
          · rename_i hk
            simp only [Bool.and_eq_true] at hk
            unfold callD3 callD4 callD5 at h
            split at h
            · rename_i bs hb
              split at h
              · rename_i hc
                simp only [Bool.and_eq_true, decide_eq_true_eq] at hc
                obtain ⟨h1, h2, h3, h4⟩ := hc
                unfold callD6 at h
                split at h
                · rename_i R BS hR
                  unfold callD7 at h
                  split at h
                  · rename_i R' BS' hD
                    split at h
                    · rename_i hsm
                      cases h
                      simp only [Bool.and_eq_true] at hsm
                      obtain ⟨hsm, hfl⟩ := hsm
                      obtain ⟨r1, r2⟩ := hrun _ _ _ _ _ hR
                      have r3 := acall_datLast r2 (by omega) hD
                      intro s2 hn hp hl
                      have hgo2 : goC P s2 c = some (f, vs) := by
                        rw [goC_congr (fun x hx => ev_congr fun t ht => hl t (mem_looks (by rw [ho]; subst ht; exact hx))), hgo]
                      rw [← hp] at hb h3 h4 r3
                      rw [← argsA_hp hp] at r3
                      refine awpl_back (R := fun s3 => s3 = (afterS s2 (reachK s2.hp 64 (keysVs (vs.filter notOwn)) []) (maxK s2.hp 16) BS').put o.dst (renV (backF (reachK s2.hp 64 (keysVs (vs.filter notOwn)) []) (maxK s2.hp 16) BS'.length) R')) ?_ ?_
                      · rintro s3 rfl
                        refine ⟨s2.put o.dst _, Sub.put (after_same (by rw [hp]; exact nodupB_get h1) ?_) _ _, by rw [hp]⟩
                        rw [hp]
                        have : sameK s2 = sameK s := by
                          funext ks f l bs
                          induction l generalizing bs with
                          | nil => cases bs <;> rfl
                          | cons k l ih => cases bs <;> simp only [sameK, hp, ih]
                        rw [this]; exact hsm
                      · refine awpl_callG hg (isFn_of hfn hk.1) (goC_sound ho (isFn_of hfn hk.1) hgo2) (by rw [← hk.2]; cases o.dst <;> simp [St.okDst, hn]) _ _ (maxK s2.hp 16) r3 (by rw [hp]; exact nodupB_get h1) hb (by rw [hp]; exact h2) (maxK_le s2.hp 16) (fun κ hκ => ⟨?_, List.all_eq_true.1 h3 κ hκ⟩) ?_
                        · have := (List.mem_filter.1 hκ).2
                          simpa using this
                        · rintro r hs' ⟨rfl, rfl⟩ _
                          refine ⟨fun κ hκ => .inl (by simpa using List.all_eq_true.1 h4 κ hκ), ?_, awpl_nil rfl⟩
                          simp only [Bool.or_eq_true, Bool.and_eq_true] at hfl
                          rcases hfl with hfl | ⟨h5, h6⟩
                          · exact .inl (by rw [hp]; exact List.isEmpty_iff.1 hfl)
                          · exact .inr ⟨h5, fun B hB => List.all_eq_true.1 h6 B hB⟩
                    · cases h
                  · cases h
                · cases h
              · cases h
            · cases h
          · cases h
        · cases h
      · cases h
    · cases h
  · cases h

/-- The guard of an operation that only looks at slots. -/
theorem qop_guard {P : Program} {ops : Array Oper} {o : Oper} {s : St} {v : AV} {j : Nat} {b : Bool} (hg : o.guard = some (j, b)) (hb : gtO (obind ops[j]? Oper.dst) s.tm = some (.d (.v (.bool b)))) (h : QOp P ops { o with guard := none } s v) : QOp P ops o s v := by
  obtain ⟨t, ht, hb'⟩ := gtO_some hb
  intro s2 hn hp hl
  have htl : t ∈ o.looksAt ops := List.mem_append_right _ (by have hd' : (ops[j]?).bind (·.dst) = some t := ht
                                                              simp [hg, hd'])
  refine awpl_guard hg (Option.bind_eq_some_iff.2 ⟨t, ht, by rw [hl t htl]; exact hb'⟩) (h s2 hn hp fun t' ht' => hl t' ?_)
  simp only [Oper.looksAt, List.mem_append] at ht' ⊢
  rcases ht' with h | h
  · exact .inl h
  · simp at h

theorem valX_sound {P : Program} {run : RunF} (hrun : RunOk P run) {s : St} {o : Oper} {ops : Array Oper} {v : AV} (h : valX P run ops s o = some v) : QOp P ops o s v := by
  unfold valX at h
  split at h
  · rename_i v' hv; cases h; exact qop_val hv
  · split at h
    · rename_i hg; exact callD_sound hrun hg h
    · rename_i j want hg
      split at h
      · rename_i b hb
        split at h
        · rename_i hbw
          subst hbw
          exact qop_guard hg hb (callD_sound hrun rfl h)
        · cases h
      · cases h

theorem valsX_sound {P : Program} {run : RunF} (hrun : RunOk P run) {ops : Array Oper} {R : List Oper → St → Prop} : ∀ {p : Nat} {l l' : List Oper} {s s' : St}, valsX P run ops p l s = some (l', s') → R l' s' → QRunN P ops R p l s
  | 0, l, l', s, s', h, hR => by simp only [valsX, Option.some.injEq, Prod.mk.injEq] at h; obtain ⟨rfl, rfl⟩ := h; exact hR
  | p + 1, [], l', s, s', h, hR => by simp [valsX] at h
  | p + 1, o :: l, l', s, s', h, hR => by
    simp only [valsX] at h
    split at h
    · rename_i v hv
      exact ⟨v, valX_sound hrun hv, valsX_sound hrun h hR⟩
    · cases h

end Go.Proofs.Ytpdbekbobkjfgaa
