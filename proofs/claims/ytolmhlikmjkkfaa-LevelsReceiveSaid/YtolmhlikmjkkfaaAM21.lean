/-
  An abstract view of the machine, part 21: a run that is reckoned out is a run of the machine.
  Conditions: none; nothing here speaks of one program.
-/
import Derived.Test.YtolmhlikmjkkfaaAM20
namespace Go.Proofs.Ytolmhlikmjkkfaa
open Go.RowKit
set_option linter.unusedVariables false

theorem freezeL_sound {cx : Ctx} {m : Nat → Value} {a : Act} {w : World} : ∀ {l : List Nat} {s s1 : St}, freezeL s l = some s1 → SRep cx m s a w → SRep cx m s1 a w
  | [], s, s1, h, hr => by simp only [freezeL, Option.some.injEq] at h; subst h; exact hr
  | κ :: l, s, s1, h, hr => by
    simp only [freezeL] at h
    split at h
    · rename_i d hd
      obtain ⟨B, hB, hBd⟩ := Option.bind_eq_some_iff.1 hd
      exact freezeL_sound h (hr.freeze hB hBd)
    · cases h

theorem preFix_sound {cx : Ctx} {m : Nat → Value} {a : Act} {w : World} : ∀ {l : List Oper} {s : St}, SRep cx m s a w → SRep cx m (preFix s l) a w
  | [], s, hr => hr
  | o :: l, s, hr => by
    unfold preFix
    repeat' split
    all_goals first
      | exact preFix_sound hr
      | (rename_i hB _ _ hd; exact preFix_sound (hr.fix hB hd))
theorem maxK_le : ∀ (l : List (Nat × Blk)) (n : Nat), n ≤ maxK l n
  | [], n => Nat.le_refl _
  | (k, _) :: l, n => by
    simp only [maxK]
    refine Nat.le_trans ?_ (maxK_le l _)
    split <;> omega

theorem callS_sound {P : Program} {run : RunF} (hrun : RunOk P run) {s s' : St} {V : List Nat} {o : Oper} {l : List Oper} {ops : Array Oper} {Q : St → Prop} {g : Operand} {args : Array Operand} {tys : Array TypeId} {f : FuncId} {fn : Func} {vs caps : List AV}
    (hg : o.guard = none) (ho : o.op = .call { callee := .value g, args := args, argTypes := tys }) (hf : IsFn P f fn) (hgv : s.ev g = some (.clos f caps)) (hvs : s.evL args.toList = some vs) (hdst : s.okDst o.dst = true)
    (h : callS P run s V f fn o.dst vs caps = some s') (next : AWpL P ops l Q s') : AWpL P ops (o :: l) Q s := by
  unfold callS at h
  simp only at h
  split at h
  · rename_i bs hb
    split at h
    · rename_i hc
      simp only [Bool.and_eq_true, decide_eq_true_eq] at hc
      obtain ⟨h1, h2, h3, h4⟩ := hc
      split at h
      · rename_i R BS hR
        split at h
        · rename_i hfl
          cases h
          obtain ⟨r1, r2⟩ := hrun _ _ _ _ _ hR
          refine awpl_call hg ho hf hgv hvs hdst _ _ (maxK s.hp 16) r2 (nodupB_get h1) hb h2 (maxK_le s.hp 16) (fun κ hκ => ⟨?_, List.all_eq_true.1 h3 κ hκ⟩) ?_
          · have := (List.mem_filter.1 hκ).2
            simpa using this
          · rintro r hs' ⟨rfl, rfl⟩ _
            refine ⟨fun κ hκ => .inl (by simpa using List.all_eq_true.1 h4 κ hκ), ?_, next⟩
            simp only [Bool.or_eq_true, Bool.and_eq_true] at hfl
            rcases hfl with hfl | ⟨h5, h6⟩
            · exact .inl (List.isEmpty_iff.1 hfl)
            · exact .inr ⟨h5, fun B hB => List.all_eq_true.1 h6 B hB⟩
        · cases h
      · cases h
    · cases h
  · cases h

theorem isFn_of {P : Program} {f : FuncId} {fn : Func} (h : P.funcs[f]? = some fn) (hk : fnOk fn = true) : IsFn P f fn := by
  simp only [fnOk, Bool.and_eq_true, Bool.not_eq_true'] at hk
  exact ⟨h, hk.1, hk.2⟩

theorem opX_sound {P : Program} {run : RunF} (hrun : RunOk P run) {s s' : St} {o : Oper} {l : List Oper} {ops : Array Oper} {Q : St → Prop} (hg : o.guard = none) (h : opX P run s o = some s') (next : AWpL P ops l Q s') : AWpL P ops (o :: l) Q s := by
  have one : ∀ s1, stepF P s1 o = some s' → AWpL P ops (o :: l) Q s1 := fun s1 h => awpl_step (by unfold stepG; rw [hg]; exact h) next
  have plain : stepX P s o = some s' → AWpL P ops (o :: l) Q s := by
    intro h cx m a w K hr hK
    unfold stepX at h
    simp only at h
    split at h
    · rename_i s2 h2
      cases h
      exact one _ h2 cx m a w K (preFix_sound hr) hK
    · split at h
      · rename_i s1 h1
        exact one _ h cx m a w K (freezeL_sound h1 (preFix_sound hr)) hK
      · cases h
  unfold opX at h
  split at h
  · rename_i g args tys ho
    split at h
    · rename_i f caps vs hgv hvs
      split at h
      · rename_i fn hfn
        split at h
        · rename_i hk
          simp only [Bool.and_eq_true] at hk
          simp only at h
          split at h
          · rename_i s2 hs2
            cases h
            exact callS_sound hrun hg ho (isFn_of hfn hk.1) hgv hvs hk.2 hs2 next
          · split at h
            · rename_i s1 hs1
              split at h
              · rename_i f' caps' vs' h1 h2
                split at h
                · rename_i hc
                  obtain ⟨rfl, hc⟩ := hc
                  have := callS_sound hrun hg ho (isFn_of hfn hk.1) h1 h2 hc h next
                  exact fun cx m a w K hr hK => this cx m a w K (freezeL_sound hs1 hr) hK
                · cases h
              · cases h
            · cases h
        · cases h
      · cases h
    · cases h
  · exact plain h

theorem opG_sound {P : Program} {run : RunF} (hrun : RunOk P run) {s s' : St} {o : Oper} {l : List Oper} {ops : Array Oper} {Q : St → Prop} (h : opG P run ops s o = some s') (next : AWpL P ops l Q s') : AWpL P ops (o :: l) Q s := by
  unfold opG at h
  split at h
  · rename_i hg; exact opX_sound hrun hg h next
  · rename_i j want hg
    split at h
    · rename_i b hb
      split at h
      · rename_i hbw
        subst hbw
        obtain ⟨t, ht, hb'⟩ := gtO_some hb
        exact awpl_guard hg (Option.bind_eq_some_iff.2 ⟨t, ht, hb'⟩) (opX_sound hrun rfl h next)
      · rename_i hbw
        split at h
        · rename_i hok
          cases h
          refine awpl_step (s' := s.put o.dst (.tup [])) ?_ next
          unfold stepG
          rw [hg]
          simp only [hb, if_neg hbw, hok, if_true]
        · cases h
    · rename_i hb
      split at h
      · rename_i hok
        cases h
        refine awpl_step (s' := s.put o.dst (.tup [])) ?_ next
        unfold stepG
        rw [hg]
        simp only [hb, hok, if_true]
      · cases h
    · cases h

theorem opsX_sound {P : Program} {run : RunF} (hrun : RunOk P run) {ops : Array Oper} {Q : St → Prop} : ∀ {l : List Oper} {s s' : St}, opsX P run ops l s = some s' → Q s' → AWpL P ops l Q s
  | [], s, s', h, hq => by simp only [opsX, Option.some.injEq] at h; subst h; exact awpl_nil hq
  | o :: l, s, s', h, hq => by
    simp only [opsX] at h
    split at h
    · rename_i s1 h1
      exact opG_sound hrun h1 (opsX_sound hrun h hq)
    · cases h

theorem allD_map : ∀ {vs : List AV} {ds : List D}, allD vs = some ds → vs = ds.map .d
  | [], ds, h => by simp only [allD, Option.some.injEq] at h; subst h; rfl
  | v :: vs, ds, h => by
    cases v with
    | d x =>
      simp only [allD] at h
      obtain ⟨r, h1, rfl⟩ := Option.map_eq_some_iff.1 h
      rw [allD_map h1]; rfl
    | _ => simp [allD] at h

theorem callD_sound {P : Program} {run : RunF} (hrun : RunOk P run) {s : St} {o : Oper} {ops : Array Oper} {v : AV} (hg : o.guard = none) (h : callD P run s o = some v) : QOp P ops o s v := by
  unfold callD at h
  split at h
  · rename_i f args tys ho
    split at h
    · rename_i vs hvs
      split at h
      · rename_i fn hfn
        split at h
        · rename_i hk
          simp only [Bool.and_eq_true] at hk
          simp only at h
          split at h
          · rename_i ds hds
            split at h
            · rename_i hV
              have fin : ∀ d, AFun P f ds d → (keysVs (vs.filter isOwn)).isEmpty = true ∨ flatD d = true → QOp P ops o s (.d d) := by
                intro d hd hfl
                refine qop_call hg ho (isFn_of hfn hk.1) rfl hvs hk.2 _ hd (allD_map hds) (fun κ hκ => List.all_eq_true.1 hV κ hκ) ?_
                rcases hfl with h | h
                · exact .inl (List.isEmpty_iff.1 h)
                · exact .inr h
              split at h
              · rename_i d hR
                split at h
                · rename_i hfl
                  cases h
                  simp only [Bool.or_eq_true] at hfl
                  exact fin d (hrun _ _ _ _ _ hR).2 hfl
                · cases h
              · rename_i B hR
                split at h
                · rename_i d hB
                  split at h
                  · rename_i hfl
                    cases h
                    simp only [Bool.or_eq_true] at hfl
                    exact fin d (afun_of_arow (hrun _ _ _ _ _ hR).2 hB) hfl
                  · cases h
                · cases h
              · cases h
            · cases h
          · cases h
        · cases h
      · cases h
    · cases h
  · cases h

/-- The guard of an operation that only looks at slots. -/
theorem qop_guard {P : Program} {ops : Array Oper} {o : Oper} {s : St} {v : AV} {j : Nat} {b : Bool} (hg : o.guard = some (j, b)) (hb : gtO (obind ops[j]? Oper.dst) s.tm = some (.d (.v (.bool b)))) (h : QOp P ops { o with guard := none } s v) : QOp P ops o s v := by
  obtain ⟨t, ht, hb'⟩ := gtO_some hb
  intro s2 hn hp hl
  have htl : t ∈ o.looksAt ops := List.mem_append_right _ (by have hd' : (ops[j]?).bind (·.dst) = some t := ht
                                                              simp [hg, hd'])
  refine awpl_guard hg (Option.bind_eq_some_iff.2 ⟨t, ht, by rw [hl t htl]; exact hb'⟩) (h s2 hn hp fun t' ht' => hl t' ?_)
  simp only [Oper.looksAt, List.mem_append] at ht' ⊢
  rcases ht' with h | h
  · exact .inl h
  · simp at h

theorem valX_sound {P : Program} {run : RunF} (hrun : RunOk P run) {s : St} {o : Oper} {ops : Array Oper} {v : AV} (h : valX P run ops s o = some v) : QOp P ops o s v := by
  unfold valX at h
  split at h
  · rename_i v' hv; cases h; exact qop_val hv
  · split at h
    · rename_i hg; exact callD_sound hrun hg h
    · rename_i j want hg
      split at h
      · rename_i b hb
        split at h
        · rename_i hbw
          subst hbw
          exact qop_guard hg hb (callD_sound hrun rfl h)
        · cases h
      · cases h

theorem valsX_sound {P : Program} {run : RunF} (hrun : RunOk P run) {ops : Array Oper} {R : List Oper → St → Prop} : ∀ {p : Nat} {l l' : List Oper} {s s' : St}, valsX P run ops p l s = some (l', s') → R l' s' → QRunN P ops R p l s
  | 0, l, l', s, s', h, hR => by simp only [valsX, Option.some.injEq, Prod.mk.injEq] at h; obtain ⟨rfl, rfl⟩ := h; exact hR
  | p + 1, [], l', s, s', h, hR => by simp [valsX] at h
  | p + 1, o :: l, l', s, s', h, hR => by
    simp only [valsX] at h
    split at h
    · rename_i v hv
      exact ⟨v, valX_sound hrun hv, valsX_sound hrun h hR⟩
    · cases h

end Go.Proofs.Ytolmhlikmjkkfaa
