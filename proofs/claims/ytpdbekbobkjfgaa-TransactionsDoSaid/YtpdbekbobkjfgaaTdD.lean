/-
  The statement TransactionsDo: the law's plain function is true.
  Conditions: none.
-/
import Derived.Test.YtpdbekbobkjfgaaTdC
namespace Go.Proofs.Ytpdbekbobkjfgaa
set_option linter.unusedVariables false
set_option linter.unusedSimpArgs false
set_option maxRecDepth 100000
set_option maxHeartbeats 4000000

theorem doD_eq (m : Nat) (ans : List PkT) (fs : List Int) (A E w : Int) (tg iso : Bool) (mx : Int) (d : List Int) (g : TGood A E w tg iso mx d) (hA0 : 0 ≤ A) (hE0 : 0 ≤ E) (ha : ∀ a ∈ ans, (pdat a).length ≤ 1100 ∧ pwf a) :
    ∃ o d' ans' fs' H S, rdo_D m ans fs (A, E, w, tg, iso, mx, d, ()) = some (((ans', fs', H, S, ()), (o, d', ()), ()), ()) ∧ H.length ≤ 10 ∧ S.length ≤ 10 ∧ d'.length ≤ 1100 ∧
      (doD_D m (A, E, w, tg, iso, mx, d, ()) ans [] fs = some (Sum.inl (((o, ()), S, ()), (ans', ()), H, (fs', ()), d', ())) ∨ (doD_D m (A, E, w, tg, iso, mx, d, ()) ans [] fs = some (Sum.inr (((o, ()), S, ()), (ans', ()), H, (fs', ()), ())) ∧ d' = [])) := by
  unfold doD_D
  rw [tchk_zero m A E w tg iso mx d g, bnd_some]
  simp only [decide_true, Bool.not_true, cond_false]
  by_cases h9 : w = 9
  · subst h9
    obtain ⟨o, d', ans', fs', H, S, h1, h2, h3, h4, h5⟩ := do_in m ans fs A E tg iso mx d g hA0 hE0 ha
    refine ⟨o, d', ans', fs', H, S, h1, h2, h3, h4, ?_⟩
    simp only [decide_true, cond_true]
    rcases h5 with (h5 | h5) | ⟨h5 | h5, rfl⟩
    · simp only [h5, bnd_some, sumK_l, y1, y4, y5, y6, List.take_length, Bool.and_self, cond_true]
      exact .inl trivial
    · simp only [h5, bnd_some, sumK_l, sumK_r, y1, y4, y5, y6, List.take_length, Bool.and_self, cond_true]
      exact .inl trivial
    · simp only [h5, bnd_some, sumK_l, sumK_r, y1, y4, y5, y6, List.take_length, Bool.and_self, cond_true]
      exact .inr ⟨trivial, trivial⟩
    · simp only [h5, bnd_some, sumK_l, sumK_r, y1, y4, y5, y6, List.take_length, Bool.and_self, cond_true]
      exact .inr ⟨trivial, trivial⟩
  · have hw := g.hw
    obtain ⟨o, ans', fs', H, S, h1, h2, h3, h5⟩ := do_out m ans fs A E w tg iso mx d g (by omega) hA0 hE0 ha
    refine ⟨o, [], ans', fs', H, S, h1, h2, h3, by simp, ?_⟩
    simp only [h9, decide_false, cond_false]
    rcases h5 with h5 | h5
    · simp only [h5, bnd_some, sumK_l, sumK_r, y1, y4, y5, y6, List.take_length, Bool.and_self, cond_true]
      exact .inr ⟨trivial, trivial⟩
    · simp only [h5, bnd_some, sumK_l, sumK_r, y1, y4, y5, y6, List.take_length, Bool.and_self, cond_true]
      exact .inr ⟨trivial, trivial⟩
theorem doLaw_L0_eq (m : Nat) (was : ByteArray) (S : List SnT) (t : TryT) (o : Int) (W : List PkT × List Int × List PkT × List SnT × Unit) : ∀ (f i : Nat) (d : List Int), d.length ≤ 1000000 → i ≤ d.length → d.length - i < f →
    doLaw_L0 m f was S (i : Int) t o W d = some ((was, (S, ())), (t, (W, ()))) := by
  intro f
  induction f with
  | zero => intro i d _ _ h; omega
  | succ f ih =>
    intro i d hd hi hf
    rw [doLaw_L0]
    by_cases hlt : i < d.length
    · rw [dT (show (i : Int) < (d.length : Int) by omega), cond_true, inT (by omega) (by omega), cond_true, toNatC, dT hlt, cond_true, cond_true, cond_true, w_i64 _ (by omega) (by omega), show ((i : Int) + 1) = ((i + 1 : Nat) : Int) by omega]
      exact ih (i + 1) _ (by rw [List.length_set]; exact hd) (by rw [List.length_set]; omega) (by rw [List.length_set]; omega)
    · rw [dF (by omega), cond_false]
theorem doLaw_true (A E w : Int) (tg iso : Bool) (mx : Int) (d : List Int) (ans : List PkT) (ws : List Int) (hA0 : 0 ≤ A) (hE0 : 0 ≤ E) (wa : ∀ a ∈ ans, pwf a) : doLaw_D 3000 (A, E, w, tg, iso, mx, d, ()) (ans, ws, ()) = some (true, ()) := by
  unfold doLaw_D doLaw_J0
  have lv : lives6_D 3000 = some (true, ()) := rfl
  by_cases hd : 1100 < d.length
  · simp only [dT (show (1100 : Int) < (d.length : Int) by omega), cond_true]
  · simp only [dF (show ¬ (1100 : Int) < (d.length : Int) by omega), cond_false]
    rcases small_eq 3000 (by omega) ans ws with h | ⟨h, ha, h20, h60⟩
    · rw [h, bnd_some]
      simp only [Bool.not_false, cond_true]
    · rw [h, bnd_some]
      simp only [Bool.not_true, cond_false]
      obtain ⟨c, hc, hg⟩ := rchk_facts 3000 A E w tg iso mx d
      rw [hc, bnd_some]
      by_cases h0 : c = 0
      · have g := hg h0
        subst h0
        simp only [decide_true, Bool.not_true, cond_false]
        unfold doLaw_J1
        obtain ⟨fl, hf, hfl⟩ := faults_eq 3000 ws (by omega) (by omega)
        rw [wire_eq 3000 ws fl hf (by omega), bnd_some]
        simp only
        obtain ⟨o, d', ans', fs', H, S, h1, h2, h3, h4, h5⟩ := doD_eq 3000 ans fl A E w tg iso mx d g hA0 hE0 (fun a h => ⟨ha a h, wa a h⟩)
        have fin : doLaw_J2 3000 (Go.strOfNums d) S (A, E, w, tg, iso, mx, d, ()) o (ans', fs', H, S, ()) (o, d', ()) ans' H d' (fun d282 => bif d282 then some (false, ()) else bnd (doLaw_L0 3000 3000 (Go.strOfNums d) S 0 (A, E, w, tg, iso, mx, d, ()) o (ans', fs', H, S, ()) d') fun y430 => doLaw_J3 3000 y430.fst.fst y430.fst.snd.fst y430.snd.fst y430.snd.snd.fst (fun d469 => some (d469, ()))) = some (true, ()) := by
          unfold doLaw_J2
          simp only [decide_true, Bool.not_true, cond_false]
          rw [dfS_refl 3000 S (by omega) (by omega), bnd_some]
          simp only [decide_true, Bool.not_true, cond_false]
          rw [dfP_refl 3000 H (by omega) (by omega), bnd_some]
          simp only [decide_true, Bool.not_true, cond_false]
          have hl := doLaw_L0_eq 3000 (Go.strOfNums d) S (A, E, w, tg, iso, mx, d, ()) o (ans', fs', H, S, ()) 3000 0 d' (by omega) (by omega) (by omega)
          rw [show ((0 : Nat) : Int) = 0 from rfl] at hl
          rw [hl, bnd_some]
          unfold doLaw_J3
          simp only [decide_true, cond_true]
          rw [dfS_refl 3000 S (by omega) (by omega), bnd_some]
          simp only [decide_true, cond_true, lv, bnd_some]
        rcases h5 with h5 | ⟨h5, rfl⟩
        · rw [h5, bnd_some]
          simp only [sumK_l, hf, bnd_some, h1]
          exact fin
        · rw [h5, bnd_some]
          simp only [sumK_r, hf, bnd_some, h1]
          exact fin
      · simp only [h0, decide_false, Bool.not_false, cond_true, lv, bnd_some]
end Go.Proofs.Ytpdbekbobkjfgaa

