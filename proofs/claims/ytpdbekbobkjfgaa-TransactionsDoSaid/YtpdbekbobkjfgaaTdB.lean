/-
  The statement TransactionsDo: what Do does, and its reference: In.
  Conditions: none.
-/
import Derived.Test.YtpdbekbobkjfgaaTdA
namespace Go.Proofs.Ytpdbekbobkjfgaa
set_option linter.unusedVariables false
set_option linter.unusedSimpArgs false
set_option maxRecDepth 100000
set_option maxHeartbeats 4000000

theorem chk_tok (w A E : Int) (hw : w = 1 ∨ w = 9 ∨ w = 13) (hA : A ≤ 127) (hE : E ≤ 15) : chkv (w, A, E, 0, 0, 0, false, false, 0, [], ()) = 0 := by
  have k1 : decide ((127 : Int) < A) = false := dF (by omega)
  have k2 : decide ((15 : Int) < E) = false := dF (by omega)
  have : rfCheck_D 1000 (w, A, E, 0, 0, 0, false, false, 0, [], ()) = some (0, ()) := by
    rcases hw with rfl | rfl | rfl <;> (unfold rfCheck_D; simp [known_D, token3_D, hasData_D, bnd_some, k1, k2])
  unfold chkv; rw [this]
theorem chk_dat (w : Int) (hw : w = 3 ∨ w = 11) (d : List Int) (hd : d.length ≤ 1024) : chkv (w, 0, 0, 0, 0, 0, false, false, 0, d, ()) = 0 := by
  have k7 : decide ((1024 : Int) < (d.length : Int)) = false := dF (by omega)
  have : rfCheck_D 1000 (w, 0, 0, 0, 0, 0, false, false, 0, d, ()) = some (0, ()) := by
    rcases hw with rfl | rfl <;> (unfold rfCheck_D; simp [known_D, token3_D, hasData_D, bnd_some, k7])
  unfold chkv; rw [this]
abbrev TryT := Int × Int × Int × Bool × Bool × Int × List Int × Unit
structure TGood (A E w : Int) (tg iso : Bool) (mx : Int) (d : List Int) : Prop where
  hA : A ≤ 127
  hE : E ≤ 15
  hw : w = 1 ∨ w = 9 ∨ w = 13
  h9 : w = 9 → 0 ≤ mx ∧ mx ≤ 1024 ∧ d = []
  hm : w ≠ 9 → mx = 0
  hi : iso = true → tg = false
  h13 : w = 13 → iso = false ∧ tg = false ∧ d.length = 8
  hd : d.length ≤ 1024
theorem rchk_facts (m : Nat) (A E w : Int) (tg iso : Bool) (mx : Int) (d : List Int) : ∃ c, rchk_D m (A, E, w, tg, iso, mx, d, ()) = some (c, ()) ∧ (c = 0 → TGood A E w tg iso mx d) := by
  unfold rchk_D rchk_J0 rchk_J1 rchk_J2 rchk_J3
  have n1 : (1 : Int) ≠ 0 := by decide
  have n5 : (5 : Int) ≠ 0 := by decide
  have n3 : (3 : Int) ≠ 0 := by decide
  by_cases h1 : 127 < A
  · exact ⟨1, by simp [h1], fun h => absurd h n1⟩
  by_cases h2 : 15 < E
  · exact ⟨1, by simp [h1, h2], fun h => absurd h n1⟩
  by_cases w9 : w = 9
  · subst w9
    by_cases h3 : mx < 0
    · exact ⟨1, by simp [h1, h2, h3], fun h => absurd h n1⟩
    by_cases h4 : 1024 < mx
    · exact ⟨1, by simp [h1, h2, h3, h4], fun h => absurd h n1⟩
    by_cases h5 : d = []
    · subst h5
      cases iso <;> cases tg
      · exact ⟨0, by simp [h1, h2, h3, h4], fun _ => ⟨by omega, by omega, by omega, fun _ => ⟨by omega, by omega, rfl⟩, fun h => absurd rfl h, by simp, by simp, by simp⟩⟩
      · exact ⟨0, by simp [h1, h2, h3, h4], fun _ => ⟨by omega, by omega, by omega, fun _ => ⟨by omega, by omega, rfl⟩, fun h => absurd rfl h, by simp, by simp, by simp⟩⟩
      · exact ⟨0, by simp [h1, h2, h3, h4], fun _ => ⟨by omega, by omega, by omega, fun _ => ⟨by omega, by omega, rfl⟩, fun h => absurd rfl h, by simp, by simp, by simp⟩⟩
      · exact ⟨1, by simp [h1, h2, h3, h4], fun h => absurd h n1⟩
    · have h5' : d.length ≠ 0 := fun h => h5 (List.length_eq_zero_iff.1 h)
      exact ⟨1, by simp [h1, h2, h3, h4, h5], fun h => absurd h n1⟩
  by_cases hm : mx = 0
  · subst hm
    by_cases w1 : w = 1
    · subst w1
      by_cases hl : 1024 < d.length
      · have k7 : (1024 : Int) < (d.length : Int) := by omega
        cases iso <;> cases tg
        · exact ⟨3, by simp [h1, h2, hl, k7], fun h => absurd h n3⟩
        · exact ⟨3, by simp [h1, h2, hl, k7], fun h => absurd h n3⟩
        · exact ⟨3, by simp [h1, h2, hl, k7], fun h => absurd h n3⟩
        · exact ⟨1, by simp [h1, h2], fun h => absurd h n1⟩
      · have k7 : ¬ (1024 : Int) < (d.length : Int) := by omega
        cases iso <;> cases tg
        · exact ⟨0, by simp [h1, h2, hl, k7], fun _ => ⟨by omega, by omega, by omega, by simp, by simp, by simp, by simp, by omega⟩⟩
        · exact ⟨0, by simp [h1, h2, hl, k7], fun _ => ⟨by omega, by omega, by omega, by simp, by simp, by simp, by simp, by omega⟩⟩
        · exact ⟨0, by simp [h1, h2, hl, k7], fun _ => ⟨by omega, by omega, by omega, by simp, by simp, by simp, by simp, by omega⟩⟩
        · exact ⟨1, by simp [h1, h2], fun h => absurd h n1⟩
    · by_cases w13 : w = 13
      · subst w13
        by_cases hl : d.length = 8
        · cases iso <;> cases tg
          · exact ⟨0, by simp [h1, h2, hl], fun _ => ⟨by omega, by omega, by omega, by simp, by simp, by simp, by simp [hl], by omega⟩⟩
          · exact ⟨1, by simp [h1, h2], fun h => absurd h n1⟩
          · exact ⟨1, by simp [h1, h2], fun h => absurd h n1⟩
          · exact ⟨1, by simp [h1, h2], fun h => absurd h n1⟩
        · have k7 : ¬ (d.length : Int) = 8 := by omega
          cases iso <;> cases tg
          · exact ⟨5, by simp [h1, h2, hl, k7], fun h => absurd h n5⟩
          · exact ⟨1, by simp [h1, h2], fun h => absurd h n1⟩
          · exact ⟨1, by simp [h1, h2], fun h => absurd h n1⟩
          · exact ⟨1, by simp [h1, h2], fun h => absurd h n1⟩
      · exact ⟨1, by simp [h1, h2, w1, w9, w13], fun h => absurd h n1⟩
  · by_cases w1 : w = 1 ∨ w = 13
    · exact ⟨1, by rcases w1 with rfl | rfl <;> simp [h1, h2, hm], fun h => absurd h n1⟩
    · exact ⟨1, by simp [h1, h2, w9, show w ≠ 1 by omega, show w ≠ 13 by omega], fun h => absurd h n1⟩
theorem tchk_zero (m : Nat) (A E w : Int) (tg iso : Bool) (mx : Int) (d : List Int) (h : TGood A E w tg iso mx d) : tchk_D m (A, E, w, tg, iso, mx, d, ()) = some (0, ()) := by
  obtain ⟨hA, hE, hw, h9, hm, hi, h13, hd⟩ := h
  unfold tchk_D tchk_J0 tchk_J1 tchk_J2 tchk_J3
  have k1 : decide ((127 : Int) < A) = false := dF (by omega)
  have k2 : decide ((15 : Int) < E) = false := dF (by omega)
  have k7 : decide ((1024 : Int) < (d.length : Int)) = false := dF (by omega)
  rcases hw with rfl | rfl | rfl
  · have := hm (by decide)
    subst this
    cases iso
    · simp [k1, k2, k7]
    · have := hi rfl
      subst this
      simp [k1, k2, k7]
  · obtain ⟨a1, a2, rfl⟩ := h9 rfl
    have k3 : decide (mx < (0 : Int)) = false := dF (by omega)
    have k4 : decide ((1024 : Int) < mx) = false := dF (by omega)
    cases iso
    · simp [k1, k2, k3, k4]
    · have := hi rfl
      subst this
      simp [k1, k2, k3, k4]
  · obtain ⟨rfl, rfl, h8⟩ := h13 rfl
    have := hm (by decide)
    subst this
    simp [k1, k2, k7, h8]
theorem spk_arr (ans : List PkT) (fs : List Int) (p : PkT) (h : (spk ans fs p).ok = true) : arrV (spk ans fs p).sent = true := by
  unfold spk at h ⊢
  split
  · rfl
  · rename_i h1
    rw [if_neg h1] at h
    split
    · rename_i h2
      rw [if_pos h2] at h
      simp at h
    · rename_i h2
      split
      · rfl
      · split
        · rfl
        · split <;> rfl
theorem spk_sub (ans : List PkT) (fs : List Int) (p : PkT) : ∀ a ∈ (spk ans fs p).ans, a ∈ ans := by
  unfold spk
  split
  · exact fun a h => h
  · split
    · exact fun a h => h
    · split
      · exact fun a h => h
      · split
        · exact fun a h => List.mem_cons_of_mem _ h
        · split <;> exact fun a h => List.mem_cons_of_mem _ h
theorem spk_no (ans : List PkT) (fs : List Int) (p : PkT) (h : (spk ans fs p).ok = false) : (spk ans fs p).a = nopk := by
  unfold spk at h ⊢
  split
  · rfl
  · rename_i h1
    rw [if_neg h1] at h
    split
    · rfl
    · rename_i h2
      rw [if_neg h2] at h
      split
      · rfl
      · simp only at h
        split
        · rfl
        · rename_i h3
          rw [if_neg h3] at h
          split
          · rfl
          · rename_i h4
            rw [if_neg h4] at h
            simp at h
theorem spk_head (ans : List PkT) (fs : List Int) (p : PkT) (hc : chkv p = 0) : (∃ s l, (spk ans fs p).sent = s :: l ∧ arrV (spk ans fs p).sent = decide (s.2.2.2.2.2.2.2.2.2.2.2.1 = 0)) ∧ (arrV (spk ans fs p).sent = false → (spk ans fs p).ok = false) := by
  unfold spk
  rw [if_neg (by simp [hc])]
  split
  · exact ⟨⟨_, _, rfl, rfl⟩, fun _ => rfl⟩
  · split
    · exact ⟨⟨_, _, rfl, rfl⟩, fun _ => rfl⟩
    · split
      · exact ⟨⟨_, _, rfl, rfl⟩, fun _ => rfl⟩
      · split
        · exact ⟨⟨_, _, rfl, rfl⟩, fun _ => rfl⟩
        · exact ⟨⟨_, _, rfl, rfl⟩, fun h => by simp [arrV, snt] at h⟩
theorem do_in (m : Nat) (ans : List PkT) (fs : List Int) (A E : Int) (tg iso : Bool) (mx : Int) (d : List Int) (g : TGood A E 9 tg iso mx d) (hA0 : 0 ≤ A) (hE0 : 0 ≤ E) (ha : ∀ a ∈ ans, (pdat a).length ≤ 1100 ∧ pwf a) :
    ∃ o d' ans' fs' H S, rdo_D m ans fs (A, E, 9, tg, iso, mx, d, ()) = some (((ans', fs', H, S, ()), (o, d', ()), ()), ()) ∧ H.length ≤ 10 ∧ S.length ≤ 10 ∧ d'.length ≤ 1100 ∧
      (((inD_D m (A, E, 9, tg, iso, mx, d, ()) ans [] fs [] = some (Sum.inl ((o, ()), (ans', ()), H, (fs', ()), S, d', ()))) ∨ (inD_D m (A, E, 9, tg, iso, mx, d, ()) ans [] fs [] = some (Sum.inr (Sum.inl ((o, ()), (ans', ()), H, (fs', ()), S, d', ()))))) ∨
       (((inD_D m (A, E, 9, tg, iso, mx, d, ()) ans [] fs [] = some (Sum.inr (Sum.inr (Sum.inl ((o, ()), (ans', ()), H, (fs', ()), S, ()))))) ∨ (inD_D m (A, E, 9, tg, iso, mx, d, ()) ans [] fs [] = some (Sum.inr (Sum.inr (Sum.inr ((o, ()), (ans', ()), H, (fs', ()), S, ())))))) ∧ d' = [])) := by
  have hA := g.hA
  have hE := g.hE
  have wp1 : pwf (9, A, E, 0, 0, 0, false, false, 0, [], ()) := by
    unfold pwf; simp only; omega
  have wpa : pwf (2, 0, 0, 0, 0, 0, false, false, 0, [], ()) := by
    unfold pwf; simp only; omega
  have c1 := chk_tok 9 A E (by omega) hA hE
  have a1 := spk_arr ans fs (9, A, E, 0, 0, 0, false, false, 0, [], ())
  have u1 := spk_sub ans fs (9, A, E, 0, 0, 0, false, false, 0, [], ())
  have l1 := spk_sent ans fs (9, A, E, 0, 0, 0, false, false, 0, [], ())
  have m1 := spk_heard ans fs (9, A, E, 0, 0, 0, false, false, 0, [], ())
  have b1 := rspeakB_eq m ans [] fs (9, A, E, 0, 0, 0, false, false, 0, [], ()) [] (by simp) (by simp)
  have e1 := spkO_eq m ans [] fs (9, A, E, 0, 0, 0, false, false, 0, [], ()) [] (by simp [pdat]) wp1 ha (by simp) (by simp) a1 l1
  have q1 : (spk ans fs (9, A, E, 0, 0, 0, false, false, 0, [], ())).ok = true → (pdat (spk ans fs (9, A, E, 0, 0, 0, false, false, 0, [], ())).a).length ≤ 1100 := by
    unfold spk
    split
    · simp
    · split
      · simp
      · split
        · simp
        · rename_i a r
          split
          · simp
          · split
            · simp
            · exact fun _ => (ha a (by simp)).1
  unfold rdo_D inD_D inD_J0
  rw [b1, e1]
  generalize spk ans fs (9, A, E, 0, 0, 0, false, false, 0, [], ()) = R1 at *
  obtain ⟨a, ok, sent, ans1, heard1, fs1⟩ := R1
  simp only at *
  have ha1 : ∀ a ∈ ans1, (pdat a).length ≤ 1100 ∧ pwf a := fun x hx => ha x (u1 x hx)
  have a2 := spk_arr ans1 fs1 (2, 0, 0, 0, 0, 0, false, false, 0, [], ())
  have l2 := spk_sent ans1 fs1 (2, 0, 0, 0, 0, 0, false, false, 0, [], ())
  have m2 := spk_heard ans1 fs1 (2, 0, 0, 0, 0, 0, false, false, 0, [], ())
  have b2 := rspeakB_eq m ans1 heard1 fs1 (2, 0, 0, 0, 0, 0, false, false, 0, [], ()) sent (by omega) (by omega)
  have e2 := spkO_eq m ans1 heard1 fs1 (2, 0, 0, 0, 0, 0, false, false, 0, [], ()) sent (by simp [pdat]) wpa ha1 (by omega) (by omega) a2 l2
  simp only [bnd_some, List.nil_append, decide_true, cond_true]
  cases ok with
  | false =>
    simp only [Bool.false_eq_true, if_false]
    refine ⟨4, [], ans1, fs1, heard1, sent, ?_, by omega, by omega, by simp, .inr ⟨?_, rfl⟩⟩
    · unfold rdo_J0
      simp only [Bool.not_false, cond_true, cond_false]
    · cases arrV sent
      · simp only [Bool.false_eq_true, if_false, sumK_r]
        exact .inr trivial
      · simp only [if_true, sumK_r, sumK_l]
        exact .inl trivial
  | true =>
    have hq := q1 rfl
    simp only [if_true, sumK_l]
    obtain ⟨p0, p1, p2, p3, p4, p5, p6, p7, p8, dt, ⟨⟩⟩ := a
    simp only [pdat] at hq
    unfold rdo_J0 inD_J1
    simp only [p9, pdat, Bool.not_true, cond_true, cond_false]
    by_cases hp : p0 = 3 ∨ p0 = 11
    · rcases hp with rfl | rfl
      · simp only [show decide ((3 : Int) = 3) = true from rfl, show decide ((3 : Int) = 11) = false from rfl, show decide ((11 : Int) = 3) = false from rfl, show decide ((11 : Int) = 11) = true from rfl, Bool.not_true, Bool.not_false, cond_true, cond_false]
        by_cases hmx : mx < (dt.length : Int)
        · simp only [dT hmx, cond_true]
          exact ⟨5, [], ans1, fs1, heard1, sent, rfl, by omega, by omega, by simp, .inr ⟨.inl rfl, rfl⟩⟩
        · simp only [dF hmx, cond_false]
          cases iso with
          | true =>
            simp only [cond_true]
            exact ⟨1, dt, ans1, fs1, heard1, sent, rfl, by omega, by omega, hq, .inl (.inl rfl)⟩
          | false =>
          simp only [cond_false]
          unfold inD_J2
          rw [b2, e2]
          generalize spk ans1 fs1 (2, 0, 0, 0, 0, 0, false, false, 0, [], ()) = R2 at *
          obtain ⟨b, ok2, sent2, ans2, heard2, fs2⟩ := R2
          simp only at *
          simp only [bnd_some]
          cases tg with
          | true =>
            simp only [decide_true, show decide (true = false) = false from rfl, show decide (false = true) = false from rfl, Bool.not_true, Bool.not_false, cond_true, cond_false]
            refine ⟨6, [], ans2, fs2, heard1 ++ heard2, sent ++ sent2, rfl, by simp; omega, by simp; omega, by simp, .inr ⟨?_, rfl⟩⟩
            cases ok2
            · cases arrV sent2
              · simp only [Bool.false_eq_true, if_false, sumK_r]; exact .inr trivial
              · simp only [Bool.false_eq_true, if_false, if_true, sumK_r, sumK_l]; exact .inl trivial
            · simp only [if_true, sumK_l]; exact .inl trivial
          | false =>
            simp only [decide_true, show decide (true = false) = false from rfl, show decide (false = true) = false from rfl, Bool.not_true, Bool.not_false, cond_true, cond_false]
            refine ⟨1, dt, ans2, fs2, heard1 ++ heard2, sent ++ sent2, rfl, by simp; omega, by simp; omega, hq, .inl ?_⟩
            cases ok2
            · cases arrV sent2
              · simp only [Bool.false_eq_true, if_false, sumK_r]; exact .inr trivial
              · simp only [Bool.false_eq_true, if_false, if_true, sumK_r, sumK_l]; exact .inl trivial
            · simp only [if_true, sumK_l]; exact .inl trivial
      · simp only [show decide ((3 : Int) = 3) = true from rfl, show decide ((3 : Int) = 11) = false from rfl, show decide ((11 : Int) = 3) = false from rfl, show decide ((11 : Int) = 11) = true from rfl, Bool.not_true, Bool.not_false, cond_true, cond_false]
        by_cases hmx : mx < (dt.length : Int)
        · simp only [dT hmx, cond_true]
          exact ⟨5, [], ans1, fs1, heard1, sent, rfl, by omega, by omega, by simp, .inr ⟨.inl rfl, rfl⟩⟩
        · simp only [dF hmx, cond_false]
          cases iso with
          | true =>
            simp only [cond_true]
            exact ⟨1, dt, ans1, fs1, heard1, sent, rfl, by omega, by omega, hq, .inl (.inl rfl)⟩
          | false =>
          simp only [cond_false]
          unfold inD_J2
          rw [b2, e2]
          generalize spk ans1 fs1 (2, 0, 0, 0, 0, 0, false, false, 0, [], ()) = R2 at *
          obtain ⟨b, ok2, sent2, ans2, heard2, fs2⟩ := R2
          simp only at *
          simp only [bnd_some]
          cases tg with
          | true =>
            simp only [decide_true, show decide (true = false) = false from rfl, show decide (false = true) = false from rfl, Bool.not_true, Bool.not_false, cond_true, cond_false]
            refine ⟨1, dt, ans2, fs2, heard1 ++ heard2, sent ++ sent2, rfl, by simp; omega, by simp; omega, hq, .inl ?_⟩
            cases ok2
            · cases arrV sent2
              · simp only [Bool.false_eq_true, if_false, sumK_r]; exact .inr trivial
              · simp only [Bool.false_eq_true, if_false, if_true, sumK_r, sumK_l]; exact .inl trivial
            · simp only [if_true, sumK_l]; exact .inl trivial
          | false =>
            simp only [decide_true, show decide (true = false) = false from rfl, show decide (false = true) = false from rfl, Bool.not_true, Bool.not_false, cond_true, cond_false]
            refine ⟨6, [], ans2, fs2, heard1 ++ heard2, sent ++ sent2, rfl, by simp; omega, by simp; omega, by simp, .inr ⟨?_, rfl⟩⟩
            cases ok2
            · cases arrV sent2
              · simp only [Bool.false_eq_true, if_false, sumK_r]; exact .inr trivial
              · simp only [Bool.false_eq_true, if_false, if_true, sumK_r, sumK_l]; exact .inl trivial
            · simp only [if_true, sumK_l]; exact .inl trivial
    · have h3 : p0 ≠ 3 := fun h => hp (.inl h)
      have h11 : p0 ≠ 11 := fun h => hp (.inr h)
      simp only [dF h3, dF h11, Bool.not_false, cond_true]
      cases iso with
      | true =>
        simp only [Bool.not_true, cond_false, cond_true]
        exact ⟨4, [], ans1, fs1, heard1, sent, rfl, by omega, by omega, by simp, .inr ⟨.inl rfl, rfl⟩⟩
      | false =>
        simp only [Bool.not_false, cond_true, cond_false]
        unfold hands_D hands_J0
        simp only [bif_same, cond_false]
        by_cases h10 : p0 = 10
        · simp only [dT h10, cond_true, bnd_some]
          exact ⟨2, [], ans1, fs1, heard1, sent, rfl, by omega, by omega, by simp, .inr ⟨.inl rfl, rfl⟩⟩
        · simp only [dF h10, cond_false]
          by_cases h14 : p0 = 14
          · simp only [dT h14, cond_true, bnd_some]
            exact ⟨3, [], ans1, fs1, heard1, sent, rfl, by omega, by omega, by simp, .inr ⟨.inl rfl, rfl⟩⟩
          · simp only [dF h14, cond_false, bnd_some]
            exact ⟨4, [], ans1, fs1, heard1, sent, rfl, by omega, by omega, by simp, .inr ⟨.inl rfl, rfl⟩⟩
end Go.Proofs.Ytpdbekbobkjfgaa

