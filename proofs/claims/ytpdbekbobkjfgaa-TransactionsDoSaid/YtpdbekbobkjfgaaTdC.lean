/-
  The statement TransactionsDo: what Do does, and its reference: Out and Setup.
  Conditions: none.
-/
import Derived.Test.YtpdbekbobkjfgaaTdB
namespace Go.Proofs.Ytpdbekbobkjfgaa
set_option linter.unusedVariables false
set_option linter.unusedSimpArgs false
set_option maxRecDepth 100000
set_option maxHeartbeats 4000000

abbrev dpk (tg : Bool) (d : List Int) : PkT := (if tg = true then 11 else 3, 0, 0, 0, 0, 0, false, false, 0, d, ())
def resO (w : Int) (iso : Bool) (ok : Bool) (pid : Int) : Int :=
  if iso = true then 1 else if ok = false then 4 else if pid = 2 then 1 else if w = 13 then 4 else if pid = 10 then 2 else if pid = 14 then 3 else 4
theorem outJ0_eq {R : Type} (m : Nat) (ans : List PkT) (fs : List Int) (A E w : Int) (tg iso : Bool) (mx : Int) (d : List Int) (x : Int) (wp : pwf (w, A, E, 0, 0, 0, false, false, 0, [], ())) (ha : ∀ a ∈ ans, (pdat a).length ≤ 1100 ∧ pwf a)
    (k0 k1 : List PkT → List PkT → List Int → List SnT → Option R) :
    outD_J0 m ans [] fs [] (A, E, w, tg, iso, mx, d, ()) x k0 k1 = (if arrV (spk ans fs (w, A, E, 0, 0, 0, false, false, 0, [], ())).sent = true then k0 else k1) (spk ans fs (w, A, E, 0, 0, 0, false, false, 0, [], ())).ans (spk ans fs (w, A, E, 0, 0, 0, false, false, 0, [], ())).heard (spk ans fs (w, A, E, 0, 0, 0, false, false, 0, [], ())).fs (spk ans fs (w, A, E, 0, 0, 0, false, false, 0, [], ())).sent := by
  have a1 := spk_arr ans fs (w, A, E, 0, 0, 0, false, false, 0, [], ())
  have l1 := spk_sent ans fs (w, A, E, 0, 0, 0, false, false, 0, [], ())
  unfold outD_J0
  rw [spkO_eq m ans [] fs (w, A, E, 0, 0, 0, false, false, 0, [], ()) [] (Nat.zero_le _) wp ha (by simp) (by simp) a1 l1]
  generalize spk ans fs (w, A, E, 0, 0, 0, false, false, 0, [], ()) = R1 at *
  obtain ⟨a, ok, sent, ans1, heard1, fs1⟩ := R1
  simp only [bnd_some, List.nil_append] at *
  cases ok with
  | true =>
    rw [a1 rfl]
    simp only [if_true, sumK_l]
  | false => cases arrV sent <;> simp only [Bool.false_eq_true, if_false, if_true, sumK_r, sumK_l]
theorem outJ1_eq {R : Type} (m : Nat) (ans heard : List PkT) (fs : List Int) (S : List SnT) (A E w : Int) (tg iso : Bool) (mx : Int) (d : List Int) (x : Int) (hd : d.length ≤ 1024) (ha : ∀ a ∈ ans, (pdat a).length ≤ 1100 ∧ pwf a) (hh : heard.length ≤ 100) (hS : S.length ≤ 100)
    (k0 k1 : List PkT → List PkT → List Int → List SnT → Int → Int → Int → Int → Int → Int → Bool → Bool → Int → List Int → Option R) (k2 k3 : List PkT → List PkT → List Int → List SnT → PkT → Option R) (rr : SpR) (hr : rr = spk ans fs (dpk tg d)) :
    outD_J1 m ans heard fs S (A, E, w, tg, iso, mx, d, ()) x k0 k1 k2 k3 =
      (if rr.ok = true then k0 rr.ans (heard ++ rr.heard) rr.fs (S ++ rr.sent) rr.a.1 rr.a.2.1 rr.a.2.2.1 rr.a.2.2.2.1 rr.a.2.2.2.2.1 rr.a.2.2.2.2.2.1 rr.a.2.2.2.2.2.2.1 rr.a.2.2.2.2.2.2.2.1 rr.a.2.2.2.2.2.2.2.2.1 (pdat rr.a)
       else if arrV rr.sent = true then k2 rr.ans (heard ++ rr.heard) rr.fs (S ++ rr.sent) nopk else k3 rr.ans (heard ++ rr.heard) rr.fs (S ++ rr.sent) nopk) := by
  unfold outD_J1
  have key : ∀ pid : Int, (pid = 11 ∨ pid = 3) → spkO_D m (pid, 0, 0, 0, 0, 0, false, false, 0, d, ()) ans heard fs S = _ := fun pid hp =>
    spkO_eq m ans heard fs (pid, 0, 0, 0, 0, 0, false, false, 0, d, ()) S (show d.length ≤ 1100 by omega) (by unfold pwf; simp only; omega) ha hh hS (spk_arr ans fs _) (spk_sent ans fs _)
  cases tg with
  | true =>
    simp only [cond_true]
    rw [key 11 (by omega)]
    simp only [dpk, if_true] at hr
    rw [← hr]
    obtain ⟨a, ok, sent, ans1, heard1, fs1⟩ := rr
    cases ok <;> cases h : arrV sent <;> simp only [bnd_some, h, Bool.false_eq_true, if_false, if_true, sumK_r, sumK_l]
  | false =>
    simp only [cond_false]
    rw [key 3 (by omega)]
    simp only [dpk, Bool.false_eq_true, if_false] at hr
    rw [← hr]
    obtain ⟨a, ok, sent, ans1, heard1, fs1⟩ := rr
    cases ok <;> cases h : arrV sent <;> simp only [bnd_some, h, Bool.false_eq_true, if_false, if_true, sumK_r, sumK_l]
theorem outJ4_eq {R : Type} (m : Nat) (ans heard : List PkT) (fs : List Int) (S : List SnT) (A E w : Int) (tg iso : Bool) (mx : Int) (d : List Int) (x : Int) (hd : d.length ≤ 1024) (hS : S.length ≤ 100) (k : List Int → List SnT → PkT → Option R) :
    outD_J4 m ans heard fs S (A, E, w, tg, iso, mx, d, ()) x k = k (nxr fs) (S ++ [snt (dpk tg d) true (nxf fs)]) nopk := by
  unfold outD_J4
  cases tg with
  | true =>
    simp only [cond_true]
    rw [spkN_eq m fs (11, 0, 0, 0, 0, 0, false, false, 0, d, ()) S (show d.length ≤ 1100 by omega) (by unfold pwf; simp only; omega) (chk_dat 11 (by omega) d hd) hS]
    rfl
  | false =>
    simp only [cond_false]
    rw [spkN_eq m fs (3, 0, 0, 0, 0, 0, false, false, 0, d, ()) S (show d.length ≤ 1100 by omega) (by unfold pwf; simp only; omega) (chk_dat 3 (by omega) d hd) hS]
    rfl
theorem rdoJ4_eq {R : Type} (m : Nat) (ans heard : List PkT) (fs : List Int) (S : List SnT) (t : TryT) (x : Int) (y q : PkT) (hS : S.length ≤ 100) (k : List Int → List SnT → Option R) :
    rdo_J4 m ans fs t x y q S heard k = k (nxr fs) (S ++ [snt q true (nxf fs)]) := by
  unfold rdo_J4
  have hg : growOb 48 (S.length + 1) = true := grS _ _ (by omega) (by omega)
  cases fs with
  | nil => simp only [List.length_nil, z7, cond_false, List.length_cons, Nat.zero_add, hg, cond_true, nxf, nxr]
  | cons f gs => simp only [List.length_cons, List.length_nil, z1, z3, z5, z8, z9, za, gcons, cond_true, Bool.and_self, Nat.zero_add, hg, nxf, nxr, List.drop_succ_cons, List.drop_zero]
theorem rdo_tail {R : Type} (m : Nat) (ans heard : List PkT) (fs : List Int) (S : List SnT) (A E w : Int) (tg iso : Bool) (mx : Int) (d : List Int) (x : Int) (ok : Bool) (a : PkT) (hw : w = 1 ∨ w = 13) (f : Int → Option R) :
    rdo_J1 m ok ans fs (A, E, w, tg, iso, mx, d, ()) x a S heard (fun d386 => bif d386 then f 1 else rdo_J2 m ok ans fs (A, E, w, tg, iso, mx, d, ()) x a S heard (fun d430 => bif d430 then f 2 else rdo_J3 m ok ans fs (A, E, w, tg, iso, mx, d, ()) x a S heard (fun d474 => bif d474 then f 3 else f 4))) = f (resO w iso ok a.1) := by
  unfold rdo_J1 rdo_J2 rdo_J3 resO
  cases iso with
  | true => simp only [cond_true, if_true]
  | false =>
    cases ok with
    | false => simp only [cond_false, Bool.false_eq_true, if_false, if_true]
    | true =>
      simp only [cond_true, cond_false, Bool.false_eq_true, if_false, Bool.true_eq_false]
      by_cases h2 : a.1 = 2
      · simp only [h2, decide_true, cond_true, if_true]
      · simp only [h2, decide_false, cond_false, if_false]
        rcases hw with rfl | rfl
        · simp only [decide_true, cond_true, show ((1 : Int) = 13) = False from eq_false (by decide), if_false]
          by_cases h10 : a.1 = 10
          · simp only [h10, decide_true, cond_true, if_true, show decide ((10 : Int) = 14) = false from rfl]
          · simp only [h10, decide_false, cond_false, if_false]
            by_cases h14 : a.1 = 14
            · simp only [h14, decide_true, cond_true, if_true, show decide ((10 : Int) = 14) = false from rfl]
            · simp only [h14, decide_false, cond_false, if_false]
        · simp only [show ((13 : Int) = 1) = False from eq_false (by decide), decide_false, cond_false, if_true]
theorem out_tail {R : Type} (m : Nat) (ans heard : List PkT) (fs : List Int) (S : List SnT) (A E w : Int) (tg iso : Bool) (mx : Int) (d : List Int) (x pid : Int) (hw : w = 1 ∨ w = 13) (f : Int → Option R) (hj : iso = false) :
    (bnd (hands_D m pid true) fun y206 => outD_J2 m y206.fst ans heard fs S (A, E, w, tg, iso, mx, d, ()) x (fun d228 => bif d228 then f 4 else f y206.1)) = f (resO w iso true pid) := by
  subst hj
  unfold hands_D hands_J0 resO
  simp only [Bool.false_eq_true, if_false, Bool.true_eq_false]
  by_cases h2 : pid = 2
  · simp only [h2, decide_true, cond_true, bnd_some, if_true]
    unfold outD_J2
    simp only [decide_true, Bool.not_true, cond_false, bif_same]
  · simp only [h2, decide_false, cond_false, if_false]
    have ht : ∀ r : Int, r ≠ 1 → outD_J2 m r ans heard fs S (A, E, w, tg, false, mx, d, ()) x (fun d228 => bif d228 then f 4 else f r) = f (if w = 13 then 4 else r) := by
      intro r hr
      unfold outD_J2
      rcases hw with rfl | rfl
      · simp only [show ((1 : Int) = 13) = False from eq_false (by decide), decide_false, cond_false, if_false]
      · simp only [decide_true, cond_true, hr, decide_false, Bool.not_false, if_true]
    by_cases h10 : pid = 10
    · simp only [h10, decide_true, cond_true, bnd_some, if_true]
      exact ht 2 (by decide)
    · simp only [h10, decide_false, cond_false, if_false]
      by_cases h14 : pid = 14
      · simp only [h14, decide_true, cond_true, bnd_some, if_true]
        exact ht 3 (by decide)
      · simp only [h14, decide_false, cond_false, bnd_some, if_false]
        exact ht 4 (by decide)
theorem do_out (m : Nat) (ans : List PkT) (fs : List Int) (A E w : Int) (tg iso : Bool) (mx : Int) (d : List Int) (g : TGood A E w tg iso mx d) (hw : w = 1 ∨ w = 13) (hA0 : 0 ≤ A) (hE0 : 0 ≤ E) (ha : ∀ a ∈ ans, (pdat a).length ≤ 1100 ∧ pwf a) :
    ∃ o ans' fs' H S, rdo_D m ans fs (A, E, w, tg, iso, mx, d, ()) = some (((ans', fs', H, S, ()), (o, [], ()), ()), ()) ∧ H.length ≤ 10 ∧ S.length ≤ 10 ∧
      ((outD_D m (A, E, w, tg, iso, mx, d, ()) ans [] fs [] = some (Sum.inl ((o, ()), (ans', ()), H, (fs', ()), S, ()))) ∨ (outD_D m (A, E, w, tg, iso, mx, d, ()) ans [] fs [] = some (Sum.inr ((o, ()), (ans', ()), H, (fs', ()), S, ())))) := by
  have hA := g.hA
  have hE := g.hE
  have wp1 : pwf (w, A, E, 0, 0, 0, false, false, 0, [], ()) := by
    unfold pwf; simp only; omega
  have c1 := chk_tok w A E (by omega) hA hE
  have u1 := spk_sub ans fs (w, A, E, 0, 0, 0, false, false, 0, [], ())
  have l1 := spk_sent ans fs (w, A, E, 0, 0, 0, false, false, 0, [], ())
  have m1 := spk_heard ans fs (w, A, E, 0, 0, 0, false, false, 0, [], ())
  obtain ⟨⟨s, l, hs, hv⟩, _⟩ := spk_head ans fs (w, A, E, 0, 0, 0, false, false, 0, [], ()) c1
  have b1 := rspeakB_eq m ans [] fs (w, A, E, 0, 0, 0, false, false, 0, [], ()) [] (by simp) (by simp)
  have w9 : decide (w = (9 : Int)) = false := dF (by omega)
  unfold rdo_D outD_D
  rw [b1, outJ0_eq m ans fs A E w tg iso mx d 0 wp1 ha]
  generalize spk ans fs (w, A, E, 0, 0, 0, false, false, 0, [], ()) = R1 at *
  obtain ⟨a, ok, sent, ans1, heard1, fs1⟩ := R1
  simp only at *
  have ha1 : ∀ a ∈ ans1, (pdat a).length ≤ 1100 ∧ pwf a := fun x hx => ha x (u1 x hx)
  subst hs
  have hl0 : decide (0 < l.length + 1) = true := dT (by omega)
  simp only [bnd_some, List.nil_append, w9, cond_false, List.length_cons, z3, z9, gcons, cond_true, hl0]
  have hsame : ∀ {α : Type} (f : PkT → α), (bif tg then f (11, 0, 0, 0, 0, 0, false, false, 0, d, ()) else f (3, 0, 0, 0, 0, 0, false, false, 0, d, ())) = f (dpk tg d) := by
    intro α f; cases tg <;> rfl
  cases har : arrV (s :: l) with
  | false =>
    rw [har] at hv
    have hfp : (s.2.2.2.2.2.2.2.2.2.2.2.1 = (0 : Int)) = False := eq_false (of_decide_eq_false hv.symm)
    simp only [hfp, decide_false, Bool.false_eq_true, if_false, cond_false]
    rw [outJ4_eq m ans1 heard1 fs1 (s :: l) A E w tg iso mx d 0 g.hd (by omega)]
    have e : ∀ q : PkT, (rdo_J4 m ans1 fs1 (A, E, w, tg, iso, mx, d, ()) 0 a q (s :: l) heard1 (fun d515 d516 => rdo_J1 m false ans1 d515 (A, E, w, tg, iso, mx, d, ()) 0 a d516 heard1 (fun d531 => bif d531 then some (((ans1, d515, heard1, d516, ()), ((1 : Int), ([] : List Int), ()), ()), ()) else some (((ans1, d515, heard1, d516, ()), (4, [], ()), ()), ())))) = some (((ans1, nxr fs1, heard1, (s :: l) ++ [snt q true (nxf fs1)], ()), ((if iso = true then 1 else 4), [], ()), ()), ()) := by
      intro q
      rw [rdoJ4_eq m ans1 heard1 fs1 (s :: l) _ 0 a q (by omega)]
      unfold rdo_J1
      cases iso <;> rfl
    refine ⟨if iso = true then 1 else 4, ans1, nxr fs1, heard1, (s :: l) ++ [snt (dpk tg d) true (nxf fs1)], ?_, by omega, by simp at l1 ⊢; omega, .inr ?_⟩
    · cases tg
      · exact e (3, 0, 0, 0, 0, 0, false, false, 0, d, ())
      · exact e (11, 0, 0, 0, 0, 0, false, false, 0, d, ())
    · cases iso <;> rfl
  | true =>
    rw [har] at hv
    have hfp : s.2.2.2.2.2.2.2.2.2.2.2.1 = (0 : Int) := of_decide_eq_true hv.symm
    simp only [hfp, decide_true, if_true, cond_true]
    have l2 := spk_sent ans1 fs1 (dpk tg d)
    have m2 := spk_heard ans1 fs1 (dpk tg d)
    have hno := spk_no ans1 fs1 (dpk tg d)
    have b2 : ∀ q : PkT, q = dpk tg d → rspeakB_D m ans1 fs1 q heard1 (s :: l) = some ((((spk ans1 fs1 (dpk tg d)).ans, (spk ans1 fs1 (dpk tg d)).fs, ()), (spk ans1 fs1 (dpk tg d)).a, (spk ans1 fs1 (dpk tg d)).ok, ()), heard1 ++ (spk ans1 fs1 (dpk tg d)).heard, (s :: l) ++ (spk ans1 fs1 (dpk tg d)).sent, ()) := by
      intro q hq; rw [hq]; exact rspeakB_eq m ans1 heard1 fs1 (dpk tg d) (s :: l) (by omega) (by omega)
    rw [outJ1_eq m ans1 heard1 fs1 (s :: l) A E w tg iso mx d 0 g.hd ha1 (by omega) (by omega) _ _ _ _ (spk ans1 fs1 (dpk tg d)) rfl]
    generalize hR : spk ans1 fs1 (dpk tg d) = R2 at *
    obtain ⟨b, ok2, sent2, ans2, heard2, fs2⟩ := R2
    simp only at *
    have ht := fun (q : PkT) => rdo_tail m ans2 (heard1 ++ heard2) fs2 ((s :: l) ++ sent2) A E w tg iso mx d 0 ok2 b hw (fun o => some (((ans2, fs2, heard1 ++ heard2, (s :: l) ++ sent2, ()), (o, ([] : List Int), ()), ()), ()))
    refine ⟨resO w iso ok2 b.1, ans2, fs2, heard1 ++ heard2, (s :: l) ++ sent2, ?_, by simp; omega, by simp at l1 ⊢; omega, ?_⟩
    · cases tg
      · simp only [cond_false]
        rw [b2 (3, 0, 0, 0, 0, 0, false, false, 0, d, ()) rfl, bnd_some]
        exact ht nopk
      · simp only [cond_true]
        rw [b2 (11, 0, 0, 0, 0, 0, false, false, 0, d, ()) rfl, bnd_some]
        exact ht nopk
    · cases ok2 with
      | true =>
        simp only [if_true]
        cases iso with
        | true => exact .inl rfl
        | false =>
          refine .inl ?_
          simp only [cond_false]
          exact out_tail m ans2 (heard1 ++ heard2) fs2 ((s :: l) ++ sent2) A E w tg false mx d 0 b.1 hw (fun o => some (Sum.inl ((o, ()), (ans2, ()), heard1 ++ heard2, (fs2, ()), (s :: l) ++ sent2, ()))) rfl
      | false =>
        simp only [Bool.false_eq_true, if_false]
        cases arrV sent2
        · simp only [Bool.false_eq_true, if_false]
          refine .inr ?_
          cases iso <;> rfl
        · simp only [if_true]
          refine .inl ?_
          cases iso <;> rfl
end Go.Proofs.Ytpdbekbobkjfgaa

