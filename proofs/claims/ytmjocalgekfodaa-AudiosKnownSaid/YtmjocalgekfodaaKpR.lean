/-
  The statement AudiosKeep: the frames of a plan; the plain law.
  Conditions: none.
-/
import Derived.Test.YtmjocalgekfodaaKpQ
namespace Go.Proofs.Ytmjocalgekfodaa
set_option linter.unusedVariables false
set_option linter.unusedSimpArgs false
set_option maxRecDepth 100000
set_option maxHeartbeats 2000000

abbrev PlanT := Int × Int × List Int × Int × List Int × Unit
theorem tmodR {a : Int} {n : Nat} (h : 0 ≤ a) (hn : 0 < n) : 0 ≤ Int.tmod a (n : Int) ∧ Int.tmod a (n : Int) < (n : Int) := by
  rw [Int.tmod_eq_emod_of_nonneg h]
  exact ⟨Int.emod_nonneg _ (by omega), Int.emod_lt_of_pos _ (by omega)⟩
theorem tmodW (w : Int) : -65536 ≤ Int.tmod w 65537 ∧ Int.tmod w 65537 ≤ 65536 := by
  have h0 := Int.mul_tdiv_add_tmod w 65537
  rcases Int.le_total 0 w with h | h
  · rw [Int.tmod_eq_emod_of_nonneg h]; omega
  · have e : Int.tmod w 65537 = - Int.tmod (-w) 65537 := by rw [Int.neg_tmod]; omega
    rw [e, Int.tmod_eq_emod_of_nonneg (by omega)]; omega
theorem u8tdiv {x : Int} (h0 : 0 ≤ x) (h1 : x ≤ 255) : 0 ≤ Int.tdiv x 3 ∧ Int.tdiv x 3 ≤ 85 := by
  rw [Int.tdiv_eq_ediv_of_nonneg h0]; omega
theorem ticks_step {R : Type} (m : Nat) (lossy : Bool) (n next aa i : Int) (p : PlanT) (acc : List Tk) (k0 : Int → Int → List Tk → Option R) (hn : 131072 ≤ n) (hn2 : n < 3145728) (hi : 0 ≤ i ∧ i < 600) (ha : 0 ≤ aa ∧ aa ≤ i) (hacc : acc.length ≤ 1000)
    (hw : ∀ x ∈ p.2.2.1, -2147483648 ≤ x ∧ x ≤ 2147483647) (hL : ∀ x ∈ p.2.2.2.2.1, 0 ≤ x ∧ x ≤ 255) (hlen : p.2.2.1.length ≤ 9223372036854775807 ∧ p.2.2.2.2.1.length ≤ 9223372036854775807) :
    ∃ (t : Tk) (next' aa' : Int), lticks_J1 m lossy n (n / 65536 + 1) next aa i p acc k0 = k0 next' aa' (acc ++ [t]) ∧ (n - 65536 ≤ t.1 ∧ t.1 ≤ n + 65536) ∧ (0 ≤ aa' ∧ aa' ≤ i + 1) ∧
      ((t.2.1 = false ∧ t.2.2.1 = false ∧ next' = next) ∨ (lossy = true ∧ i = next ∧ i + 2 * (n / 65536) + 63 ≤ next')) := by
  obtain ⟨N, r, wob, F, los, u⟩ := p
  simp only at hw hL hlen
  have hM : 2 ≤ n / 65536 ∧ n / 65536 ≤ 47 := by omega
  unfold lticks_J1
  simp only
  -- the rate
  obtain ⟨q, hq, hq1⟩ : ∃ q, (q = (if 0 < wob.length then Go.IntKind.wrap .u32 (Go.IntKind.wrap .i64 (Go.IntKind.wrap .i64 n + Go.IntKind.wrap .i64 (Int.tmod (List.getD wob (Int.toNat (Int.tmod i (wob.length : Int))) 0) 65537))) else n)) ∧ n - 65536 ≤ q ∧ q ≤ n + 65536 := by
    refine ⟨_, rfl, ?_⟩
    split
    · have := tmodW (List.getD wob (Int.toNat (Int.tmod i (wob.length : Int))) 0)
      generalize Int.tmod (List.getD wob (Int.toNat (Int.tmod i (wob.length : Int))) 0) 65537 = z at this ⊢
      rw [kwi64 (x := n) (by omega) (by omega), kwi64 (x := z) (by omega) (by omega), kwi64 (x := n + z) (by omega) (by omega), kwu32 (by omega) (by omega)]
      omega
    · omega
  -- a frame in which nothing is lost
  have hgr : ∀ t : Tk, growOb 8 (acc.length + List.length [t]) = true := fun t => kgr8 _ (by simp; omega)
  have hone : ∀ (X Y Z : Option R), lticks_J0 m lossy n (n / 65536 + 1) next aa i (N, r, wob, F, los, u) (q, false, false, ()) acc X Y Z = if lossy = true then (if i = next then X else Y) else Z := fun X Y Z => by
    unfold lticks_J0
    cases lossy with
    | false => rfl
    | true =>
      by_cases h : i = next
      · rw [dT h]; simp [h]
      · rw [dF h]; simp [h]
  have hlos : 0 < los.length → inB (Int.tmod aa (los.length : Int)) los.length = true := fun h => by
    obtain ⟨h1, h2⟩ := tmodR (a := aa) ha.1 h
    exact inT h1 h2
  have main : ∃ (t : Tk) (next' aa' : Int), (lticks_J0 m lossy n (n / 65536 + 1) next aa i (N, r, wob, F, los, u) (q, false, false, ()) acc
      (bif decide ((0 : Int) < (los.length : Int)) then (bif !decide ((los.length : Int) = 0) then (bif inB (Int.tmod aa (los.length : Int)) los.length then (bif growOb 8 (acc.length + List.length [(q, !decide (Int.tmod (Go.IntKind.wrap .i64 (List.getD los (Int.toNat (Int.tmod aa (los.length : Int))) 0)) 3 = 1), !decide (Int.tmod (Go.IntKind.wrap .i64 (List.getD los (Int.toNat (Int.tmod aa (los.length : Int))) 0)) 3 = 0), ())]) then
        k0 (Go.IntKind.wrap .i64 (Go.IntKind.wrap .i64 (Go.IntKind.wrap .i64 (i + Go.IntKind.wrap .i64 (2 * (n / 65536 + 1))) + 61) + Go.IntKind.wrap .i64 (Int.tdiv (Go.IntKind.wrap .i64 (List.getD los (Int.toNat (Int.tmod aa (los.length : Int))) 0)) 3))) (Go.IntKind.wrap .i64 (aa + 1)) (acc ++ [(q, !decide (Int.tmod (Go.IntKind.wrap .i64 (List.getD los (Int.toNat (Int.tmod aa (los.length : Int))) 0)) 3 = 1), !decide (Int.tmod (Go.IntKind.wrap .i64 (List.getD los (Int.toNat (Int.tmod aa (los.length : Int))) 0)) 3 = 0), ())]) else none) else none) else none)
        else (bif growOb 8 (acc.length + List.length [((q, false, false, ()) : Tk)]) then k0 next aa (acc ++ [(q, false, false, ())]) else none))
      (bif growOb 8 (acc.length + List.length [((q, false, false, ()) : Tk)]) then k0 next aa (acc ++ [(q, false, false, ())]) else none)
      (bif growOb 8 (acc.length + List.length [((q, false, false, ()) : Tk)]) then k0 next aa (acc ++ [(q, false, false, ())]) else none)) = k0 next' aa' (acc ++ [t]) ∧ (n - 65536 ≤ t.1 ∧ t.1 ≤ n + 65536) ∧ (0 ≤ aa' ∧ aa' ≤ i + 1) ∧
      ((t.2.1 = false ∧ t.2.2.1 = false ∧ next' = next) ∨ (lossy = true ∧ i = next ∧ i + 2 * (n / 65536) + 63 ≤ next')) := by
    rw [hone, hgr, hgr]
    simp only [cond_true]
    have plain : ∃ (t : Tk) (next' aa' : Int), k0 next aa (acc ++ [((q, false, false, ()) : Tk)]) = k0 next' aa' (acc ++ [t]) ∧ (n - 65536 ≤ t.1 ∧ t.1 ≤ n + 65536) ∧ (0 ≤ aa' ∧ aa' ≤ i + 1) ∧ ((t.2.1 = false ∧ t.2.2.1 = false ∧ next' = next) ∨ (lossy = true ∧ i = next ∧ i + 2 * (n / 65536) + 63 ≤ next')) :=
      ⟨(q, false, false, ()), next, aa, rfl, hq1, ⟨ha.1, by omega⟩, .inl ⟨rfl, rfl, rfl⟩⟩
    by_cases h1 : lossy = true
    · rw [if_pos h1]
      by_cases h2 : i = next
      · rw [if_pos h2]
        by_cases h3 : 0 < los.length
        · rw [dT (show (0 : Int) < (los.length : Int) by omega), dF (show ¬ (los.length : Int) = 0 by omega), hlos h3]
          simp only [cond_true, Bool.not_false]
          obtain ⟨g1, g2⟩ := tmodR (a := aa) ha.1 h3
          have hx := hL (List.getD los (Int.toNat (Int.tmod aa (los.length : Int))) 0) (by rw [getD_lt (by omega)]; exact List.getElem_mem _)
          generalize List.getD los (Int.toNat (Int.tmod aa (los.length : Int))) 0 = y at hx ⊢
          rw [kwi64 (x := y) (by omega) (by omega)]
          have hd := u8tdiv hx.1 hx.2
          generalize Int.tdiv y 3 = d at hd ⊢
          rw [kwi64 (x := 2 * (n / 65536 + 1)) (by omega) (by omega), kwi64 (x := i + 2 * (n / 65536 + 1)) (by omega) (by omega), kwi64 (x := i + 2 * (n / 65536 + 1) + 61) (by omega) (by omega), kwi64 (x := d) (by omega) (by omega), kwi64 (x := i + 2 * (n / 65536 + 1) + 61 + d) (by omega) (by omega), kwi64 (x := aa + 1) (by omega) (by omega)]
          exact ⟨_, _, _, rfl, hq1, ⟨by omega, by omega⟩, .inr ⟨h1, h2, by omega⟩⟩
        · rw [dF (show ¬ (0 : Int) < (los.length : Int) by omega)]
          exact plain
      · rw [if_neg h2]; exact plain
    · rw [if_neg h1]; exact plain
  by_cases h0 : 0 < wob.length
  · rw [if_pos h0] at hq
    rw [← hq]
    obtain ⟨g1, g2⟩ := tmodR (a := i) hi.1 h0
    rw [dT (show (0 : Int) < (wob.length : Int) by omega), dF (show ¬ (wob.length : Int) = 0 by omega), inT g1 g2]
    exact main
  · rw [if_neg h0] at hq
    rw [dF (show ¬ (0 : Int) < (wob.length : Int) by omega)]
    rw [hq] at main
    exact main
theorem lnom_eq (m : Nat) (N : Int) (y : Int × List Int × Int × List Int × Unit) (h0 : 0 ≤ N) (h1 : N < 4294967296) : lnom_D m (N, y) = some ((131072 + N % 3014656, (131072 + N % 3014656) / 65536 + 1, ()), ()) := by
  unfold lnom_D
  simp only
  rw [Int.tmod_eq_emod_of_nonneg h0]
  have h2 : 0 ≤ N % 3014656 ∧ N % 3014656 < 3014656 := by omega
  generalize N % 3014656 = z at h2 ⊢
  rw [kwu32 (x := 131072 + z) (by omega) (by omega), ktd (by omega), kwu32 (by omega) (by omega), kwi64 (x := (131072 + z) / 65536) (by omega) (by omega), kwi64 (by omega) (by omega)]
theorem lticks_run (m : Nat) (lossy : Bool) (n : Int) (p : PlanT) (F : Nat) (hF : Go.IntKind.wrap .i64 (Int.tmod p.2.2.2.1 600) = (F : Int)) (hF2 : F < 600) (hn : 131072 ≤ n) (hn2 : n < 3145728)
    (hw : ∀ x ∈ p.2.2.1, -2147483648 ≤ x ∧ x ≤ 2147483647) (hL : ∀ x ∈ p.2.2.2.2.1, 0 ≤ x ∧ x ≤ 255) (hlen : p.2.2.1.length ≤ 9223372036854775807 ∧ p.2.2.2.2.1.length ≤ 9223372036854775807) :
    ∀ (f i : Nat) (next aa k : Int) (acc : List Tk), i ≤ F → F - i < f → acc.length = i → (0 ≤ aa ∧ aa ≤ i) → 0 ≤ k → (next < i ∨ 2 * (n / 65536) + 60 ≤ k + next - i) →
    ∃ L : List Tk, lticks_L0 m f lossy n (n / 65536 + 1) next aa (i : Int) p acc = some ((), (acc ++ L, ())) ∧ L.length = F - i ∧ kGaps n k L ∧ (lossy = false → ∀ t ∈ L, (n - 65536 ≤ t.1 ∧ t.1 ≤ n + 65536) ∧ t.2.1 = false ∧ t.2.2.1 = false) := by
  intro f
  induction f with
  | zero => intro i next aa k acc h1 h2; omega
  | succ f ih =>
    intro i next aa k acc h1 h2 h3 h4 h5 h6
    rw [lticks_L0, hF]
    by_cases h : i < F
    · have hwS : Go.IntKind.wrap .i64 ((i : Int) + 1) = ((i + 1 : Nat) : Int) := by rw [kwi64 (by omega) (by omega)]; omega
      rw [dT (show (i : Int) < (F : Int) by omega), hwS]
      obtain ⟨t, next', aa', e, ht, haa, hc⟩ := ticks_step m lossy n next aa (i : Int) p acc (fun d828 d829 d830 => lticks_L0 m f lossy n (n / 65536 + 1) d828 d829 ((i + 1 : Nat) : Int) p d830) hn hn2 (by omega) h4 (by omega) hw hL hlen
      simp only [cond_true]
      rw [e]
      rcases hc with ⟨f1, f2, rfl⟩ | ⟨f1, f2, f3⟩
      · obtain ⟨L, e1, e2, e3, e4⟩ := ih (i + 1) next' aa' (k + 1) (acc ++ [t]) (by omega) (by omega) (by simp; omega) (by omega) (by omega) (by omega)
        refine ⟨t :: L, by rw [e1]; simp, by simp; omega, ⟨ht, .inl ⟨f1, f2, e3⟩⟩, fun hl u hu => ?_⟩
        rcases List.mem_cons.1 hu with rfl | hu
        · exact ⟨ht, f1, f2⟩
        · exact e4 hl u hu
      · obtain ⟨L, e1, e2, e3, e4⟩ := ih (i + 1) next' aa' 0 (acc ++ [t]) (by omega) (by omega) (by simp; omega) (by omega) (by omega) (by omega)
        refine ⟨t :: L, by rw [e1]; simp, by simp; omega, ⟨ht, .inr ⟨by omega, e3⟩⟩, fun hl u hu => ?_⟩
        rw [hl] at f1; cases f1
    · rw [dF (show ¬ (i : Int) < (F : Int) by omega)]
      exact ⟨[], by simp, by simp; omega, trivial, fun _ t ht => by simp at ht⟩
theorem kGaps_le {n : Int} : ∀ {l : List Tk} {k : Int}, kGaps n k l → ∀ t ∈ l, n - 65536 ≤ t.1 ∧ t.1 ≤ n + 65536
  | [], _, _, t, ht => by simp at ht
  | u :: l, k, ⟨h1, h2⟩, t, ht => by
    rcases List.mem_cons.1 ht with rfl | ht
    · exact h1
    · rcases h2 with ⟨_, _, h3⟩ | ⟨_, h3⟩
      · exact kGaps_le h3 t ht
      · exact kGaps_le h3 t ht
theorem keep_L0 (m : Nat) (T : Int) (hT : 0 ≤ T ∧ T ≤ 1000000) (n many : Int) (p : PlanT) (s : Int × Int × Int × Unit) (xs : List Int) (y : List Int × Int × Int × Unit) (hx : ∀ z ∈ xs, T - 8 ≤ z ∧ z ≤ T + 8) (hl : xs.length ≤ 100000) : ∀ (f i : Nat), i ≤ xs.length → xs.length - i < f →
    lawKeep_L0 m f n many (i : Int) p (T, s) (xs, y) = some (.inr ((n, (many, ())), (p, ((T, s), ((xs, y), ()))))) := by
  intro f
  induction f with
  | zero => intro i h1 h2; omega
  | succ f ih =>
    intro i h1 h2
    rw [lawKeep_L0]
    simp only
    by_cases h : i < xs.length
    · have hz := hx (xs.getD i 0) (by rw [getD_lt h]; exact List.getElem_mem h)
      have hwS : Go.IntKind.wrap .i64 ((i : Int) + 1) = ((i + 1 : Nat) : Int) := by rw [kwi64 (by omega) (by omega)]; omega
      unfold lawKeep_J1
      simp only
      rw [dT (show (i : Int) < (xs.length : Int) by omega), inT (by omega) (by omega : (i : Int) < (xs.length : Nat)), toNatC, hwS, kwi64 (x := T - 8) (by omega) (by omega), kwi64 (x := T + 8) (by omega) (by omega), dF (show ¬ xs.getD i 0 < T - 8 by omega), dF (show ¬ T + 8 < xs.getD i 0 by omega), ih (i + 1) (by omega) (by omega)]
      rfl
    · rw [dF (show ¬ (i : Int) < (xs.length : Int) by omega)]
      rfl
theorem lawKeep_all (m : Nat) (hm : 2000 ≤ m) (hlv : lives42_D m = some (true, ())) (p : PlanT) (x1 x2 : Int) (hN : 0 ≤ p.1 ∧ p.1 < 4294967296) (hr : 0 ≤ p.2.1 ∧ p.2.1 < 65536) (hF : 0 ≤ p.2.2.2.1 ∧ p.2.2.2.1 < 65536) (h1 : 0 ≤ x1 ∧ x1 < 65536) (h2 : 0 ≤ x2 ∧ x2 < 65536)
    (hw : ∀ x ∈ p.2.2.1, -2147483648 ≤ x ∧ x ≤ 2147483647) (hL : ∀ x ∈ p.2.2.2.2.1, 0 ≤ x ∧ x ≤ 255) (hlen : p.2.2.1.length ≤ 9223372036854775807 ∧ p.2.2.2.2.1.length ≤ 9223372036854775807) : lawKeep_D m p x1 x2 = some (true, ()) := by
  obtain ⟨N, r, wob, F, los, u⟩ := p
  simp only at hN hr hF
  have eF : Go.IntKind.wrap .i64 (Int.tmod F 600) = ((F % 600).toNat : Int) := by rw [Int.tmod_eq_emod_of_nonneg hF.1, kwi64 (by omega) (by omega)]; omega
  have eN := lnom_eq m N (r, wob, F, los, u) hN.1 hN.2
  have hn : 131072 ≤ 131072 + N % 3014656 ∧ 131072 + N % 3014656 < 3145728 := by omega
  generalize 131072 + N % 3014656 = n at eN hn
  obtain ⟨L1, a1, a2, a3, a4⟩ := lticks_run m false n (N, r, wob, F, los, u) (F % 600).toNat eF (by omega) hn.1 hn.2 hw hL hlen m 0 60 0 (2 * (n / 65536)) [] (by omega) (by omega) rfl (by omega) (by omega) (by omega)
  obtain ⟨L2, b1, b2, b3, b4⟩ := lticks_run m true n (N, r, wob, F, los, u) (F % 600).toNat eF (by omega) hn.1 hn.2 hw hL hlen m 0 60 0 (2 * (n / 65536)) [] (by omega) (by omega) rfl (by omega) (by omega) (by omega)
  have e1 : lticks_D m (N, r, wob, F, los, u) false = some (L1, ()) := by
    unfold lticks_D
    rw [eN]
    simp only [bnd_some]
    have : lticks_L0 m m false n (n / 65536 + 1) 60 0 (0 : Int) (N, r, wob, F, los, u) [] = some ((), ([] ++ L1, ())) := a1
    rw [this]; rfl
  have e2 : lticks_D m (N, r, wob, F, los, u) true = some (L2, ()) := by
    unfold lticks_D
    rw [eN]
    simp only [bnd_some]
    have : lticks_L0 m m true n (n / 65536 + 1) 60 0 (0 : Int) (N, r, wob, F, los, u) [] = some ((), ([] ++ L2, ())) := b1
    rw [this]; rfl
  clear a1 b1
  have hM : 2 ≤ n / 65536 ∧ n / 65536 ≤ 47 := by omega
  have c1 : 0 ≤ Int.tmod x1 1000 ∧ Int.tmod x1 1000 ≤ 999 := by rw [Int.tmod_eq_emod_of_nonneg h1.1]; omega
  have c2 : 0 ≤ Int.tmod x2 1000 ∧ Int.tmod x2 1000 ≤ 999 := by rw [Int.tmod_eq_emod_of_nonneg h2.1]; omega
  unfold lawKeep_D
  rw [eN]
  simp only [bnd_some]
  rw [e1]
  simp only [bnd_some]
  generalize Int.tmod x1 1000 = A at c1 ⊢
  generalize Int.tmod x2 1000 = B at c2 ⊢
  rw [kwi64 (x := A) (by omega) (by omega), kwi64 (x := B) (by omega) (by omega), kwi64 (x := 16 + A) (by omega) (by omega), kwi64 (x := 16 + A + (n / 65536 + 1)) (by omega) (by omega), kwi64 (x := 16 + A + (n / 65536 + 1) + 20) (by omega) (by omega), kwi64 (x := 16 + A + (n / 65536 + 1) + 20 + B) (by omega) (by omega), kwu32 (x := r) (by omega) (by omega)]
  have t1 : ∀ t ∈ L1, 0 ≤ t.1 ∧ t.1 ≤ 16777216 := fun t ht => by have := kGaps_le a3 t ht; omega
  have t2 : ∀ t ∈ L2, 0 ≤ t.1 ∧ t.1 ≤ 16777216 := fun t ht => by have := kGaps_le b3 t ht; omega
  have k1 : kOk (16 + A) (16 + A + (n / 65536 + 1) + 20 + B) (16 + A, r, 0, n, n) := by simp only [kOk]; omega
  have s1 := sim_eq m L1 n (16 + A) (16 + A + (n / 65536 + 1) + 20 + B) (16 + A) r (by omega) (by omega) (by omega) t1 k1
  rw [s1]
  have n1 := kRun_near (r0 := r) hn.1 hn.2 (T := 16 + A) (room := 16 + A + (n / 65536 + 1) + 20 + B) (by omega) (by omega) hr.1 hr.2 L1 (16 + A, r, 0, n, n) (0, 0, 0, 0, [], []) (a4 rfl) k1 (by simp only [kNear]; omega) (by simp)
  have n1l := kRun_len (16 + A) (16 + A + (n / 65536 + 1) + 20 + B) L1 (16 + A, r, 0, n, n) (0, 0, 0, 0, [], [])
  generalize kRun (16 + A) (16 + A + (n / 65536 + 1) + 20 + B) L1 (16 + A, r, 0, n, n) (0, 0, 0, 0, [], []) = G1 at n1 n1l ⊢
  obtain ⟨n1a, n1b, n1c⟩ := n1
  obtain ⟨ga, gb, gc, gd, gx, gy⟩ := G1
  simp only at n1a n1b n1c n1l
  subst n1a n1b
  simp only [bnd_some]
  unfold lawKeep_J0
  simp only [decide_true, Bool.not_true, cond_false]
  have q1 : lawKeep_L0 m m n (n / 65536 + 1) (0 : Int) (N, r, wob, F, los, u) (16 + A, 16 + A + (n / 65536 + 1) + 20 + B, 16 + A, r, ()) (gx, gy, 0, 0, ()) = some (.inr ((n, (n / 65536 + 1, ())), ((N, r, wob, F, los, u), ((16 + A, 16 + A + (n / 65536 + 1) + 20 + B, 16 + A, r, ()), ((gx, gy, 0, 0, ()), ()))))) :=
    keep_L0 m (16 + A) (by omega) n (n / 65536 + 1) (N, r, wob, F, los, u) (16 + A + (n / 65536 + 1) + 20 + B, 16 + A, r, ()) gx (gy, 0, 0, ()) n1c (by simp at n1l; omega) m 0 (by omega) (by simp at n1l; omega)
  rw [q1]
  simp only [bnd_some, sumK_r]
  rw [e2]
  simp only [bnd_some]
  rw [kwi64 (x := 16 + A + 40) (by omega) (by omega), kwi64 (x := 16 + A + 40 + (n / 65536 + 1)) (by omega) (by omega), kwi64 (x := 40 + (n / 65536 + 1)) (by omega) (by omega), kwi64 (x := 2 * (40 + (n / 65536 + 1))) (by omega) (by omega), kwi64 (x := 16 + A + (n / 65536 + 1) + 20 + B + 2 * (40 + (n / 65536 + 1))) (by omega) (by omega)]
  have k2 : kOk (16 + A + 40 + (n / 65536 + 1)) (16 + A + (n / 65536 + 1) + 20 + B + 2 * (40 + (n / 65536 + 1))) (16 + A + 40 + (n / 65536 + 1), r, 0, n, n) := by simp only [kOk]; omega
  have s2 := sim_eq m L2 n (16 + A + 40 + (n / 65536 + 1)) (16 + A + (n / 65536 + 1) + 20 + B + 2 * (40 + (n / 65536 + 1))) (16 + A + 40 + (n / 65536 + 1)) r (by omega) (by omega) (by omega) t2 k2
  rw [s2]
  have n2 := kRun_los hn.1 hn.2 (T := 16 + A + 40 + (n / 65536 + 1)) (room := 16 + A + (n / 65536 + 1) + 20 + B + 2 * (40 + (n / 65536 + 1))) (by omega) (by omega) L2 (2 * (n / 65536)) (16 + A + 40 + (n / 65536 + 1), r, 0, n, n) (0, 0, 0, 0, [], []) (by omega) b3 k2 (by simp only [kLos]; omega)
  generalize kRun (16 + A + 40 + (n / 65536 + 1)) (16 + A + (n / 65536 + 1) + 20 + B + 2 * (40 + (n / 65536 + 1))) L2 (16 + A + 40 + (n / 65536 + 1), r, 0, n, n) (0, 0, 0, 0, [], []) = G2 at n2 ⊢
  obtain ⟨n2a, n2b, n2c⟩ := n2
  obtain ⟨ha, hb, hc, hd, hx, hy⟩ := G2
  simp only at n2a n2b n2c
  subst n2a n2b
  simp only [bnd_some]
  unfold lawKeep_J2
  simp only [eF, decide_true, cond_true]
  rw [dT (show (hx.length : Int) = ((F % 600).toNat : Int) by simp at n2c; omega), hlv]
  rfl
end Go.Proofs.Ytmjocalgekfodaa

