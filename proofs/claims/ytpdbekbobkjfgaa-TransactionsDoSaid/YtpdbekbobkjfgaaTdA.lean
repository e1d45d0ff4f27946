/-
  The statement TransactionsDo: what Speak does, and its reference.
  Conditions: none.
-/
import Derived.Test.YtpdbekbobkjfgaaG4k
import Derived.Test.YtpdbekbobkjfgaaPkP
namespace Go.Proofs.Ytpdbekbobkjfgaa
set_option linter.unusedVariables false
set_option linter.unusedSimpArgs false
set_option maxRecDepth 100000
set_option maxHeartbeats 4000000

abbrev PkT := Int × Int × Int × Int × Int × Int × Bool × Bool × Int × List Int × Unit
abbrev SnT := Int × Int × Int × Int × Int × Int × Bool × Bool × Int × List Int × Bool × Int × Unit
def chkv (x : PkT) : Int := match rfCheck_D 1000 x with
  | some y => y.1
  | none => 0
def nopk : PkT := (0, 0, 0, 0, 0, 0, false, false, 0, [], ())
abbrev snt (p : PkT) (h : Bool) (f : Int) : SnT := (p.1, p.2.1, p.2.2.1, p.2.2.2.1, p.2.2.2.2.1, p.2.2.2.2.2.1, p.2.2.2.2.2.2.1, p.2.2.2.2.2.2.2.1, p.2.2.2.2.2.2.2.2.1, p.2.2.2.2.2.2.2.2.2.1, h, f, ())
abbrev pdat (p : PkT) : List Int := p.2.2.2.2.2.2.2.2.2.1
def pwf (p : PkT) : Prop := (0 ≤ p.1 ∧ p.1 ≤ 255) ∧ (0 ≤ p.2.1 ∧ p.2.1 ≤ 255) ∧ (0 ≤ p.2.2.1 ∧ p.2.2.1 ≤ 255) ∧ (0 ≤ p.2.2.2.1 ∧ p.2.2.2.1 ≤ 65535) ∧ (0 ≤ p.2.2.2.2.1 ∧ p.2.2.2.2.1 ≤ 255) ∧ (0 ≤ p.2.2.2.2.2.1 ∧ p.2.2.2.2.2.1 ≤ 255) ∧ (0 ≤ p.2.2.2.2.2.2.2.2.1 ∧ p.2.2.2.2.2.2.2.2.1 ≤ 255)
theorem tot_bif {A : Type} {b : Bool} {x y : Option (A × Unit)} (h1 : ∃ c, x = some (c, ())) (h2 : ∃ c, y = some (c, ())) : ∃ c, (bif b then x else y) = some (c, ()) := by
  cases b
  · exact h2
  · exact h1
theorem tot_bnd {A B : Type} {x : Option (A × Unit)} {f : A × Unit → Option (B × Unit)} (h1 : ∃ c, x = some (c, ())) (h2 : ∀ a, ∃ c, f (a, ()) = some (c, ())) : ∃ c, bnd x f = some (c, ()) := by
  obtain ⟨a, rfl⟩ := h1
  exact h2 a
theorem known_tot (m : Nat) (p : Int) : ∃ c, known_D m p = some (c, ()) := by
  unfold known_D
  repeat (first | exact ⟨_, rfl⟩ | apply tot_bif)
theorem token3_tot (m : Nat) (p : Int) : ∃ c, token3_D m p = some (c, ()) := by
  unfold token3_D
  repeat (first | exact ⟨_, rfl⟩ | apply tot_bif)
theorem hasData_tot (m : Nat) (p : Int) : ∃ c, hasData_D m p = some (c, ()) := by
  unfold hasData_D
  repeat (first | exact ⟨_, rfl⟩ | apply tot_bif)
theorem rfCheck_tot (m : Nat) (x : PkT) : ∃ c, rfCheck_D m x = some (c, ()) := by
  unfold rfCheck_D
  repeat (first | exact ⟨_, rfl⟩ | exact known_tot _ _ | exact token3_tot _ _ | exact hasData_tot _ _ | apply tot_bif | apply tot_bnd | intro _)
theorem rf_eq (m : Nat) (x : PkT) : rfCheck_D m x = some (chkv x, ()) := by
  obtain ⟨c, h⟩ := rfCheck_tot 1000 x
  have e : rfCheck_D m x = rfCheck_D 1000 x := rfl
  rw [e]
  unfold chkv
  rw [h]
theorem pk_eq (m : Nat) (x : PkT) (hx : pwf x) : pkCheck_D m x = some (chkv x, ()) := by
  rw [← rf_eq m x]
  obtain ⟨p, a, e, f, h, pt, c, l, k, d, ⟨⟩⟩ := x
  obtain ⟨h0, h1, h2, h3, h4, h5, h6⟩ := hx
  exact chk_same m p a e f h pt k c l d h1.1 h1.2 h2.1 h2.2 h3.1 h3.2 h4.1 h4.2 h5.1 h5.2 h6.1 h6.2
theorem chk_none0 (x : PkT) (h : x.1 = 0) : chkv x ≠ 0 := by
  obtain ⟨p, a, e, f, hh, pt, c, l, k, d, ⟨⟩⟩ := x
  simp only at h
  subst h
  have : rfCheck_D 1000 (0, a, e, f, hh, pt, c, l, k, d, ()) = some (1, ()) := rfl
  unfold chkv
  rw [this]
  decide
theorem df3_refl (m : Nat) (x : PkT) : df3_D m x x = some (0, ()) := by
  unfold df3_D
  simp
theorem dfP_L0_refl (m : Nat) (l : List PkT) (hl : l.length ≤ 1000000) : ∀ (n i : Nat), i ≤ l.length → l.length - i < n → dfP_L0 m n l l (i : Int) = some (.inr ((), ())) := by
  intro n
  induction n with
  | zero => intro i h1 h2; omega
  | succ n ih =>
    intro i h1 h2
    rw [dfP_L0]
    by_cases hlt : i < l.length
    · rw [dT (show (i : Int) < (l.length : Int) by omega), cond_true, inT (by omega) (by omega), cond_true, df3_refl, bnd_some, w_i64 _ (by omega) (by omega)]
      simp only [decide_true, Bool.not_true, cond_false, cond_true]
      rw [show ((i : Int) + 1) = ((i + 1 : Nat) : Int) by omega]
      exact ih (i + 1) (by omega) (by omega)
    · rw [dF (show ¬ (i : Int) < (l.length : Int) by omega), cond_false]
theorem dfP_refl (m : Nat) (l : List PkT) (hl : l.length < m) (hl2 : l.length ≤ 1000000) : dfP_D m l l = some (0, ()) := by
  unfold dfP_D
  have := dfP_L0_refl m l hl2 m 0 (by omega) (by omega)
  rw [show ((0 : Nat) : Int) = 0 from rfl] at this
  rw [this]
  simp [bnd_some, sumK_r]
theorem dfS_L0_refl (m : Nat) (l : List SnT) (hl : l.length ≤ 1000000) : ∀ (n i : Nat), i ≤ l.length → l.length - i < n → dfS_L0 m n l l (i : Int) = some (.inr ((), ())) := by
  intro n
  induction n with
  | zero => intro i h1 h2; omega
  | succ n ih =>
    intro i h1 h2
    rw [dfS_L0]
    by_cases hlt : i < l.length
    · rw [dT (show (i : Int) < (l.length : Int) by omega), cond_true, inT (by omega) (by omega), cond_true, df3_refl, bnd_some, w_i64 _ (by omega) (by omega)]
      simp only [decide_true, Bool.not_true, cond_false, cond_true]
      rw [show ((i : Int) + 1) = ((i + 1 : Nat) : Int) by omega]
      exact ih (i + 1) (by omega) (by omega)
    · rw [dF (show ¬ (i : Int) < (l.length : Int) by omega), cond_false]
theorem dfS_refl (m : Nat) (l : List SnT) (hl : l.length < m) (hl2 : l.length ≤ 1000000) : dfS_D m l l = some (0, ()) := by
  unfold dfS_D
  have := dfS_L0_refl m l hl2 m 0 (by omega) (by omega)
  rw [show ((0 : Nat) : Int) = 0 from rfl] at this
  rw [this]
  simp [bnd_some, sumK_r]

def nxf : List Int → Int
  | [] => 0
  | f :: _ => f
def nxr : List Int → List Int
  | [] => []
  | _ :: r => r
structure SpR where
  a : PkT
  ok : Bool
  sent : List SnT
  ans : List PkT
  heard : List PkT
  fs : List Int
def spk (ans : List PkT) (fs : List Int) (p : PkT) : SpR :=
  if chkv p ≠ 0 then ⟨nopk, false, [], ans, [], fs⟩
  else if nxf fs ≠ 0 then ⟨nopk, false, [snt p true (nxf fs)], ans, [], nxr fs⟩
  else match ans with
    | [] => ⟨nopk, false, [snt p true 0], [], [p], nxr fs⟩
    | a :: r => if chkv a ≠ 0 then ⟨nopk, false, [snt p true 0], r, [p], nxr fs⟩
      else if nxf (nxr fs) ≠ 0 then ⟨nopk, false, [snt p true 0, snt a false (nxf (nxr fs))], r, [p], nxr (nxr fs)⟩
      else ⟨a, true, [snt p true 0, snt a false 0], r, [p], nxr (nxr fs)⟩
theorem z1 (n : Nat) : decide ((0 : Int) < ((n + 1 : Nat) : Int)) = true := dT (by omega)
theorem z2 (n : Nat) : decide (((n + 1 : Nat) : Int) = (0 : Int)) = false := dF (by omega)
theorem z3 (n : Nat) : inB (0 : Int) (n + 1) = true := inT (by omega) (by omega)
theorem za (n : Nat) : decide (1 ≤ n + 1) = true := dT (by simp)
theorem z5 : decide ((0 : Int) ≤ 1) = true := rfl
theorem z6 : decide (((0 : Nat) : Int) = (0 : Int)) = true := rfl
theorem z7 : decide ((0 : Int) < ((0 : Nat) : Int)) = false := rfl
theorem z8 : Int.toNat (1 : Int) = 1 := rfl
theorem z9 : Int.toNat (0 : Int) = 0 := rfl
theorem gcons {α : Type} (x : α) (l : List α) (d : α) : (x :: l).getD 0 d = x := rfl
theorem cloneB_eq (m : Nat) (xs : List Int) (h : xs.length ≤ 1100) : cloneB_D m xs = some ((), xs, ()) := by
  unfold cloneB_D
  rw [dT (by omega), cond_true]
theorem y1 (n : Nat) : decide ((0 : Int) ≤ (n : Int)) = true := dT (by omega)
theorem y2 {α : Type} (l : List α) : List.take (Int.toNat (l.length : Int)) l = l := by rw [toNatC, List.take_length]
theorem y4 (n : Nat) : decide ((n : Int) ≤ (n : Int)) = true := dT (by omega)
theorem y5 (n : Nat) : Int.toNat (n : Int) = n := toNatC n
theorem y6 (n : Nat) : decide (n ≤ n) = true := dT (by omega)
theorem faults_L0_eq (m : Nat) (ws : List Int) (hl : ws.length ≤ 200) : ∀ (n i : Nat) (l : List Int), i ≤ ws.length → l.length = i → ws.length - i < n → ∃ l', faults_L0 m n ws (i : Int) l = some ((), (l', ())) ∧ l'.length = ws.length := by
  intro n
  induction n with
  | zero => intro i l h1 h2 h3; omega
  | succ n ih =>
    intro i l h1 h2 h3
    rw [faults_L0]
    by_cases hlt : i < ws.length
    · rw [dT (show (i : Int) < (ws.length : Int) by omega), cond_true, inT (by omega) (by omega), cond_true, growT (by simp; omega) (by simp; omega), cond_true, w_i64 _ (by omega) (by omega)]
      rw [show ((i : Int) + 1) = ((i + 1 : Nat) : Int) by omega]
      exact ih (i + 1) _ (by omega) (by simp [h2]) (by omega)
    · rw [dF (show ¬ (i : Int) < (ws.length : Int) by omega), cond_false]
      exact ⟨l, rfl, by omega⟩
theorem faults_eq (m : Nat) (ws : List Int) (hl : ws.length ≤ 200) (hm : 300 ≤ m) : ∃ l, faults_D m ws = some (l, ()) ∧ l.length = ws.length := by
  obtain ⟨l, h1, h2⟩ := faults_L0_eq m ws hl m 0 [] (by omega) rfl (by omega)
  rw [show ((0 : Nat) : Int) = 0 from rfl] at h1
  exact ⟨l, by unfold faults_D; rw [h1]; rfl, h2⟩
theorem wire_eq (m : Nat) (ws l : List Int) (h : faults_D m ws = some (l, ())) (hl : l.length ≤ 200) : wire_D m ws = some ((), (l, ()), ()) := by
  unfold wire_D
  rw [h, bnd_some]
  unfold cloneF_D
  rw [dT (show (l, ()).1.length ≤ 1000000 by simp only; omega), cond_true, bnd_some]
theorem small_L0_eq (m : Nat) (ans : List PkT) (ws : List Int) (hl : ans.length ≤ 20) : ∀ (n i : Nat), i ≤ ans.length → ans.length - i < n →
    small_L0 m n (i : Int) ans ws = some (.inl ((false, ()), ())) ∨ (small_L0 m n (i : Int) ans ws = some (.inr ((), ())) ∧ ∀ a ∈ ans.drop i, (pdat a).length ≤ 1100) := by
  intro n
  induction n with
  | zero => intro i h1 h2; omega
  | succ n ih =>
    intro i h1 h2
    rw [small_L0]
    by_cases hlt : i < ans.length
    · rw [dT (show (i : Int) < (ans.length : Int) by omega), cond_true, inT (by omega) (by omega), cond_true, toNatC, getD_lt hlt]
      by_cases hd : 1100 < (pdat ans[i]).length
      · unfold pdat at hd
        rw [dT (show (1100 : Int) < ((ans[i].2.2.2.2.2.2.2.2.2.1).length : Int) by omega), cond_true]
        exact .inl rfl
      · have hd' := hd
        unfold pdat at hd'
        rw [dF (show ¬ (1100 : Int) < ((ans[i].2.2.2.2.2.2.2.2.2.1).length : Int) by omega), cond_false, w_i64 _ (by omega) (by omega)]
        rw [show ((i : Int) + 1) = ((i + 1 : Nat) : Int) by omega]
        rcases ih (i + 1) (by omega) (by omega) with h | ⟨h, h'⟩
        · exact .inl h
        · refine .inr ⟨h, ?_⟩
          rw [drop_get hlt]
          intro a ha
          rcases List.mem_cons.1 ha with rfl | ha
          · omega
          · exact h' a ha
    · rw [dF (show ¬ (i : Int) < (ans.length : Int) by omega), cond_false]
      refine .inr ⟨rfl, ?_⟩
      rw [List.drop_eq_nil_of_le (by omega)]
      intro a ha; cases ha
theorem small_eq (m : Nat) (hm : 300 ≤ m) (ans : List PkT) (ws : List Int) : small_D m (ans, ws, ()) = some (false, ()) ∨ (small_D m (ans, ws, ()) = some (true, ()) ∧ (∀ a ∈ ans, (pdat a).length ≤ 1100) ∧ ans.length ≤ 20 ∧ ws.length ≤ 60) := by
  unfold small_D
  by_cases h1 : 20 < ans.length
  · rw [dT (show (20 : Int) < ((ans, ws, ()).1.length : Int) by simp only; omega), cond_true]; exact .inl rfl
  · rw [dF (show ¬ (20 : Int) < ((ans, ws, ()).1.length : Int) by simp only; omega), cond_false]
    by_cases h2 : 60 < ws.length
    · rw [dT (show (60 : Int) < ((ans, ws, ()).2.1.length : Int) by simp only; omega), cond_true]; exact .inl rfl
    · rw [dF (show ¬ (60 : Int) < ((ans, ws, ()).2.1.length : Int) by simp only; omega), cond_false]
      have h0 := small_L0_eq m ans ws (by omega) m 0 (by omega) (by omega)
      rw [show ((0 : Nat) : Int) = 0 from rfl, List.drop_zero] at h0
      rcases h0 with h0 | ⟨h0, h3⟩
      · refine .inl ?_
        rw [h0, bnd_some, sumK_l]
      · refine .inr ⟨?_, h3, by omega, by omega⟩
        rw [h0, bnd_some, sumK_r]
theorem spk_sent (ans : List PkT) (fs : List Int) (p : PkT) : (spk ans fs p).sent.length ≤ 2 := by
  unfold spk
  split
  · simp
  · split
    · simp
    · split
      · simp
      · split
        · simp
        · split <;> simp
theorem spk_heard (ans : List PkT) (fs : List Int) (p : PkT) : (spk ans fs p).heard.length ≤ 1 := by
  unfold spk
  split
  · simp
  · split
    · simp
    · split
      · simp
      · split
        · simp
        · split <;> simp

theorem grS (n k : Nat) (h : n ≤ 2000) (hk : k ≤ 48) : growOb k n = true := growT (by have := Nat.mul_le_mul h hk; omega) (by omega)
theorem copiedO_eq (m : Nat) (p : PkT) (h : (pdat p).length ≤ 1100) : copiedO_D m p = some ((p.1, p.2.1, p.2.2.1, p.2.2.2.1, p.2.2.2.2.1, p.2.2.2.2.2.1, p.2.2.2.2.2.2.1, p.2.2.2.2.2.2.2.1, p.2.2.2.2.2.2.2.2.1, ()), pdat p, ()) := by
  unfold copiedO_D
  have hc := cloneB_eq m (pdat p) h
  unfold pdat at hc
  rw [hc, bnd_some]
  simp only [y1, y4, y5, y6, List.take_length, Bool.and_self, cond_true]
  try rfl
theorem sendC_eq (m : Nat) (p : PkT) (hst : Bool) (fs : List Int) (S : List SnT) (h : (pdat p).length ≤ 1100) (hS : S.length ≤ 500) :
    sendC_D m p hst fs S = some (decide (nxf fs = 0), (nxr fs, ()), S ++ [snt p hst (nxf fs)], ()) := by
  have hc := cloneB_eq m (pdat p) h
  unfold pdat at hc
  unfold sendC_D sendC_J0
  have hg : growOb 48 (S.length + 1) = true := grS _ _ (by omega) (by omega)
  cases fs with
  | nil => simp only [hc, List.length_nil, z6, cond_true, bnd_some, y1, y4, y5, y6, List.take_length, Bool.and_self, List.length_cons, hg, nxf, nxr, snt, Nat.zero_add]
  | cons f fs => simp only [hc, List.length_cons, List.length_nil, z2, z3, z5, z8, z9, za, gcons, cond_true, cond_false, bnd_some, y1, y4, y5, y6, List.take_length, Bool.and_self, hg, nxf, nxr, snt, List.drop_succ_cons, List.drop_zero, Nat.zero_add]; rfl
abbrev P9 := Int × Int × Int × Int × Int × Int × Bool × Bool × Int × Unit
abbrev p9 (p : PkT) : P9 := (p.1, p.2.1, p.2.2.1, p.2.2.2.1, p.2.2.2.2.1, p.2.2.2.2.2.1, p.2.2.2.2.2.2.1, p.2.2.2.2.2.2.2.1, p.2.2.2.2.2.2.2.2.1, ())
theorem speakO_eq (m : Nat) (ans heard : List PkT) (fs : List Int) (p : PkT) (hp : (pdat p).length ≤ 1100) (wp : pwf p) (ha : ∀ a ∈ ans, (pdat a).length ≤ 1100 ∧ pwf a) (hh : heard.length ≤ 100) :
    speakO_D m p ans heard fs = some (if (spk ans fs p).ok = true then Sum.inl ((p9 (spk ans fs p).a, (spk ans fs p).sent, ()), ((spk ans fs p).ans, ()), heard ++ (spk ans fs p).heard, ((spk ans fs p).fs, ()), pdat (spk ans fs p).a, ())
      else Sum.inr ((nopk, (spk ans fs p).sent, ()), ((spk ans fs p).ans, ()), heard ++ (spk ans fs p).heard, ((spk ans fs p).fs, ()), ())) := by
  unfold speakO_D
  rw [pk_eq m p wp, bnd_some]
  by_cases hc : chkv p = 0
  · simp only [hc, decide_true, Bool.not_true, cond_false]
    unfold speakO_J0
    rw [sendC_eq m p true fs [] hp (by simp), bnd_some]
    by_cases hf : nxf fs = 0
    · simp only [hf, decide_true, cond_true, Bool.not_false, List.nil_append]
      unfold speakO_J1
      have hcl := cloneB_eq m (pdat p) hp
      have hg : growOb 1 (pdat p).length = true := grS _ _ (by unfold pdat at hp ⊢; omega) (by omega)
      have hg2 : growOb 40 (heard.length + 1) = true := grS _ _ (by omega) (by omega)
      unfold pdat at hcl hg
      simp only [hcl, bnd_some, y1, y4, y5, y6, List.take_length, Bool.and_self, cond_true, Nat.zero_add, hg, hg2, List.length_cons, List.length_nil, show decide (19 < 47) = true from rfl, List.nil_append]
      cases ans with
      | nil =>
        simp only [List.length_nil, z6, cond_true]
        unfold speakO_J2
        simp only [cond_false, y1, y4, y5, y6, List.take_length, Bool.and_self, cond_true, spk, ne_eq, not_true_eq_false, not_false_eq_true, if_true, if_false, Bool.false_eq_true, nopk, hc, hf]
      | cons a r =>
        obtain ⟨had, haw⟩ := ha a (by simp)
        simp only [List.length_cons, z2, z3, z5, z8, z9, za, gcons, cond_true, cond_false, Bool.and_self, List.drop_succ_cons, List.drop_zero]
        unfold speakO_J2
        by_cases h0 : a.1 = 0
        · have ca := chk_none0 a h0
          simp only [h0, decide_true, Bool.not_true, cond_false, y1, y4, y5, y6, List.take_length, Bool.and_self, cond_true, spk, ne_eq, not_true_eq_false, not_false_eq_true, if_true, if_false, Bool.false_eq_true, nopk, hc, hf, ca]
        · simp only [h0, decide_false, Bool.not_false, cond_true]
          rw [pk_eq m a haw, bnd_some]
          by_cases ca : chkv a = 0
          · simp only [ca, decide_true, cond_true]
            rw [sendC_eq m a false (nxr fs) _ had (by simp), bnd_some]
            by_cases hg3 : nxf (nxr fs) = 0
            · simp only [hg3, decide_true, cond_true, copiedO_eq m a had, bnd_some, y1, y4, y5, y6, List.take_length, Bool.and_self, List.cons_append, List.nil_append, spk, ne_eq, not_true_eq_false, not_false_eq_true, if_true, if_false, Bool.false_eq_true, nopk, hc, hf, ca]
              try rfl
            · simp only [hg3, decide_false, cond_false, y1, y4, y5, y6, List.take_length, Bool.and_self, cond_true, List.cons_append, List.nil_append, spk, ne_eq, not_true_eq_false, not_false_eq_true, if_true, if_false, Bool.false_eq_true, nopk, hc, hf, ca]
          · simp only [ca, decide_false, cond_false, y1, y4, y5, y6, List.take_length, Bool.and_self, cond_true, spk, ne_eq, not_true_eq_false, not_false_eq_true, if_true, if_false, Bool.false_eq_true, nopk, hc, hf]
    · simp only [hf, decide_false, cond_false, y1, y4, y5, y6, List.take_length, Bool.and_self, cond_true, List.nil_append, List.append_nil, spk, ne_eq, not_true_eq_false, not_false_eq_true, if_true, if_false, Bool.false_eq_true, nopk, hc]
  · simp only [hc, decide_false, Bool.not_false, cond_true, List.append_nil, spk, ne_eq, not_true_eq_false, not_false_eq_true, if_true, if_false, Bool.false_eq_true, nopk]
theorem speakM_eq (m : Nat) (fs : List Int) (p : PkT) (hp : (pdat p).length ≤ 1100) (wp : pwf p) (hc : chkv p = 0) :
    speakM_D m p fs = some ((nopk, [snt p true (nxf fs)], ()), (nxr fs, ()), ()) := by
  unfold speakM_D
  rw [pk_eq m p wp, bnd_some]
  simp only [hc, decide_true, Bool.not_true, cond_false]
  unfold speakM_J0
  rw [sendC_eq m p true fs [] hp (by simp), bnd_some]
  cases decide (nxf fs = 0) <;> simp only [cond_true, cond_false, y1, y4, y5, y6, List.take_length, Bool.and_self, List.nil_append, nopk]
theorem bif_same {α : Type} (b : Bool) (x : α) : (bif b then x else x) = x := by cases b <;> rfl
theorem rspeakB_eq (m : Nat) (ans heard : List PkT) (fs : List Int) (p : PkT) (S : List SnT) (hS : S.length ≤ 100) (hh : heard.length ≤ 100) :
    rspeakB_D m ans fs p heard S = some ((((spk ans fs p).ans, (spk ans fs p).fs, ()), (spk ans fs p).a, (spk ans fs p).ok, ()), heard ++ (spk ans fs p).heard, S ++ (spk ans fs p).sent, ()) := by
  unfold rspeakB_D
  rw [rf_eq, bnd_some]
  have hg : growOb 48 (S.length + 1) = true := grS _ _ (by omega) (by omega)
  have hg2 : growOb 40 (heard.length + 1) = true := grS _ _ (by omega) (by omega)
  have hg3 : ∀ x : SnT, growOb 48 ((S ++ [x]).length + 1) = true := fun x => grS _ _ (by simp; omega) (by omega)
  have j0 : ∀ (R : Type) (k : Bool → List SnT → List Int → Option R) x34 x35 x36 x37 x38 x39 x40 x41 x42, rspeakB_J0 m heard S ans fs p x34 x35 x36 x37 x38 x39 x40 x41 x42 k = k (decide (nxf fs = 0)) (S ++ [snt p true (nxf fs)]) (nxr fs) := by
    intro R k x34 x35 x36 x37 x38 x39 x40 x41 x42
    unfold rspeakB_J0
    cases fs with
    | nil => simp only [List.length_nil, z7, cond_false, List.length_cons, Nat.zero_add, hg, cond_true, nxf, nxr, snt]
    | cons f fs => simp only [List.length_cons, List.length_nil, z1, z3, z5, z8, z9, za, gcons, cond_true, Bool.and_self, Nat.zero_add, hg, nxf, nxr, snt, List.drop_succ_cons, List.drop_zero]; rfl
  have j1 : ∀ (R : Type) (k : Bool → List SnT → List Int → Option R) (H r : List PkT) (a : PkT) (x : SnT) (gs : List Int) x34 x35 x36 x37 x38 x39 x40 x41 x42, rspeakB_J1 m H (S ++ [x]) r gs x34 x35 x36 x37 x38 x39 x40 x41 x42 a k = k (decide (nxf gs = 0)) (S ++ [x] ++ [snt a false (nxf gs)]) (nxr gs) := by
    intro R k H r a x gs x34 x35 x36 x37 x38 x39 x40 x41 x42
    unfold rspeakB_J1
    have hx := hg3 x
    cases gs with
    | nil => simp only [List.length_nil, z7, cond_false, List.length_cons, Nat.zero_add, hx, cond_true, nxf, nxr, snt]
    | cons f fs => simp only [List.length_cons, List.length_nil, z1, z3, z5, z8, z9, za, gcons, cond_true, Bool.and_self, Nat.zero_add, hx, nxf, nxr, snt, List.drop_succ_cons, List.drop_zero]; rfl
  by_cases hc : chkv p = 0
  · simp only [hc, decide_true, Bool.not_true, cond_false, j0]
    by_cases hf : nxf fs = 0
    · simp only [hf, decide_true, Bool.not_true, cond_false, List.length_cons, List.length_nil, Nat.zero_add, hg2, cond_true]
      cases ans with
      | nil => simp only [List.length_nil, z6, cond_true, spk, ne_eq, not_true_eq_false, not_false_eq_true, if_true, if_false, Bool.false_eq_true, nopk, hc, hf]
      | cons a r =>
        simp only [List.length_cons, z2, z3, z5, z8, z9, za, gcons, cond_true, cond_false, Bool.and_self, List.drop_succ_cons, List.drop_zero, rf_eq, bnd_some]
        by_cases ca : chkv a = 0
        · simp only [ca, decide_true, Bool.not_true, cond_false, j1]
          by_cases hg4 : nxf (nxr fs) = 0
          · simp only [hg4, decide_true, Bool.not_true, cond_false, List.append_assoc, List.cons_append, List.nil_append, spk, ne_eq, not_true_eq_false, not_false_eq_true, if_true, if_false, Bool.false_eq_true, nopk, hc, hf, ca]
          · simp only [hg4, decide_false, Bool.not_false, cond_true, List.append_assoc, List.cons_append, List.nil_append, spk, ne_eq, not_true_eq_false, not_false_eq_true, if_true, if_false, Bool.false_eq_true, nopk, hc, hf, ca]
        · simp only [ca, decide_false, Bool.not_false, cond_true, spk, ne_eq, not_true_eq_false, not_false_eq_true, if_true, if_false, Bool.false_eq_true, nopk, hc, hf]
    · simp only [hf, decide_false, Bool.not_false, cond_true, List.append_nil, spk, ne_eq, not_true_eq_false, not_false_eq_true, if_true, if_false, Bool.false_eq_true, nopk, hc]
  · simp only [hc, decide_false, Bool.not_false, cond_true, List.append_nil, spk, ne_eq, not_true_eq_false, not_false_eq_true, if_true, if_false, Bool.false_eq_true, nopk]
def arrV (l : List SnT) : Bool := match l with
  | [] => true
  | s :: _ => decide (s.2.2.2.2.2.2.2.2.2.2.2.1 = 0)
theorem spkO_eq (m : Nat) (ans heard : List PkT) (fs : List Int) (p : PkT) (S : List SnT) (hp : (pdat p).length ≤ 1100) (wp : pwf p) (ha : ∀ a ∈ ans, (pdat a).length ≤ 1100 ∧ pwf a) (hh : heard.length ≤ 100) (hS : S.length ≤ 100) (har : (spk ans fs p).ok = true → arrV (spk ans fs p).sent = true) (hl : (spk ans fs p).sent.length ≤ 2) :
    spkO_D m p ans heard fs S = some (if (spk ans fs p).ok = true then Sum.inl ((p9 (spk ans fs p).a, ()), ((spk ans fs p).ans, ()), heard ++ (spk ans fs p).heard, ((spk ans fs p).fs, ()), S ++ (spk ans fs p).sent, pdat (spk ans fs p).a, ())
      else if arrV (spk ans fs p).sent = true then Sum.inr (Sum.inr (Sum.inl ((nopk, ()), ((spk ans fs p).ans, ()), heard ++ (spk ans fs p).heard, ((spk ans fs p).fs, ()), S ++ (spk ans fs p).sent, ())))
      else Sum.inr (Sum.inr (Sum.inr ((nopk, ()), ((spk ans fs p).ans, ()), heard ++ (spk ans fs p).heard, ((spk ans fs p).fs, ()), S ++ (spk ans fs p).sent, ())))) := by
  unfold spkO_D spkO_J0
  rw [speakO_eq m ans heard fs p hp wp ha hh, bnd_some]
  generalize spk ans fs p = R at *
  obtain ⟨a, ok, sent, ans1, heard1, fs1⟩ := R
  simp only at *
  have hg : growOb 48 (S.length + sent.length) = true := grS _ _ (by omega) (by omega)
  cases ok with
  | true =>
    have h1 := har rfl
    simp only [if_true, sumK_l, hg, cond_true]
    unfold spkO_J1
    cases sent with
    | nil => simp only [List.length_nil, z7, cond_false]; try rfl
    | cons s l =>
      simp only [arrV, decide_eq_true_eq] at h1
      simp only [List.length_cons, z1, z3, z9, gcons, cond_true, cond_false, h1, decide_true, Bool.not_true]
      try rfl
  | false =>
    simp only [Bool.false_eq_true, if_false, sumK_r, hg, cond_true]
    unfold spkO_J2
    cases sent with
    | nil => simp only [List.length_nil, z7, cond_false, arrV, if_true]
    | cons s l =>
      by_cases hs : s.2.2.2.2.2.2.2.2.2.2.2.1 = 0
      · simp only [List.length_cons, z1, z3, z9, gcons, cond_true, cond_false, hs, decide_true, Bool.not_true, arrV, if_true]
      · simp only [List.length_cons, z1, z3, z9, gcons, cond_true, cond_false, hs, decide_false, Bool.not_false, arrV, Bool.false_eq_true, if_false]
theorem spkN_eq (m : Nat) (fs : List Int) (p : PkT) (S : List SnT) (hp : (pdat p).length ≤ 1100) (wp : pwf p) (hc : chkv p = 0) (hS : S.length ≤ 100) :
    spkN_D m p fs S = some ((nopk, ()), (nxr fs, ()), S ++ [snt p true (nxf fs)], ()) := by
  unfold spkN_D
  have hg : growOb 48 (S.length + 1) = true := grS _ _ (by omega) (by omega)
  rw [speakM_eq m fs p hp wp hc, bnd_some]
  simp only [List.length_cons, List.length_nil, Nat.zero_add, hg, cond_true]
  unfold spkN_J0
  simp only [List.length_cons, List.length_nil, Nat.zero_add, show decide ((0 : Int) < ((1 : Nat) : Int)) = true from rfl, show inB (0 : Int) 1 = true from rfl, cond_true, z9, gcons]
  exact bif_same _ _
end Go.Proofs.Ytpdbekbobkjfgaa

