/-
  The statement TransactionsSpeak: the law's plain function is true.
  Conditions: none.
-/
import Derived.Test.YtpdbekbobkjfgaaG4v
import Derived.Test.YtpdbekbobkjfgaaPkP
namespace Go.Proofs.Ytpdbekbobkjfgaa
set_option linter.unusedVariables false
set_option linter.unusedSimpArgs false
set_option maxRecDepth 100000
set_option maxHeartbeats 4000000

abbrev PkT := Int × Int × Int × Int × Int × Int × Bool × Bool × Int × List Int × Unit
abbrev SnT := Int × Int × Int × Int × Int × Int × Bool × Bool × Int × List Int × Bool × Int × Unit
def chkv (x : PkT) : Int := match rfCheck_D 1000 x with
  | some y => y.1
  | none => 0
def nopk : PkT := (0, 0, 0, 0, 0, 0, false, false, 0, [], ())
def snt (p : PkT) (h : Bool) (f : Int) : SnT := (p.1, p.2.1, p.2.2.1, p.2.2.2.1, p.2.2.2.2.1, p.2.2.2.2.2.1, p.2.2.2.2.2.2.1, p.2.2.2.2.2.2.2.1, p.2.2.2.2.2.2.2.2.1, p.2.2.2.2.2.2.2.2.2.1, h, f, ())
def pdat (p : PkT) : List Int := p.2.2.2.2.2.2.2.2.2.1
/-- The fields of a packet are numbers of their kinds. -/
def pwf (p : PkT) : Prop := (0 ≤ p.1 ∧ p.1 ≤ 255) ∧ (0 ≤ p.2.1 ∧ p.2.1 ≤ 255) ∧ (0 ≤ p.2.2.1 ∧ p.2.2.1 ≤ 255) ∧ (0 ≤ p.2.2.2.1 ∧ p.2.2.2.1 ≤ 65535) ∧ (0 ≤ p.2.2.2.2.1 ∧ p.2.2.2.2.1 ≤ 255) ∧ (0 ≤ p.2.2.2.2.2.1 ∧ p.2.2.2.2.2.1 ≤ 255) ∧ (0 ≤ p.2.2.2.2.2.2.2.2.1 ∧ p.2.2.2.2.2.2.2.2.1 ≤ 255)
theorem tot_some {c : Int} : ∃ c', (some (c, ()) : Option (Int × Unit)) = some (c', ()) := ⟨c, rfl⟩
theorem tot_bif {A : Type} {b : Bool} {x y : Option (A × Unit)} (h1 : ∃ c, x = some (c, ())) (h2 : ∃ c, y = some (c, ())) : ∃ c, (bif b then x else y) = some (c, ()) := by
  cases b
  · exact h2
  · exact h1
theorem tot_bnd {A B : Type} {x : Option (A × Unit)} {f : A × Unit → Option (B × Unit)} (h1 : ∃ c, x = some (c, ())) (h2 : ∀ a, ∃ c, f (a, ()) = some (c, ())) : ∃ c, bnd x f = some (c, ()) := by
  obtain ⟨a, rfl⟩ := h1
  exact h2 a
theorem known_tot (m : Nat) (p : Int) : ∃ c, known_D m p = some (c, ()) := by
  unfold known_D
  repeat (first | exact ⟨_, rfl⟩ | apply tot_bif)
theorem token3_tot (m : Nat) (p : Int) : ∃ c, token3_D m p = some (c, ()) := by
  unfold token3_D
  repeat (first | exact ⟨_, rfl⟩ | apply tot_bif)
theorem hasData_tot (m : Nat) (p : Int) : ∃ c, hasData_D m p = some (c, ()) := by
  unfold hasData_D
  repeat (first | exact ⟨_, rfl⟩ | apply tot_bif)
theorem rfCheck_tot (m : Nat) (x : PkT) : ∃ c, rfCheck_D m x = some (c, ()) := by
  unfold rfCheck_D
  repeat (first | exact ⟨_, rfl⟩ | exact known_tot _ _ | exact token3_tot _ _ | exact hasData_tot _ _ | apply tot_bif | apply tot_bnd | intro _)
theorem rf_eq (m : Nat) (x : PkT) : rfCheck_D m x = some (chkv x, ()) := by
  obtain ⟨c, h⟩ := rfCheck_tot 1000 x
  have e : rfCheck_D m x = rfCheck_D 1000 x := rfl
  rw [e]
  unfold chkv
  rw [h]
theorem pk_eq (m : Nat) (x : PkT) (hx : pwf x) : pkCheck_D m x = some (chkv x, ()) := by
  rw [← rf_eq m x]
  obtain ⟨p, a, e, f, h, pt, c, l, k, d, ⟨⟩⟩ := x
  obtain ⟨h0, h1, h2, h3, h4, h5, h6⟩ := hx
  exact chk_same m p a e f h pt k c l d h1.1 h1.2 h2.1 h2.2 h3.1 h3.2 h4.1 h4.2 h5.1 h5.2 h6.1 h6.2
theorem chk_none0 (x : PkT) (h : x.1 = 0) : chkv x ≠ 0 := by
  obtain ⟨p, a, e, f, hh, pt, c, l, k, d, ⟨⟩⟩ := x
  simp only at h
  subst h
  have : rfCheck_D 1000 (0, a, e, f, hh, pt, c, l, k, d, ()) = some (1, ()) := rfl
  unfold chkv
  rw [this]
  decide
theorem df3_refl (m : Nat) (x : PkT) : df3_D m x x = some (0, ()) := by
  unfold df3_D
  simp
theorem dfP_L0_refl (m : Nat) (l : List PkT) (hl : l.length ≤ 1000000) : ∀ (n i : Nat), i ≤ l.length → l.length - i < n → dfP_L0 m n l l (i : Int) = some (.inr ((), ())) := by
  intro n
  induction n with
  | zero => intro i h1 h2; omega
  | succ n ih =>
    intro i h1 h2
    rw [dfP_L0]
    by_cases hlt : i < l.length
    · rw [dT (show (i : Int) < (l.length : Int) by omega), cond_true, inT (by omega) (by omega), cond_true, df3_refl, bnd_some, w_i64 _ (by omega) (by omega)]
      simp only [decide_true, Bool.not_true, cond_false, cond_true]
      rw [show ((i : Int) + 1) = ((i + 1 : Nat) : Int) by omega]
      exact ih (i + 1) (by omega) (by omega)
    · rw [dF (show ¬ (i : Int) < (l.length : Int) by omega), cond_false]
theorem dfP_refl (m : Nat) (l : List PkT) (hl : l.length < m) (hl2 : l.length ≤ 1000000) : dfP_D m l l = some (0, ()) := by
  unfold dfP_D
  have := dfP_L0_refl m l hl2 m 0 (by omega) (by omega)
  rw [show ((0 : Nat) : Int) = 0 from rfl] at this
  rw [this]
  simp [bnd_some, sumK_r]
theorem dfS_L0_refl (m : Nat) (l : List SnT) (hl : l.length ≤ 1000000) : ∀ (n i : Nat), i ≤ l.length → l.length - i < n → dfS_L0 m n l l (i : Int) = some (.inr ((), ())) := by
  intro n
  induction n with
  | zero => intro i h1 h2; omega
  | succ n ih =>
    intro i h1 h2
    rw [dfS_L0]
    by_cases hlt : i < l.length
    · rw [dT (show (i : Int) < (l.length : Int) by omega), cond_true, inT (by omega) (by omega), cond_true, df3_refl, bnd_some, w_i64 _ (by omega) (by omega)]
      simp only [decide_true, Bool.not_true, cond_false, cond_true]
      rw [show ((i : Int) + 1) = ((i + 1 : Nat) : Int) by omega]
      exact ih (i + 1) (by omega) (by omega)
    · rw [dF (show ¬ (i : Int) < (l.length : Int) by omega), cond_false]
theorem dfS_refl (m : Nat) (l : List SnT) (hl : l.length < m) (hl2 : l.length ≤ 1000000) : dfS_D m l l = some (0, ()) := by
  unfold dfS_D
  have := dfS_L0_refl m l hl2 m 0 (by omega) (by omega)
  rw [show ((0 : Nat) : Int) = 0 from rfl] at this
  rw [this]
  simp [bnd_some, sumK_r]

/-! ### What Speak does -/
def nxf : List Int → Int
  | [] => 0
  | f :: _ => f
def nxr : List Int → List Int
  | [] => []
  | _ :: r => r
structure SpR where
  a : PkT
  ok : Bool
  sent : List SnT
  ans : List PkT
  heard : List PkT
  fs : List Int
def spk (ans : List PkT) (fs : List Int) (p : PkT) : SpR :=
  if chkv p ≠ 0 then ⟨nopk, false, [], ans, [], fs⟩
  else if nxf fs ≠ 0 then ⟨nopk, false, [snt p true (nxf fs)], ans, [], nxr fs⟩
  else match ans with
    | [] => ⟨nopk, false, [snt p true 0], [], [p], nxr fs⟩
    | a :: r => if chkv a ≠ 0 then ⟨nopk, false, [snt p true 0], r, [p], nxr fs⟩
      else if nxf (nxr fs) ≠ 0 then ⟨nopk, false, [snt p true 0, snt a false (nxf (nxr fs))], r, [p], nxr (nxr fs)⟩
      else ⟨a, true, [snt p true 0, snt a false 0], r, [p], nxr (nxr fs)⟩
theorem z1 (n : Nat) : decide ((0 : Int) < ((n + 1 : Nat) : Int)) = true := dT (by omega)
theorem z2 (n : Nat) : decide (((n + 1 : Nat) : Int) = (0 : Int)) = false := dF (by omega)
theorem z3 (n : Nat) : inB (0 : Int) (n + 1) = true := inT (by omega) (by omega)
theorem z4 (n : Nat) : decide (Int.toNat (1 : Int) ≤ n + 1) = true := dT (by simp)
theorem za (n : Nat) : decide (1 ≤ n + 1) = true := dT (by simp)
theorem z5 : decide ((0 : Int) ≤ 1) = true := rfl
theorem z6 : decide (((0 : Nat) : Int) = (0 : Int)) = true := rfl
theorem z7 : decide ((0 : Int) < ((0 : Nat) : Int)) = false := rfl
theorem z8 : Int.toNat (1 : Int) = 1 := rfl
theorem z9 : Int.toNat (0 : Int) = 0 := rfl
theorem gcons {α : Type} (x : α) (l : List α) (d : α) : (x :: l).getD 0 d = x := rfl
theorem rspeak_eq (m : Nat) (ans : List PkT) (fs : List Int) (p : PkT) :
    rspeak_D m ans fs p = some ((((spk ans fs p).ans, (spk ans fs p).fs, (spk ans fs p).heard, (spk ans fs p).sent, ()), (spk ans fs p).a, (spk ans fs p).ok, ()), ()) := by
  unfold rspeak_D
  rw [rf_eq, bnd_some]
  by_cases hc : chkv p = 0
  · rcases fs with _ | ⟨f, fs⟩
    · rcases ans with _ | ⟨a, r⟩
      · simp only [rf_eq, bnd_some, List.length_nil, List.length_cons, List.drop_succ_cons, List.drop_zero, List.drop_nil, z1, z2, z3, z4, z5, z6, z7, z8, z9, za, gcons, decide_true, decide_false, Bool.not_false, Bool.not_true, Bool.true_and, cond_true, cond_false, spk, nxf, nxr, snt, nopk, Bool.and_self, ne_eq, not_true_eq_false, not_false_eq_true, if_false, if_true, List.nil_append, List.cons_append, hc]
      · by_cases ca : chkv a = 0 <;> simp only [rf_eq, bnd_some, List.length_nil, List.length_cons, List.drop_succ_cons, List.drop_zero, List.drop_nil, z1, z2, z3, z4, z5, z6, z7, z8, z9, za, gcons, decide_true, decide_false, Bool.not_false, Bool.not_true, Bool.true_and, cond_true, cond_false, spk, nxf, nxr, snt, nopk, Bool.and_self, ne_eq, not_true_eq_false, not_false_eq_true, if_false, if_true, List.nil_append, List.cons_append, hc, ca]
    · by_cases hf : f = 0
      · rcases ans with _ | ⟨a, r⟩
        · simp only [rf_eq, bnd_some, List.length_nil, List.length_cons, List.drop_succ_cons, List.drop_zero, List.drop_nil, z1, z2, z3, z4, z5, z6, z7, z8, z9, za, gcons, decide_true, decide_false, Bool.not_false, Bool.not_true, Bool.true_and, cond_true, cond_false, spk, nxf, nxr, snt, nopk, Bool.and_self, ne_eq, not_true_eq_false, not_false_eq_true, if_false, if_true, List.nil_append, List.cons_append, hc, hf]
        · by_cases ca : chkv a = 0
          · rcases fs with _ | ⟨g, gs⟩
            · simp only [rf_eq, bnd_some, List.length_nil, List.length_cons, List.drop_succ_cons, List.drop_zero, List.drop_nil, z1, z2, z3, z4, z5, z6, z7, z8, z9, za, gcons, decide_true, decide_false, Bool.not_false, Bool.not_true, Bool.true_and, cond_true, cond_false, spk, nxf, nxr, snt, nopk, Bool.and_self, ne_eq, not_true_eq_false, not_false_eq_true, if_false, if_true, List.nil_append, List.cons_append, hc, ca, hf]
            · by_cases hg : g = 0 <;> simp only [rf_eq, bnd_some, List.length_nil, List.length_cons, List.drop_succ_cons, List.drop_zero, List.drop_nil, z1, z2, z3, z4, z5, z6, z7, z8, z9, za, gcons, decide_true, decide_false, Bool.not_false, Bool.not_true, Bool.true_and, cond_true, cond_false, spk, nxf, nxr, snt, nopk, Bool.and_self, ne_eq, not_true_eq_false, not_false_eq_true, if_false, if_true, List.nil_append, List.cons_append, hc, ca, hf, hg]
          · simp only [rf_eq, bnd_some, List.length_nil, List.length_cons, List.drop_succ_cons, List.drop_zero, List.drop_nil, z1, z2, z3, z4, z5, z6, z7, z8, z9, za, gcons, decide_true, decide_false, Bool.not_false, Bool.not_true, Bool.true_and, cond_true, cond_false, spk, nxf, nxr, snt, nopk, Bool.and_self, ne_eq, not_true_eq_false, not_false_eq_true, if_false, if_true, List.nil_append, List.cons_append, hc, ca, hf]
      · simp only [rf_eq, bnd_some, List.length_nil, List.length_cons, List.drop_succ_cons, List.drop_zero, List.drop_nil, z1, z2, z3, z4, z5, z6, z7, z8, z9, za, gcons, decide_true, decide_false, Bool.not_false, Bool.not_true, Bool.true_and, cond_true, cond_false, spk, nxf, nxr, snt, nopk, Bool.and_self, ne_eq, not_true_eq_false, not_false_eq_true, if_false, if_true, List.nil_append, List.cons_append, hc, hf]
  · simp only [hc, decide_false, Bool.not_false, cond_true, spk, nopk, ne_eq, not_false_eq_true, if_true]
theorem cloneB_eq (m : Nat) (xs : List Int) (h : xs.length ≤ 1100) : cloneB_D m xs = some ((), xs, ()) := by
  unfold cloneB_D
  rw [dT (by omega), cond_true]
theorem y1 (n : Nat) : decide ((0 : Int) ≤ (n : Int)) = true := dT (by omega)
theorem y2 {α : Type} (l : List α) : List.take (Int.toNat (l.length : Int)) l = l := by rw [toNatC, List.take_length]
theorem y3 (n : Nat) : decide (Int.toNat (n : Int) ≤ n) = true := dT (by omega)
theorem y4 (n : Nat) : decide ((n : Int) ≤ (n : Int)) = true := dT (by omega)
theorem y5 (n : Nat) : Int.toNat (n : Int) = n := toNatC n
theorem y6 (n : Nat) : decide (n ≤ n) = true := dT (by omega)
theorem speak_eq (m : Nat) (ans : List PkT) (fs : List Int) (p : PkT) (hp : (pdat p).length ≤ 1100) (wp : pwf p) (ha : ∀ a ∈ ans, (pdat a).length ≤ 1100 ∧ pwf a) :
    speak_D m p ans fs = some ((((spk ans fs p).a, (spk ans fs p).ok, (spk ans fs p).sent, ()), ((spk ans fs p).ans, (spk ans fs p).heard, ()), ((spk ans fs p).fs, ()), ())) := by
  obtain ⟨p0, p1, p2, p3, p4, p5, p6, p7, p8, d, ⟨⟩⟩ := p
  simp only [pdat] at hp
  have hg : growOb 1 (0 + d.length) = true := growT (by omega) (by omega)
  unfold speak_D
  rw [pk_eq m _ wp, bnd_some]
  simp only [cloneB_eq m d hp, bnd_some, y1, y4, y5, y6, List.take_length, Bool.and_self, cond_true, hg]
  by_cases hc : chkv (p0, p1, p2, p3, p4, p5, p6, p7, p8, d, ()) = 0
  · rcases ans with _ | ⟨a, r⟩
    · rcases fs with _ | ⟨f, fs⟩
      · simp only [rf_eq, bnd_some, List.length_nil, List.length_cons, List.drop_succ_cons, List.drop_zero, List.drop_nil, z1, z2, z3, z4, z5, z6, z7, z8, z9, za, gcons, decide_true, decide_false, Bool.not_false, Bool.not_true, Bool.true_and, cond_true, cond_false, spk, nxf, nxr, snt, nopk, Bool.and_self, ne_eq, not_true_eq_false, not_false_eq_true, if_false, if_true, List.nil_append, List.cons_append, y5, List.take_succ_cons, List.take_nil, hc]
      · by_cases hf : f = 0 <;> simp only [rf_eq, bnd_some, List.length_nil, List.length_cons, List.drop_succ_cons, List.drop_zero, List.drop_nil, z1, z2, z3, z4, z5, z6, z7, z8, z9, za, gcons, decide_true, decide_false, Bool.not_false, Bool.not_true, Bool.true_and, cond_true, cond_false, spk, nxf, nxr, snt, nopk, Bool.and_self, ne_eq, not_true_eq_false, not_false_eq_true, if_false, if_true, List.nil_append, List.cons_append, y5, List.take_succ_cons, List.take_nil, hc, hf]
    · obtain ⟨had, haw⟩ := ha a (by simp)
      have hpk := pk_eq m a haw
      have hcl := cloneB_eq m _ had
      obtain ⟨a0, a1, a2, a3, a4, a5, a6, a7, a8, b, ⟨⟩⟩ := a
      simp only [pdat] at hcl
      by_cases h0 : a0 = 0
      · subst h0
        have ca := chk_none0 (0, a1, a2, a3, a4, a5, a6, a7, a8, b, ()) rfl
        rcases fs with _ | ⟨f, fs⟩
        · simp only [rf_eq, bnd_some, List.length_nil, List.length_cons, List.drop_succ_cons, List.drop_zero, List.drop_nil, z1, z2, z3, z4, z5, z6, z7, z8, z9, za, gcons, decide_true, decide_false, Bool.not_false, Bool.not_true, Bool.true_and, cond_true, cond_false, spk, nxf, nxr, snt, nopk, Bool.and_self, ne_eq, not_true_eq_false, not_false_eq_true, if_false, if_true, List.nil_append, List.cons_append, y1, y4, y5, y6, List.take_length, List.take_succ_cons, List.take_nil, hc, hpk, hcl, ca]
        · by_cases hf : f = 0 <;> simp only [rf_eq, bnd_some, List.length_nil, List.length_cons, List.drop_succ_cons, List.drop_zero, List.drop_nil, z1, z2, z3, z4, z5, z6, z7, z8, z9, za, gcons, decide_true, decide_false, Bool.not_false, Bool.not_true, Bool.true_and, cond_true, cond_false, spk, nxf, nxr, snt, nopk, Bool.and_self, ne_eq, not_true_eq_false, not_false_eq_true, if_false, if_true, List.nil_append, List.cons_append, y1, y4, y5, y6, List.take_length, List.take_succ_cons, List.take_nil, hc, hpk, hcl, ca, hf]
      · by_cases ca : chkv (a0, a1, a2, a3, a4, a5, a6, a7, a8, b, ()) = 0
        · rcases fs with _ | ⟨f, fs⟩
          · simp only [rf_eq, bnd_some, List.length_nil, List.length_cons, List.drop_succ_cons, List.drop_zero, List.drop_nil, z1, z2, z3, z4, z5, z6, z7, z8, z9, za, gcons, decide_true, decide_false, Bool.not_false, Bool.not_true, Bool.true_and, cond_true, cond_false, spk, nxf, nxr, snt, nopk, Bool.and_self, ne_eq, not_true_eq_false, not_false_eq_true, if_false, if_true, List.nil_append, List.cons_append, y1, y4, y5, y6, List.take_length, List.take_succ_cons, List.take_nil, hc, hpk, hcl, h0, ca]
          · by_cases hf : f = 0
            · rcases fs with _ | ⟨g, gs⟩
              · simp only [rf_eq, bnd_some, List.length_nil, List.length_cons, List.drop_succ_cons, List.drop_zero, List.drop_nil, z1, z2, z3, z4, z5, z6, z7, z8, z9, za, gcons, decide_true, decide_false, Bool.not_false, Bool.not_true, Bool.true_and, cond_true, cond_false, spk, nxf, nxr, snt, nopk, Bool.and_self, ne_eq, not_true_eq_false, not_false_eq_true, if_false, if_true, List.nil_append, List.cons_append, y1, y4, y5, y6, List.take_length, List.take_succ_cons, List.take_nil, hc, hpk, hcl, h0, ca, hf]
              · by_cases hg2 : g = 0 <;> simp only [rf_eq, bnd_some, List.length_nil, List.length_cons, List.drop_succ_cons, List.drop_zero, List.drop_nil, z1, z2, z3, z4, z5, z6, z7, z8, z9, za, gcons, decide_true, decide_false, Bool.not_false, Bool.not_true, Bool.true_and, cond_true, cond_false, spk, nxf, nxr, snt, nopk, Bool.and_self, ne_eq, not_true_eq_false, not_false_eq_true, if_false, if_true, List.nil_append, List.cons_append, y1, y4, y5, y6, List.take_length, List.take_succ_cons, List.take_nil, hc, hpk, hcl, h0, ca, hf, hg2]
            · simp only [rf_eq, bnd_some, List.length_nil, List.length_cons, List.drop_succ_cons, List.drop_zero, List.drop_nil, z1, z2, z3, z4, z5, z6, z7, z8, z9, za, gcons, decide_true, decide_false, Bool.not_false, Bool.not_true, Bool.true_and, cond_true, cond_false, spk, nxf, nxr, snt, nopk, Bool.and_self, ne_eq, not_true_eq_false, not_false_eq_true, if_false, if_true, List.nil_append, List.cons_append, y1, y4, y5, y6, List.take_length, List.take_succ_cons, List.take_nil, hc, hpk, hcl, h0, ca, hf]
        · rcases fs with _ | ⟨f, fs⟩
          · simp only [rf_eq, bnd_some, List.length_nil, List.length_cons, List.drop_succ_cons, List.drop_zero, List.drop_nil, z1, z2, z3, z4, z5, z6, z7, z8, z9, za, gcons, decide_true, decide_false, Bool.not_false, Bool.not_true, Bool.true_and, cond_true, cond_false, spk, nxf, nxr, snt, nopk, Bool.and_self, ne_eq, not_true_eq_false, not_false_eq_true, if_false, if_true, List.nil_append, List.cons_append, y1, y4, y5, y6, List.take_length, List.take_succ_cons, List.take_nil, hc, hpk, hcl, h0, ca]
          · by_cases hf : f = 0 <;> simp only [rf_eq, bnd_some, List.length_nil, List.length_cons, List.drop_succ_cons, List.drop_zero, List.drop_nil, z1, z2, z3, z4, z5, z6, z7, z8, z9, za, gcons, decide_true, decide_false, Bool.not_false, Bool.not_true, Bool.true_and, cond_true, cond_false, spk, nxf, nxr, snt, nopk, Bool.and_self, ne_eq, not_true_eq_false, not_false_eq_true, if_false, if_true, List.nil_append, List.cons_append, y1, y4, y5, y6, List.take_length, List.take_succ_cons, List.take_nil, hc, hpk, hcl, h0, ca, hf]
  · simp only [hc, decide_false, Bool.not_false, cond_true, spk, nopk, ne_eq, not_false_eq_true, if_true]
end Go.Proofs.Ytpdbekbobkjfgaa
