/-
  The statements AudiosRun and AudiosKeep: what Simulate comes to.
  Conditions: none.
-/
import Derived.Test.YtmjocalgekfodaaKpP
namespace Go.Proofs.Ytmjocalgekfodaa
set_option linter.unusedVariables false
set_option linter.unusedSimpArgs false
set_option maxRecDepth 100000
set_option maxHeartbeats 2000000

theorem simB_step (m : Nat) (g : SimG) (s v : Int) (fu dr : Bool) (h1 : g.2.2.2.2.1.length ≤ 1000000) (h2 : g.2.2.2.2.2.length ≤ 1000000) (h3 : 0 ≤ g.2.2.1 ∧ g.2.2.1 ≤ 1000000) (h4 : 0 ≤ g.2.2.2.1 ∧ g.2.2.2.1 ≤ 1000000) :
    simB m g ((s, v, ()), (fu, dr, ()), ()) = some (g.1, g.2.1, g.2.2.1 + (if dr = true then 1 else 0), g.2.2.2.1 + (if fu = true then 1 else 0), g.2.2.2.2.1 ++ [v], g.2.2.2.2.2 ++ [s]) := by
  obtain ⟨a, b, c, d, xs, ys⟩ := g
  simp only at h1 h2 h3 h4
  unfold simB simB_J1
  simp only
  rw [kgr8 _ (by simp; omega), kgr8 _ (by simp; omega), dT (show (55 : Nat) < 77 by omega), dT (show (61 : Nat) < 77 by omega), kwi64 (x := c + 1) (by omega) (by omega), kwi64 (x := d + 1) (by omega) (by omega)]
  cases fu <;> cases dr <;> simp
theorem yk_sim {α : Type} (B : α → SimX → Option α) {R : Type} (V : Value) (g : α) (s v : Int) (fu dr : Bool) (K : α → Option R) : ykF B simP R V g [SV.agg [SV.i Go.IntKind.i64 s, SV.i Go.IntKind.i64 v], SV.agg [SV.b fu, SV.b dr]] K = bnd (B g ((s, v, ()), (fu, dr, ()), ())) K := rfl
def kWs (i : Nat) (x : KX) : Int × Int × Unit := if i % 2 = 0 then (x.2.2.2.1, x.2.2.2.2, ()) else (x.2.2.2.2, x.2.2.2.1, ())
theorem tmod2 (i : Nat) : Int.tmod (i : Int) 2 = ((i % 2 : Nat) : Int) := by rw [Int.tmod_eq_emod_of_nonneg (by omega)]; omega
theorem kGot_ok {T room : Int} {t : Tk} {x : KX} (h : kOk T room x) : 0 ≤ kSent x ∧ kSent x ≤ 1000 ∧ 0 ≤ kGot t x ∧ kGot t x ≤ 1000 := by
  obtain ⟨L, r, s, a, b⟩ := x
  simp only [kOk, kGot, kSent] at *
  obtain ⟨a1, a2, a3, a4, a5, a6, a7, a8, a9, b1, b2, b3, b4, b5⟩ := h
  have h1 : 0 ≤ (s + if 16777216 < a then 16777216 else a) / 65536 ∧ (s + if 16777216 < a then 16777216 else a) / 65536 ≤ 1000 := by split <;> omega
  refine ⟨h1.1, h1.2, ?_, ?_⟩ <;> split <;> omega
theorem frm_stepG {α : Type} (B : α → SimX → Option α) (G : Int → Int → Bool → Bool → α) (m f : Nat) (V : Value) (l : SimT) (i : Nat) (nom : Int) (l0 : SimT) (T room : Int) (x : KX) (rp : Int) (g : α) (hB : ∀ s v fu dr, B g ((s, v, ()), (fu, dr, ()), ()) = some (G s v fu dr)) (hi : i < l.length) (hl : l.length ≤ 1000000) (hk : kOk T room x) (ht : ∀ t ∈ l, 0 ≤ t.1 ∧ t.1 ≤ 16777216) :
    ∃ rp', frm_L0 (ykF B simP) m (f + 1) V l (l.length : Int) (i : Int) nom l0 (T, room, x.1, x.2.1, ()) (rp, x.2.2.1, ()) (kWs i x) g =
      frm_L0 (ykF B simP) m f V l (l.length : Int) ((i + 1 : Nat) : Int) nom l0 (T, room, (kNext T room (l.getD i (0, false, false, ())) x).1, (kNext T room (l.getD i (0, false, false, ())) x).2.1, ()) (rp', (kNext T room (l.getD i (0, false, false, ())) x).2.2.1, ()) (kWs (i + 1) (kNext T room (l.getD i (0, false, false, ())) x))
        (G (kSent x) (kLev room (l.getD i (0, false, false, ())) x) (kFull room (l.getD i (0, false, false, ())) x) (kDry room (l.getD i (0, false, false, ())) x)) := by
  have htt := ht (l.getD i (0, false, false, ())) (by rw [getD_lt hi]; exact List.getElem_mem hi)
  have hgot := kGot_ok (t := l.getD i (0, false, false, ())) hk
  have hwS : Go.IntKind.wrap .i64 ((i : Int) + 1) = ((i + 1 : Nat) : Int) := by rw [kwi64 (by omega) (by omega)]; omega
  refine ⟨if 16777216 < x.2.2.2.1 then (16777216 : Int) else x.2.2.2.1, ?_⟩
  rw [frm_L0]
  rw [dT (show (i : Int) < (l.length : Int) by omega), inT (by omega) (by omega : (i : Int) < (l.length : Nat)), toNatC, tmod2, hwS]
  generalize l.getD i (0, false, false, ()) = t at htt hgot ⊢
  obtain ⟨q, lo, de, u⟩ := t
  obtain ⟨L, r, s, a, b⟩ := x
  have hk' := hk
  simp only [kOk] at hk'
  obtain ⟨a1, a2, a3, a4, a5, a6, a7, a8, a9, b1, b2, b3, b4, b5⟩ := hk'
  simp only at htt
  obtain ⟨q0, q1⟩ := htt
  have w1 : 0 ≤ (if 16777216 < a then (16777216 : Int) else a) ∧ (if 16777216 < a then (16777216 : Int) else a) ≤ 16777216 := by split <;> omega
  have hP := fun got (hg : 0 ≤ got ∧ got ≤ 1048576) => aPlay_eq m T room L r got q ⟨a1, a2, a3, a4, a5, a6, a7, a8⟩ hg ⟨q0, q1⟩
  have hW : Go.IntKind.wrap .i64 (Go.IntKind.wrap .u32 (Int.tdiv (Go.IntKind.wrap .u32 (r + q)) (65536 : Int))) = (r + q) / 65536 := by
    rw [kwu32 (x := r + q) (by omega) (by omega), ktd (by omega), kwu32 (by omega) (by omega), kwi64 (by omega) (by omega)]
  have hS := aSend_eq m (if 16777216 < a then (16777216 : Int) else a) s w1.1 w1.2 a9 b1
  have hLg := fun got (hg : 0 ≤ got ∧ got ≤ 1048576) => kwi64 (x := L + got) (by omega) (by omega)
  have hpar : i % 2 = 0 ∨ i % 2 = 1 := by omega
  have w1i : Go.IntKind.wrap .i64 ((1 : Int) - 0) = 1 := by decide
  have w0i : Go.IntKind.wrap .i64 ((1 : Int) - 1) = 0 := by decide
  have hin : ∀ got, kIn' room L got = if room < L + got then room else L + got := fun got => rfl
  rcases hpar with hp | hp
  all_goals
    (have hp' : (i + 1) % 2 = 1 - i % 2 := by omega)
    simp only [kWs, hp, hp', if_true, Nat.sub_zero, Nat.sub_self, Nat.one_ne_zero, if_false]
  · have e1 : inB (((0 : Nat) : Int)) 2 = true := by decide
    have e2 : inB (Go.IntKind.wrap .i64 ((1 : Int) - ((0 : Nat) : Int))) 2 = true := by decide
    have e3 : Int.toNat (Go.IntKind.wrap .i64 ((1 : Int) - ((0 : Nat) : Int))) = 1 := by decide
    simp only [e1, e2, e3, toNatC, Nat.add_zero, List.length_cons, List.length_nil, List.getD_cons_zero, List.getD_cons_succ, Nat.zero_add, decide_true, cond_true, hS, bnd_some]
    cases lo with
    | true =>
      simp only [cond_true, hP 0 (by omega), bnd_some, hW, hLg 0 (by omega)]
      cases de with
      | true =>
        simp only [cond_true]
        simp only [yk_sim]
        rw [hB]
        simp [bnd, kNext, kDry, kFull, kLev, kPl, kIn, kGot, kSent, kSrc, kWant, kRest, kFeed, hin]
      | false =>
        simp only [cond_false]
        simp only [yk_sim]
        rw [hB]
        simp [bnd, kNext, kDry, kFull, kLev, kPl, kIn, kGot, kSent, kSrc, kWant, kRest, kFeed, hin]
    | false =>
      simp only [cond_false, hP ((s + if 16777216 < a then (16777216 : Int) else a) / 65536) (by omega), bnd_some, hW, hLg ((s + if 16777216 < a then (16777216 : Int) else a) / 65536) (by omega)]
      cases de with
      | true =>
        simp only [cond_true]
        simp only [yk_sim]
        rw [hB]
        simp [bnd, kNext, kDry, kFull, kLev, kPl, kIn, kGot, kSent, kSrc, kWant, kRest, kFeed, hin]
      | false =>
        simp only [cond_false]
        simp only [yk_sim]
        rw [hB]
        simp [bnd, kNext, kDry, kFull, kLev, kPl, kIn, kGot, kSent, kSrc, kWant, kRest, kFeed, hin]
  · have e1 : inB (((1 : Nat) : Int)) 2 = true := by decide
    have e2 : inB (Go.IntKind.wrap .i64 ((1 : Int) - ((1 : Nat) : Int))) 2 = true := by decide
    have e3 : Int.toNat (Go.IntKind.wrap .i64 ((1 : Int) - ((1 : Nat) : Int))) = 0 := by decide
    simp only [e1, e2, e3, toNatC, Nat.add_zero, List.length_cons, List.length_nil, List.getD_cons_zero, List.getD_cons_succ, Nat.zero_add, decide_true, cond_true, hS, bnd_some]
    cases lo with
    | true =>
      simp only [cond_true, hP 0 (by omega), bnd_some, hW, hLg 0 (by omega)]
      cases de with
      | true =>
        simp only [cond_true]
        simp only [yk_sim]
        rw [hB]
        simp [bnd, kNext, kDry, kFull, kLev, kPl, kIn, kGot, kSent, kSrc, kWant, kRest, kFeed, hin]
      | false =>
        simp only [cond_false]
        simp only [yk_sim]
        rw [hB]
        simp [bnd, kNext, kDry, kFull, kLev, kPl, kIn, kGot, kSent, kSrc, kWant, kRest, kFeed, hin]
    | false =>
      simp only [cond_false, hP ((s + if 16777216 < a then (16777216 : Int) else a) / 65536) (by omega), bnd_some, hW, hLg ((s + if 16777216 < a then (16777216 : Int) else a) / 65536) (by omega)]
      cases de with
      | true =>
        simp only [cond_true]
        simp only [yk_sim]
        rw [hB]
        simp [bnd, kNext, kDry, kFull, kLev, kPl, kIn, kGot, kSent, kSrc, kWant, kRest, kFeed, hin]
      | false =>
        simp only [cond_false]
        simp only [yk_sim]
        rw [hB]
        simp [bnd, kNext, kDry, kFull, kLev, kPl, kIn, kGot, kSent, kSrc, kWant, kRest, kFeed, hin]
theorem frm_step (m f : Nat) (V : Value) (l : SimT) (i : Nat) (nom : Int) (l0 : SimT) (T room : Int) (x : KX) (rp : Int) (g : SimG) (hi : i < l.length) (hl : l.length ≤ 1000000) (hk : kOk T room x) (ht : ∀ t ∈ l, 0 ≤ t.1 ∧ t.1 ≤ 16777216)
    (h1 : g.2.2.2.2.1.length ≤ 1000000) (h2 : g.2.2.2.2.2.length ≤ 1000000) (h3 : 0 ≤ g.2.2.1 ∧ g.2.2.1 ≤ 1000000) (h4 : 0 ≤ g.2.2.2.1 ∧ g.2.2.2.1 ≤ 1000000) :
    ∃ rp', frm_L0 (ykF (simB m) simP) m (f + 1) V l (l.length : Int) (i : Int) nom l0 (T, room, x.1, x.2.1, ()) (rp, x.2.2.1, ()) (kWs i x) g =
      frm_L0 (ykF (simB m) simP) m f V l (l.length : Int) ((i + 1 : Nat) : Int) nom l0 (T, room, (kNext T room (l.getD i (0, false, false, ())) x).1, (kNext T room (l.getD i (0, false, false, ())) x).2.1, ()) (rp', (kNext T room (l.getD i (0, false, false, ())) x).2.2.1, ()) (kWs (i + 1) (kNext T room (l.getD i (0, false, false, ())) x))
        (g.1, g.2.1, g.2.2.1 + (if kDry room (l.getD i (0, false, false, ())) x = true then 1 else 0), g.2.2.2.1 + (if kFull room (l.getD i (0, false, false, ())) x = true then 1 else 0), g.2.2.2.2.1 ++ [kLev room (l.getD i (0, false, false, ())) x], g.2.2.2.2.2 ++ [kSent x]) :=
  frm_stepG (simB m) (fun s v fu dr => (g.1, g.2.1, g.2.2.1 + (if dr = true then 1 else 0), g.2.2.2.1 + (if fu = true then 1 else 0), g.2.2.2.2.1 ++ [v], g.2.2.2.2.2 ++ [s])) m f V l i nom l0 T room x rp g (fun s v fu dr => simB_step m g s v fu dr h1 h2 h3 h4) hi hl hk ht
theorem kdrop {α : Type} {l : List α} {i : Nat} {d : α} (h : i < l.length) : l.drop i = l.getD i d :: l.drop (i + 1) := by rw [getD_lt h]; exact drop_get h
theorem frm_run (m : Nat) (V : Value) (l : SimT) (nom : Int) (l0 : SimT) (T room : Int) (hl : l.length ≤ 100000) (ht : ∀ t ∈ l, 0 ≤ t.1 ∧ t.1 ≤ 16777216) : ∀ (f i : Nat) (x : KX) (rp : Int) (g : SimG), i ≤ l.length → l.length - i < f → kOk T room x →
    g.2.2.2.2.1.length ≤ i → g.2.2.2.2.2.length ≤ i → (0 ≤ g.2.2.1 ∧ g.2.2.1 ≤ i) → (0 ≤ g.2.2.2.1 ∧ g.2.2.2.1 ≤ i) →
    ∃ s', frm_L0 (ykF (simB m) simP) m f V l (l.length : Int) (i : Int) nom l0 (T, room, x.1, x.2.1, ()) (rp, x.2.2.1, ()) (kWs i x) g = some (((), ((nom, ()), ((l0, ()), (s', ())))), kRun T room (l.drop i) x g) := by
  intro f
  induction f with
  | zero => intro i x rp g h1 h2; omega
  | succ f ih =>
    intro i x rp g h1 h2 hk g1 g2 g3 g4
    by_cases h : i < l.length
    · obtain ⟨rp', e⟩ := frm_step m f V l i nom l0 T room x rp g h (by omega) hk ht (by omega) (by omega) ⟨g3.1, by omega⟩ ⟨g4.1, by omega⟩
      rw [e, kdrop (d := (0, false, false, ())) h]
      simp only [kRun]
      have htt := ht (l.getD i (0, false, false, ())) (by rw [getD_lt h]; exact List.getElem_mem h)
      refine ih (i + 1) _ rp' _ (by omega) (by omega) (kOk_next hk htt.1 htt.2) (by simp; omega) (by simp; omega) ?_ ?_
      · simp only; split <;> omega
      · simp only; split <;> omega
    · rw [frm_L0, dF (show ¬ (i : Int) < (l.length : Int) by omega), List.drop_eq_nil_of_le (by omega)]
      exact ⟨_, rfl⟩
theorem frmY_run (m : Nat) (l : SimT) (nom : Int) (T room L r : Int) (g : SimG) (hl : l.length ≤ 100000) (hm : l.length < m) (ht : ∀ t ∈ l, 0 ≤ t.1 ∧ t.1 ≤ 16777216) (hk : kOk T room (L, r, 0, nom, nom)) (g1 : g.2.2.2.2.1 = []) (g2 : g.2.2.2.2.2 = []) (g3 : g.2.2.1 = 0) (g4 : g.2.2.2.1 = 0) :
    frm_Y (ykF (simB m) simP) m V00 nom l (T, room, L, r, ()) g = some (kRun T room l (L, r, 0, nom, nom) g) := by
  obtain ⟨s', e⟩ := frm_run m V00 l nom l T room hl ht m 0 (L, r, 0, nom, nom) nom g (by omega) (by omega) hk (by simp [g1]) (by simp [g2]) (by simp [g3]) (by simp [g4])
  unfold frm_Y
  have e' : frm_L0 (ykF (simB m) simP) m m V00 l (l.length : Int) (0 : Int) nom l (T, room, L, r, ()) (nom, 0, ()) (nom, nom, ()) g = some (((), ((nom, ()), ((l, ()), (s', ())))), kRun T room l (L, r, 0, nom, nom) g) := e
  rw [e']; rfl
theorem sim_L0_eq (m : Nat) (nom : Int) (l0 l : SimT) (s : SimS) (a b : Int) (hl : l.length ≤ 100000) (ht : ∀ t ∈ l, t.1 ≤ 16777216) : ∀ (f i : Nat), i ≤ l.length → l.length - i < f →
    sim_L0 m f nom l0 l (l.length : Int) (i : Int) s a b = some (.inr ((nom, (l0, ())), (s, ((a, (b, ())), ())))) := by
  intro f
  induction f with
  | zero => intro i h1 h2; omega
  | succ f ih =>
    intro i h1 h2
    rw [sim_L0]
    by_cases h : i < l.length
    · have htt := ht (l.getD i (0, false, false, ())) (by rw [getD_lt h]; exact List.getElem_mem h)
      have hwS : Go.IntKind.wrap .i64 ((i : Int) + 1) = ((i + 1 : Nat) : Int) := by rw [kwi64 (by omega) (by omega)]; omega
      rw [dT (show (i : Int) < (l.length : Int) by omega), inT (by omega) (by omega : (i : Int) < (l.length : Nat)), toNatC, hwS, dF (show ¬ (16777216 : Int) < (l.getD i (0, false, false, ())).1 by omega), ih (i + 1) (by omega) (by omega)]
      rfl
    · rw [dF (show ¬ (i : Int) < (l.length : Int) by omega)]
      rfl
theorem kmk8 (c : Nat) (h : c ≤ 1000000) : makeOb 8 0 (c : Int) true = true := by simp [makeOb]; omega
theorem sim_eq (m : Nat) (l : SimT) (nom : Int) (T room L r : Int) (hl : l.length ≤ 65536) (hm : l.length < m) (hn : 0 ≤ nom ∧ nom ≤ 16777216) (ht : ∀ t ∈ l, 0 ≤ t.1 ∧ t.1 ≤ 16777216) (hk : kOk T room (L, r, 0, nom, nom)) :
    sim_D m (T, room, L, r, ()) nom l = some ((((kRun T room l (L, r, 0, nom, nom) (0, 0, 0, 0, [], [])).2.2.2.2.1, (kRun T room l (L, r, 0, nom, nom) (0, 0, 0, 0, [], [])).2.2.2.2.2, (kRun T room l (L, r, 0, nom, nom) (0, 0, 0, 0, [], [])).2.2.1, (kRun T room l (L, r, 0, nom, nom) (0, 0, 0, 0, [], [])).2.2.2.1, ()), 0, ()), ()) := by
  have hk' := hk
  simp only [kOk] at hk'
  obtain ⟨a1, a2, a3, a4, a5, a6, a7, a8, a9, b1, b2, b3, b4, b5⟩ := hk'
  have e0 : sim_L0 m m nom l l (l.length : Int) (0 : Int) (T, room, L, r, ()) 0 0 = some (.inr ((nom, (l, ())), ((T, room, L, r, ()), ((0, (0, ())), ())))) := sim_L0_eq m nom l l _ 0 0 (by omega) (fun t h => (ht t h).2) m 0 (by omega) (by omega)
  unfold sim_D sim_J0
  rw [aRight_eq m T room L r ⟨a1, a2, a3, a4, a5, a6, a8⟩, dF (show ¬ (16777216 : Int) < nom by omega), dF (show ¬ (65536 : Int) < (l.length : Int) by omega), e0]
  simp only [bnd_some, sumK_r, Bool.not_true, cond_false]
  rw [kmk8 _ (by omega), dT (show (39 : Nat) < 77 by omega), dT (show (42 : Nat) < 77 by omega)]
  unfold simRF
  have er : (List.replicate (Int.toNat (0 : Int)) (0 : Int)) = [] := rfl
  rw [er, frmY_run m l nom T room L r _ (by omega) hm ht hk rfl rfl rfl rfl]
  rfl
theorem kRun_len (T room : Int) : ∀ (l : List Tk) (x : KX) (g : KG), (kRun T room l x g).2.2.2.2.1.length = g.2.2.2.2.1.length + l.length ∧ (kRun T room l x g).2.2.2.2.2.length = g.2.2.2.2.2.length + l.length
  | [], x, g => by simp [kRun]
  | t :: l, x, g => by
    simp only [kRun]
    obtain ⟨h1, h2⟩ := kRun_len T room l (kNext T room t x) (g.1, g.2.1, g.2.2.1 + (if kDry room t x = true then 1 else 0), g.2.2.2.1 + (if kFull room t x = true then 1 else 0), g.2.2.2.2.1 ++ [kLev room t x], g.2.2.2.2.2 ++ [kSent x])
    refine ⟨h1.trans (by simp; omega), h2.trans (by simp; omega)⟩
end Go.Proofs.Ytmjocalgekfodaa

