/-
  The statement AudiosRun: what Simulate comes to, with capacities; the plain law.
  Conditions: none.
-/
import Derived.Test.YtmjocalgekfodaaC9d
import Derived.Test.YtmjocalgekfodaaKpR
namespace Go.Proofs.Ytmjocalgekfodaa
set_option linter.unusedVariables false
set_option linter.unusedSimpArgs false
set_option maxRecDepth 100000
set_option maxHeartbeats 2000000

def kE (c : Nat) (g : KG) : SimC := (g.1, g.2.1, g.2.2.1, g.2.2.2.1, (g.2.2.2.2.1, c), (g.2.2.2.2.2, c))
theorem simcB_step (m c : Nat) (g : KG) (s v : Int) (fu dr : Bool) (hc : c ≤ 1000000) (h1 : g.2.2.2.2.1.length < c) (h2 : g.2.2.2.2.2.length < c) (h3 : 0 ≤ g.2.2.1 ∧ g.2.2.1 ≤ 1000000) (h4 : 0 ≤ g.2.2.2.1 ∧ g.2.2.2.1 ≤ 1000000) :
    simcB m (kE c g) ((s, v, ()), (fu, dr, ()), ()) = some (kE c (g.1, g.2.1, g.2.2.1 + (if dr = true then 1 else 0), g.2.2.2.1 + (if fu = true then 1 else 0), g.2.2.2.2.1 ++ [v], g.2.2.2.2.2 ++ [s])) := by
  obtain ⟨a, b, cc, d, xs, ys⟩ := g
  simp only at h1 h2 h3 h4
  unfold simcB simc_J1 kE
  simp only
  rw [kgr8 _ (by simp; omega), kgr8 _ (by simp; omega), dT (show (55 : Nat) < 77 by omega), dT (show (61 : Nat) < 77 by omega), kwi64 (x := cc + 1) (by omega) (by omega), kwi64 (x := d + 1) (by omega) (by omega), dT (show xs.length + List.length [v] ≤ c by simp; omega), dT (show ys.length + List.length [s] ≤ c by simp; omega)]
  cases fu <;> cases dr <;> simp
theorem frm_runC (m c : Nat) (V : Value) (l : SimT) (nom : Int) (l0 : SimT) (T room : Int) (hl : l.length ≤ 100000) (hlc : l.length ≤ c) (hc : c ≤ 1000000) (ht : ∀ t ∈ l, 0 ≤ t.1 ∧ t.1 ≤ 16777216) : ∀ (f i : Nat) (x : KX) (rp : Int) (g : KG), i ≤ l.length → l.length - i < f → kOk T room x →
    g.2.2.2.2.1.length ≤ i → g.2.2.2.2.2.length ≤ i → (0 ≤ g.2.2.1 ∧ g.2.2.1 ≤ i) → (0 ≤ g.2.2.2.1 ∧ g.2.2.2.1 ≤ i) →
    ∃ s', frm_L0 (ykF (simcB m) simP) m f V l (l.length : Int) (i : Int) nom l0 (T, room, x.1, x.2.1, ()) (rp, x.2.2.1, ()) (kWs i x) (kE c g) = some (((), ((nom, ()), ((l0, ()), (s', ())))), kE c (kRun T room (l.drop i) x g)) := by
  intro f
  induction f with
  | zero => intro i x rp g h1 h2; omega
  | succ f ih =>
    intro i x rp g h1 h2 hk g1 g2 g3 g4
    by_cases h : i < l.length
    · obtain ⟨rp', e⟩ := frm_stepG (simcB m) (fun s v fu dr => kE c (g.1, g.2.1, g.2.2.1 + (if dr = true then 1 else 0), g.2.2.2.1 + (if fu = true then 1 else 0), g.2.2.2.2.1 ++ [v], g.2.2.2.2.2 ++ [s])) m f V l i nom l0 T room x rp (kE c g) (fun s v fu dr => simcB_step m c g s v fu dr hc (by omega) (by omega) ⟨g3.1, by omega⟩ ⟨g4.1, by omega⟩) h (by omega) hk ht
      rw [e, kdrop (d := (0, false, false, ())) h]
      simp only [kRun]
      have htt := ht (l.getD i (0, false, false, ())) (by rw [getD_lt h]; exact List.getElem_mem h)
      refine ih (i + 1) _ rp' _ (by omega) (by omega) (kOk_next hk htt.1 htt.2) (by simp; omega) (by simp; omega) ?_ ?_
      · simp only; split <;> omega
      · simp only; split <;> omega
    · rw [frm_L0, dF (show ¬ (i : Int) < (l.length : Int) by omega), List.drop_eq_nil_of_le (by omega)]
      exact ⟨_, rfl⟩
theorem frmY_runC (m : Nat) (l : SimT) (nom : Int) (T room L r : Int) (g : KG) (hl : l.length ≤ 100000) (hm : l.length < m) (ht : ∀ t ∈ l, 0 ≤ t.1 ∧ t.1 ≤ 16777216) (hk : kOk T room (L, r, 0, nom, nom)) (g1 : g.2.2.2.2.1 = []) (g2 : g.2.2.2.2.2 = []) (g3 : g.2.2.1 = 0) (g4 : g.2.2.2.1 = 0) :
    frm_Y (ykF (simcB m) simP) m V00 nom l (T, room, L, r, ()) (kE l.length g) = some (kE l.length (kRun T room l (L, r, 0, nom, nom) g)) := by
  obtain ⟨s', e⟩ := frm_runC m l.length V00 l nom l T room hl (Nat.le_refl _) (by omega) ht m 0 (L, r, 0, nom, nom) nom g (by omega) (by omega) hk (by simp [g1]) (by simp [g2]) (by simp [g3]) (by simp [g4])
  unfold frm_Y
  have e' : frm_L0 (ykF (simcB m) simP) m m V00 l (l.length : Int) (0 : Int) nom l (T, room, L, r, ()) (nom, 0, ()) (nom, nom, ()) (kE l.length g) = some (((), ((nom, ()), ((l, ()), (s', ())))), kE l.length (kRun T room l (L, r, 0, nom, nom) g)) := e
  rw [e']; rfl
theorem simc_eq (m : Nat) (l : SimT) (nom : Int) (T room L r : Int) (hl : l.length ≤ 65536) (hm : l.length < m) (hn : 0 ≤ nom ∧ nom ≤ 16777216) (ht : ∀ t ∈ l, 0 ≤ t.1 ∧ t.1 ≤ 16777216) (hk : kOk T room (L, r, 0, nom, nom)) :
    simc_D m (T, room, L, r, ()) nom l = some (((((kRun T room l (L, r, 0, nom, nom) (0, 0, 0, 0, [], [])).2.2.2.2.1, l.length), ((kRun T room l (L, r, 0, nom, nom) (0, 0, 0, 0, [], [])).2.2.2.2.2, l.length), (kRun T room l (L, r, 0, nom, nom) (0, 0, 0, 0, [], [])).2.2.1, (kRun T room l (L, r, 0, nom, nom) (0, 0, 0, 0, [], [])).2.2.2.1, ()), 0, ()), ()) := by
  have hk' := hk
  simp only [kOk] at hk'
  obtain ⟨a1, a2, a3, a4, a5, a6, a7, a8, a9, b1, b2, b3, b4, b5⟩ := hk'
  have e0 : sim_L0 m m nom l l (l.length : Int) (0 : Int) (T, room, L, r, ()) 0 0 = some (.inr ((nom, (l, ())), ((T, room, L, r, ()), ((0, (0, ())), ())))) := sim_L0_eq m nom l l _ 0 0 (by omega) (fun t h => (ht t h).2) m 0 (by omega) (by omega)
  unfold simc_D sim_J0
  rw [aRight_eq m T room L r ⟨a1, a2, a3, a4, a5, a6, a8⟩, dF (show ¬ (16777216 : Int) < nom by omega), dF (show ¬ (65536 : Int) < (l.length : Int) by omega), e0]
  simp only [bnd_some, sumK_r, Bool.not_true, cond_false]
  rw [kmk8 _ (by omega), dT (show (39 : Nat) < 77 by omega), dT (show (42 : Nat) < 77 by omega)]
  unfold simcRF
  have er : (List.replicate (Int.toNat (0 : Int)) (0 : Int)) = [] := rfl
  rw [er, toNatC]
  have e1 : ((0 : Int), (0 : Int), (0 : Int), (0 : Int), (([] : List Int), l.length), (([] : List Int), l.length)) = kE l.length (0, 0, 0, 0, [], []) := rfl
  rw [e1, frmY_runC m l nom T room L r _ (by omega) hm ht hk rfl rfl rfl rfl]
  rfl
theorem sim_L0_bad (m : Nat) (nom : Int) (l0 l : SimT) (s : SimS) (hl : l.length ≤ 100000) : ∀ (f i : Nat), i ≤ l.length → l.length - i < f → (∃ t ∈ l.drop i, ¬ t.1 ≤ 16777216) →
    sim_L0 m f nom l0 l (l.length : Int) (i : Int) s 0 0 = some (.inl ((1, ()), ((0, (0, ())), ()))) := by
  intro f
  induction f with
  | zero => intro i h1 h2; omega
  | succ f ih =>
    intro i h1 h2 hb
    rw [sim_L0]
    by_cases h : i < l.length
    · have hwS : Go.IntKind.wrap .i64 ((i : Int) + 1) = ((i + 1 : Nat) : Int) := by rw [kwi64 (by omega) (by omega)]; omega
      rw [dT (show (i : Int) < (l.length : Int) by omega), inT (by omega) (by omega : (i : Int) < (l.length : Nat)), toNatC, hwS]
      rw [kdrop (d := (0, false, false, ())) h] at hb
      by_cases hc : 16777216 < (l.getD i (0, false, false, ())).1
      · rw [dT hc]; rfl
      · rw [dF hc]
        obtain ⟨t, ht, hn⟩ := hb
        rcases List.mem_cons.1 ht with rfl | ht
        · omega
        · simp only [cond_true, cond_false]
          exact ih (i + 1) (by omega) (by omega) ⟨t, ht, hn⟩
    · rw [List.drop_eq_nil_of_le (by omega)] at hb
      obtain ⟨t, ht, _⟩ := hb
      simp at ht
def kRightB (T room L r : Int) : Bool := decide (1 ≤ room) && (decide (room ≤ 1048576) && (decide (0 ≤ T) && (decide (T ≤ room) && (decide (0 ≤ L) && (decide (L ≤ room) && decide (r < 65536))))))
theorem lright_all (m : Nat) (T room L r : Int) : lright_D m (T, room, L, r, ()) = some (kRightB T room L r, ()) := by
  unfold lright_D lright_J0 kRightB
  simp only
  cases decide (1 ≤ room) <;> cases decide (room ≤ 1048576) <;> cases decide (0 ≤ T) <;> cases decide (T ≤ room) <;> cases decide (0 ≤ L) <;> cases decide (L ≤ room) <;> rfl
theorem aright_all (m : Nat) (T room L r : Int) : aRight_D m (T, room, L, r, ()) = some (kRightB T room L r, ()) := by
  unfold aRight_D aRight_J0 kRightB
  have e : decide (r ≤ (65535 : Int)) = decide (r < 65536) := by
    by_cases h : r < 65536
    · rw [dT h, dT (show r ≤ 65535 by omega)]
    · rw [dF h, dF (show ¬ r ≤ 65535 by omega)]
  simp only [e]
  cases decide (1 ≤ room) <;> cases decide (room ≤ 1048576) <;> cases decide (0 ≤ T) <;> cases decide (T ≤ room) <;> cases decide (0 ≤ L) <;> cases decide (L ≤ room) <;> rfl
theorem run_L0 (m : Nat) (nom : Int) (l : SimT) (e : Int) (s : SimS) (r : LC × LC × Int × Int × Unit) (hl : l.length ≤ 100000) : ∀ (f i : Nat) (b : Bool), i ≤ l.length → l.length - i < f →
    ∃ b', lawRun_L0 m f nom l e b (i : Int) s r = some ((nom, (l, (e, (b', ())))), (s, (r, ()))) ∧ (b' = true ↔ b = true ∧ ∀ t ∈ l.drop i, t.1 ≤ 16777216) := by
  intro f
  induction f with
  | zero => intro i b h1 h2; omega
  | succ f ih =>
    intro i b h1 h2
    rw [lawRun_L0]
    by_cases h : i < l.length
    · have hwS : Go.IntKind.wrap .i64 ((i : Int) + 1) = ((i + 1 : Nat) : Int) := by rw [kwi64 (by omega) (by omega)]; omega
      rw [dT (show (i : Int) < (l.length : Int) by omega), inT (by omega) (by omega : (i : Int) < (l.length : Nat)), toNatC, hwS, kdrop (d := (0, false, false, ())) h]
      cases b with
      | false =>
        obtain ⟨b', e1, e2⟩ := ih (i + 1) false (by omega) (by omega)
        exact ⟨b', e1, by simp [e2]⟩
      | true =>
        obtain ⟨b', e1, e2⟩ := ih (i + 1) (decide ((l.getD i (0, false, false, ())).1 ≤ 16777216)) (by omega) (by omega)
        refine ⟨b', e1, ?_⟩
        rw [e2]
        simp only [decide_eq_true_eq, true_and, List.mem_cons, forall_eq_or_imp]
    · rw [dF (show ¬ (i : Int) < (l.length : Int) by omega), List.drop_eq_nil_of_le (by omega)]
      exact ⟨b, rfl, by simp⟩
theorem kwu64 {x : Int} (h0 : 0 ≤ x) (h1 : x < 18446744073709551616) : Go.IntKind.wrap .u64 x = x := by simp [Go.IntKind.wrap, Go.IntKind.bits, Go.IntKind.signed]; omega
theorem lplay_eq (m : Nat) (T room L r got q : Int) (h : 0 ≤ T ∧ T ≤ room ∧ 1 ≤ room ∧ room ≤ 1048576 ∧ 0 ≤ L ∧ L ≤ room ∧ 0 ≤ r ∧ r < 65536) (hg : 0 ≤ got ∧ got ≤ 1048576) (hq : 0 ≤ q ∧ q ≤ 16777216) :
    lplay_D m (T, room, L, r, ()) got q = some (((T, room, kIn' room L got - (if kIn' room L got < (r + q) / 65536 then kIn' room L got else (r + q) / 65536), (r + q) % 65536, ()),
      (if kIn' room L got - (if kIn' room L got < (r + q) / 65536 then kIn' room L got else (r + q) / 65536) < T - 8 then q + 65536 else if T + 8 < kIn' room L got - (if kIn' room L got < (r + q) / 65536 then kIn' room L got else (r + q) / 65536) then q - (if 65536 < q then 65536 else q) else q),
      (if kIn' room L got < (r + q) / 65536 then kIn' room L got else (r + q) / 65536), decide (room < L + got), decide (kIn' room L got < (r + q) / 65536), ()), ()) := by
  obtain ⟨a1, a2, a3, a4, a5, a6, a7, a8⟩ := h
  unfold lplay_D
  simp only
  rw [kwi64 (x := L + got) (by omega) (by omega), kwu64 (x := r) (by omega) (by omega), kwu64 (x := q) (by omega) (by omega), kwu64 (x := r + q) (by omega) (by omega), ktd (by omega), ktm (by omega), kwu64 (x := (r + q) / 65536) (by omega) (by omega), kwi64 (x := (r + q) / 65536) (by omega) (by omega), kwi64 (x := q) (by omega) (by omega), kwi64 (x := q + 65536) (by omega) (by omega), kwi64 (x := q - 65536) (by omega) (by omega), kwi64 (x := T - 8) (by omega) (by omega), kwi64 (x := T + 8) (by omega) (by omega), kwu32 (x := (r + q) % 65536) (by omega) (by omega), kwu32 (x := q) (by omega) (by omega), kwu32 (x := q + 65536) (by omega) (by omega)]
  have feed : ∀ (X : Type) (v : Int) (A : Int → X), 0 ≤ v → v ≤ room →
      (bif decide (v < T - 8) then (bif decide (T + 8 < v) then (bif decide (q + 65536 - 65536 < (0 : Int)) then A (Go.IntKind.wrap .u32 (0 : Int)) else A (Go.IntKind.wrap .u32 (q + 65536 - 65536))) else A (q + 65536))
        else (bif decide (T + 8 < v) then (bif decide (q - 65536 < (0 : Int)) then A (Go.IntKind.wrap .u32 (0 : Int)) else A (Go.IntKind.wrap .u32 (q - 65536))) else A q)) = A (if v < T - 8 then q + 65536 else if T + 8 < v then q - (if 65536 < q then 65536 else q) else q) := by
    intro X v A h1 h2
    have z0 : Go.IntKind.wrap .u32 (0 : Int) = 0 := by decide
    by_cases c3 : v < T - 8
    · rw [dT c3, if_pos c3, dF (show ¬ T + 8 < v by omega)]; rfl
    · rw [dF c3, if_neg c3]
      by_cases c4 : T + 8 < v
      · rw [dT c4, if_pos c4]
        by_cases c5 : q - 65536 < 0
        · rw [dT c5, z0, if_neg (show ¬ 65536 < q by omega)]; simp
        · rw [dF c5, kwu32 (x := q - 65536) (by omega) (by omega)]
          by_cases c6 : 65536 < q
          · rw [if_pos c6]; rfl
          · rw [if_neg c6]; have : q = 65536 := by omega
            subst this; rfl
      · rw [dF c4, if_neg c4]; rfl
  have hI : kIn' room L got = if room < L + got then room else L + got := rfl
  rw [kwi64 (x := q + 65536 - 65536) (by omega) (by omega)]
  by_cases c1 : room < L + got
  · rw [hI, if_pos c1, dT c1]
    by_cases c2 : room < (r + q) / 65536
    · rw [if_pos c2, dT c2, kwi64 (x := room - room) (by omega) (by omega)]
      exact feed _ (room - room) (fun F => some (((T, room, room - room, (r + q) % 65536, ()), F, room, true, true, ()), ())) (by omega) (by omega)
    · rw [if_neg c2, dF c2, kwi64 (x := room - (r + q) / 65536) (by omega) (by omega)]
      exact feed _ (room - (r + q) / 65536) (fun F => some (((T, room, room - (r + q) / 65536, (r + q) % 65536, ()), F, (r + q) / 65536, true, false, ()), ())) (by omega) (by omega)
  · rw [hI, if_neg c1, dF c1]
    by_cases c2 : L + got < (r + q) / 65536
    · rw [if_pos c2, dT c2, kwi64 (x := L + got - (L + got)) (by omega) (by omega)]
      exact feed _ (L + got - (L + got)) (fun F => some (((T, room, L + got - (L + got), (r + q) % 65536, ()), F, L + got, false, true, ()), ())) (by omega) (by omega)
    · rw [if_neg c2, dF c2, kwi64 (x := L + got - (r + q) / 65536) (by omega) (by omega)]
      exact feed _ (L + got - (r + q) / 65536) (fun F => some (((T, room, L + got - (r + q) / 65536, (r + q) % 65536, ()), F, (r + q) / 65536, false, false, ()), ())) (by omega) (by omega)
theorem run_J4 {R : Type} (m : Nat) (l : List Tk) (i : Nat) (T room : Int) (x : KX) (dr fu : Int) (r : LC × LC × Int × Int × Unit) (rates : List Int) (k0 : Option R) (k1 : Int → Int → Int → SimS → List Int → Option R)
    (hi : i < l.length) (hl : l.length ≤ 200) (hk : kOk T room x) (ht : ∀ t ∈ l, 0 ≤ t.1 ∧ t.1 ≤ 16777216) (hr : rates.length = i + 2) (ha : rates.getD i 0 = x.2.2.2.1) (hb : rates.getD (i + 1) 0 = x.2.2.2.2)
    (hd : 0 ≤ dr ∧ dr ≤ 1000) (hf : 0 ≤ fu ∧ fu ≤ 1000) (n1 : r.1.1.length = l.length) (n2 : r.2.1.1.length = l.length) (hv : r.1.1.getD i 0 = kLev room (l.getD i (0, false, false, ())) x) (hs : r.2.1.1.getD i 0 = kSent x) :
    lawRun_J4 m l x.2.2.1 dr fu (i : Int) (T, room, x.1, x.2.1, ()) r rates k0 k1 =
      k1 (kSrc x) (dr + (if kDry room (l.getD i (0, false, false, ())) x = true then 1 else 0)) (fu + (if kFull room (l.getD i (0, false, false, ())) x = true then 1 else 0)) (T, room, (kNext T room (l.getD i (0, false, false, ())) x).1, (kNext T room (l.getD i (0, false, false, ())) x).2.1, ()) (rates ++ [(kNext T room (l.getD i (0, false, false, ())) x).2.2.2.2]) := by
  have htt := ht (l.getD i (0, false, false, ())) (by rw [getD_lt hi]; exact List.getElem_mem hi)
  have hgot := kGot_ok (t := l.getD i (0, false, false, ())) hk
  have hwS : Go.IntKind.wrap .i64 ((i : Int) + 1) = ((i + 1 : Nat) : Int) := by rw [kwi64 (by omega) (by omega)]; omega
  have g4 : ∀ z : Int, growOb 4 (rates.length + List.length [z]) = true := fun z => growT (by simp; omega) (by simp; omega)
  unfold lawRun_J4 lawRun_J3
  rw [inT (by omega) (by omega : (i : Int) < (rates.length : Nat)), inT (by omega) (by omega : (i : Int) < (l.length : Nat)), hwS]
  have i1 : inB ((i + 1 : Nat) : Int) rates.length = true := inT (by omega) (by omega)
  have i2 : inB (i : Int) r.1.1.length = true := inT (by omega) (by omega)
  have i3 : inB (i : Int) r.2.1.1.length = true := inT (by omega) (by omega)
  simp only [toNatC, i1, i2, i3, g4, ha, hb, hv, hs, dT (show i < rates.length by omega), dT (show i + 1 < rates.length by omega), cond_true]
  generalize l.getD i (0, false, false, ()) = t at htt hgot ⊢
  obtain ⟨q, lo, de, u⟩ := t
  obtain ⟨L, rr, s, a, b⟩ := x
  have hk' := hk
  simp only [kOk] at hk'
  obtain ⟨a1, a2, a3, a4, a5, a6, a7, a8, a9, b1, b2, b3, b4, b5⟩ := hk'
  simp only at htt
  obtain ⟨q0, q1⟩ := htt
  have hP := fun got (hg : 0 ≤ got ∧ got ≤ 1048576) => lplay_eq m T room L rr got q ⟨a1, a2, a3, a4, a5, a6, a7, a8⟩ hg ⟨q0, q1⟩
  have w1 : 0 ≤ (if 16777216 < a then (16777216 : Int) else a) ∧ (if 16777216 < a then (16777216 : Int) else a) ≤ 16777216 := by split <;> omega
  have hin : ∀ got, kIn' room L got = if room < L + got then room else L + got := fun got => rfl
  have hd1 : Go.IntKind.wrap .i64 (dr + 1) = dr + 1 := kwi64 (by omega) (by omega)
  have hf1 : Go.IntKind.wrap .i64 (fu + 1) = fu + 1 := kwi64 (by omega) (by omega)
  have hse : ∀ w : Int, 0 ≤ w → w ≤ 16777216 → Go.IntKind.wrap .i64 (Go.IntKind.wrap .u32 (Int.tdiv (Go.IntKind.wrap .u32 (s + w)) (65536 : Int))) = (s + w) / 65536 ∧ Int.tmod (Go.IntKind.wrap .u32 (s + w)) 65536 = (s + w) % 65536 := fun w h0 h1 => by
    rw [kwu32 (x := s + w) (by omega) (by omega), ktd (by omega), ktm (by omega), kwu32 (x := (s + w) / 65536) (by omega) (by omega), kwi64 (by omega) (by omega)]
    exact ⟨rfl, rfl⟩
  clear hv hs ha hb hk
  have key : ∀ (P Q : Prop) [Decidable P] [Decidable Q] (F : Int → Int → Option R), (bif decide P then (bif decide Q then F (Go.IntKind.wrap .i64 (dr + 1)) (Go.IntKind.wrap .i64 (fu + 1)) else F dr (Go.IntKind.wrap .i64 (fu + 1))) else (bif decide Q then F (Go.IntKind.wrap .i64 (dr + 1)) fu else F dr fu)) = F (dr + if decide Q = true then 1 else 0) (fu + if decide P = true then 1 else 0) := by
    intro P Q _ _ F
    rw [hd1, hf1]
    by_cases hp : P <;> by_cases hq : Q <;> simp [hp, hq]
  by_cases c : 16777216 < a
  · have e1 := (hse 16777216 (by omega) (by omega)).1
    have e2 := (hse 16777216 (by omega) (by omega)).2
    have p0 := hP 0 (by omega)
    have p1 := hP ((s + 16777216) / 65536) (by omega)
    simp only [c, decide_true, cond_true, e1, e2, p0, p1, bnd_some, kNext, kDry, kFull, kLev, kPl, kIn, kGot, kSent, kSrc, kWant, kRest, kFeed, hin, if_true]
    cases lo <;> cases de <;> simp only [cond_true, cond_false, if_true, Bool.false_eq_true, if_false]
    all_goals exact key _ _ (fun d f => k1 _ d f _ _)
  · have e1 := (hse a (by omega) (by omega)).1
    have e2 := (hse a (by omega) (by omega)).2
    have p0 := hP 0 (by omega)
    have p1 := hP ((s + a) / 65536) (by omega)
    simp only [c, decide_false, cond_false, cond_true, e1, e2, p0, p1, bnd_some, kNext, kDry, kFull, kLev, kPl, kIn, kGot, kSent, kSrc, kWant, kRest, kFeed, hin, if_false]
    cases lo <;> cases de <;> simp only [cond_true, cond_false, if_true, Bool.false_eq_true, if_false]
    all_goals exact key _ _ (fun d f => k1 _ d f _ _)
theorem kRun_pre (T room : Int) : ∀ (l : List Tk) (x : KX) (g : KG), ∃ ys zs, (kRun T room l x g).2.2.2.2.1 = g.2.2.2.2.1 ++ ys ∧ (kRun T room l x g).2.2.2.2.2 = g.2.2.2.2.2 ++ zs
  | [], x, g => ⟨[], [], by simp [kRun], by simp [kRun]⟩
  | t :: l, x, g => by
    obtain ⟨ys, zs, h1, h2⟩ := kRun_pre T room l (kNext T room t x) (g.1, g.2.1, g.2.2.1 + (if kDry room t x = true then 1 else 0), g.2.2.2.1 + (if kFull room t x = true then 1 else 0), g.2.2.2.2.1 ++ [kLev room t x], g.2.2.2.2.2 ++ [kSent x])
    simp only [kRun]
    exact ⟨kLev room t x :: ys, kSent x :: zs, by rw [h1]; simp, by rw [h2]; simp⟩
theorem getD_mid (a b : List Int) (y : Int) (i : Nat) (h : a.length = i) : (a ++ [y] ++ b).getD i 0 = y := by
  subst h
  simp [List.getD_eq_getElem?_getD]
theorem run_L1 (m c : Nat) (l : List Tk) (T room : Int) (hl : l.length ≤ 200) (ht : ∀ t ∈ l, 0 ≤ t.1 ∧ t.1 ≤ 16777216) : ∀ (f i : Nat) (x : KX) (g : KG) (rates : List Int), i ≤ l.length → l.length - i < f → kOk T room x → g.2.2.2.2.1.length = i → g.2.2.2.2.2.length = i → (0 ≤ g.2.2.1 ∧ g.2.2.1 ≤ i) → (0 ≤ g.2.2.2.1 ∧ g.2.2.2.1 ≤ i) →
    rates.length = i + 2 → rates.getD i 0 = x.2.2.2.1 → rates.getD (i + 1) 0 = x.2.2.2.2 →
    ∀ r : LC × LC × Int × Int × Unit, r = (((kRun T room (l.drop i) x g).2.2.2.2.1, c), ((kRun T room (l.drop i) x g).2.2.2.2.2, c), (kRun T room (l.drop i) x g).2.2.1, (kRun T room (l.drop i) x g).2.2.2.1, ()) →
    lawRun_L1 m f l x.2.2.1 g.2.2.1 g.2.2.2.1 (i : Int) (T, room, x.1, x.2.1, ()) r rates = some (.inr (((kRun T room (l.drop i) x g).2.2.1, ((kRun T room (l.drop i) x g).2.2.2.1, ())), (r, ()))) := by
  intro f
  induction f with
  | zero => intro i x g rates h1 h2; omega
  | succ f ih =>
    intro i x g rates h1 h2 hk g1 g2 g3 g4 r1 r2 r3 r hr
    rw [lawRun_L1]
    by_cases h : i < l.length
    · have hwS : Go.IntKind.wrap .i64 ((i : Int) + 1) = ((i + 1 : Nat) : Int) := by rw [kwi64 (by omega) (by omega)]; omega
      have htt := ht (l.getD i (0, false, false, ())) (by rw [getD_lt h]; exact List.getElem_mem h)
      rw [dT (show (i : Int) < (l.length : Int) by omega), hwS]
      have hd := kdrop (d := ((0, false, false, ()) : Tk)) h
      rw [hd] at hr ⊢
      simp only [kRun] at hr ⊢
      obtain ⟨ys, zs, p1, p2⟩ := kRun_pre T room (l.drop (i + 1)) (kNext T room (l.getD i (0, false, false, ())) x) (g.1, g.2.1, g.2.2.1 + (if kDry room (l.getD i (0, false, false, ())) x = true then 1 else 0), g.2.2.2.1 + (if kFull room (l.getD i (0, false, false, ())) x = true then 1 else 0), g.2.2.2.2.1 ++ [kLev room (l.getD i (0, false, false, ())) x], g.2.2.2.2.2 ++ [kSent x])
      have hlen := kRun_len T room (l.drop (i + 1)) (kNext T room (l.getD i (0, false, false, ())) x) (g.1, g.2.1, g.2.2.1 + (if kDry room (l.getD i (0, false, false, ())) x = true then 1 else 0), g.2.2.2.1 + (if kFull room (l.getD i (0, false, false, ())) x = true then 1 else 0), g.2.2.2.2.1 ++ [kLev room (l.getD i (0, false, false, ())) x], g.2.2.2.2.2 ++ [kSent x])
      simp only [List.length_append, List.length_singleton, List.length_drop] at hlen
      simp only [cond_true]
      rw [run_J4 m l i T room x g.2.2.1 g.2.2.2.1 r rates _ _ h hl hk ht r1 r2 r3 ⟨g3.1, by omega⟩ ⟨g4.1, by omega⟩ (by rw [hr]; simp only; omega) (by rw [hr]; simp only; omega) (by rw [hr]; simp only; rw [p1]; exact getD_mid _ _ _ i g1) (by rw [hr]; simp only; rw [p2]; exact getD_mid _ _ _ i g2)]
      have hw : (kNext T room (l.getD i (0, false, false, ())) x).2.2.2.1 = x.2.2.2.2 := rfl
      refine ih (i + 1) _ _ _ (by omega) (by omega) (kOk_next hk htt.1 htt.2) (by simp; omega) (by simp; omega) ?_ ?_ (by simp; omega) ?_ ?_ r hr
      · simp only; split <;> omega
      · simp only; split <;> omega
      · rw [hw, ← r3]
        simp only [List.getD_eq_getElem?_getD, List.getElem?_append_left (show i + 1 < rates.length by omega)]
      · have : rates.length = i + 1 + 1 := by omega
        simp [List.getD_eq_getElem?_getD, List.getElem?_append_right (show rates.length ≤ i + 1 + 1 by omega), this]
    · rw [dF (show ¬ (i : Int) < (l.length : Int) by omega)]
      have hd : l.drop i = [] := List.drop_eq_nil_of_le (by omega)
      rw [hd]
      rfl
theorem lives42_big : lives42_D 70000 = some (true, ()) := by kernel_rfl
theorem lawRun_true (s : SimS) (nom : Int) (l : List Tk) (hr : 0 ≤ s.2.2.2.1) (hn : 0 ≤ nom) (ht : ∀ t ∈ l, 0 ≤ t.1) : lawRun_D 70000 s nom l = some (true, ()) := by
  obtain ⟨T, room, L, r, u⟩ := s
  simp only at hr
  unfold lawRun_D
  by_cases h200 : 200 < l.length
  · rw [dT (show (200 : Int) < (l.length : Int) by omega), lives42_big]; rfl
  rw [dF (show ¬ (200 : Int) < (l.length : Int) by omega)]
  simp only [cond_false]
  have bad : ∀ (e : LC × LC × Int × Int × Unit) (b : Bool), e.1.1 = [] → e.2.1.1 = [] → b = false →
      lawRun_J1 70000 1 e (fun d216 => some ((d216, ()))) = some (true, ()) := by
    intro e b h1 h2 _
    unfold lawRun_J1
    rw [h1, h2, lives42_big]
    rfl
  by_cases hR : kRightB T room L r = true ∧ nom ≤ 16777216
  · have hR' := hR.1
    unfold kRightB at hR'
    simp only [Bool.and_eq_true, decide_eq_true_eq] at hR'
    obtain ⟨q1, q2, q3, q4, q5, q6, q7⟩ := hR'
    by_cases hall : ∀ t ∈ l, t.1 ≤ 16777216
    · have ht' : ∀ t ∈ l, 0 ≤ t.1 ∧ t.1 ≤ 16777216 := fun t h => ⟨ht t h, hall t h⟩
      have hk : kOk T room (L, r, 0, nom, nom) := by simp only [kOk]; omega
      rw [simc_eq 70000 l nom T room L r (by omega) (by omega) ⟨hn, hR.2⟩ ht' hk]
      simp only [bnd_some]
      unfold lawRun_J0
      rw [lright_all, hR.1, dT hR.2]
      simp only [bnd_some, cond_true]
      obtain ⟨b', e1, e2⟩ := run_L0 70000 nom l 0 (T, room, L, r, ()) (((kRun T room l (L, r, 0, nom, nom) (0, 0, 0, 0, [], [])).2.2.2.2.1, l.length), ((kRun T room l (L, r, 0, nom, nom) (0, 0, 0, 0, [], [])).2.2.2.2.2, l.length), (kRun T room l (L, r, 0, nom, nom) (0, 0, 0, 0, [], [])).2.2.1, (kRun T room l (L, r, 0, nom, nom) (0, 0, 0, 0, [], [])).2.2.2.1, ()) (by omega) 70000 0 true (by omega) (by omega)
      have hb : b' = true := e2.2 ⟨rfl, by simpa using hall⟩
      subst hb
      have e1' : lawRun_L0 70000 70000 nom l 0 true (0 : Int) (T, room, L, r, ()) (((kRun T room l (L, r, 0, nom, nom) (0, 0, 0, 0, [], [])).2.2.2.2.1, l.length), ((kRun T room l (L, r, 0, nom, nom) (0, 0, 0, 0, [], [])).2.2.2.2.2, l.length), (kRun T room l (L, r, 0, nom, nom) (0, 0, 0, 0, [], [])).2.2.1, (kRun T room l (L, r, 0, nom, nom) (0, 0, 0, 0, [], [])).2.2.2.1, ()) = _ := e1
      rw [e1']
      simp only [bnd_some, Bool.not_true, cond_false]
      have hlen := kRun_len T room l (L, r, 0, nom, nom) (0, 0, 0, 0, [], [])
      simp only [List.length_nil, Nat.zero_add] at hlen
      unfold lawRun_J2
      simp only [decide_true, Bool.not_true, cond_false, hlen.1, hlen.2]
      have e3 : lawRun_L1 70000 70000 l 0 0 0 (0 : Int) (T, room, L, r, ()) (((kRun T room l (L, r, 0, nom, nom) (0, 0, 0, 0, [], [])).2.2.2.2.1, l.length), ((kRun T room l (L, r, 0, nom, nom) (0, 0, 0, 0, [], [])).2.2.2.2.2, l.length), (kRun T room l (L, r, 0, nom, nom) (0, 0, 0, 0, [], [])).2.2.1, (kRun T room l (L, r, 0, nom, nom) (0, 0, 0, 0, [], [])).2.2.2.1, ()) [nom, nom] = _ :=
        run_L1 70000 l.length l T room (by omega) ht' 70000 0 (L, r, 0, nom, nom) (0, 0, 0, 0, [], []) [nom, nom] (by omega) (by omega) hk rfl rfl (by simp) (by simp) rfl rfl rfl _ rfl
      rw [e3]
      simp only [bnd_some, sumK_r, List.drop_zero]
      unfold lawRun_J5
      simp only [decide_true, cond_true, lives42_big, bnd_some]
    · -- a rate that is too great
      have hex : ∃ t ∈ l.drop 0, ¬ t.1 ≤ 16777216 := by
        rw [List.drop_zero]
        exact Classical.byContradiction fun hne => hall fun t ht2 => Classical.byContradiction fun h => hne ⟨t, ht2, h⟩
      have e0 : sim_L0 70000 70000 nom l l (l.length : Int) (0 : Int) (T, room, L, r, ()) 0 0 = some (.inl ((1, ()), ((0, (0, ())), ()))) := sim_L0_bad 70000 nom l l _ (by omega) 70000 0 (by omega) (by omega) hex
      have es : simc_D 70000 (T, room, L, r, ()) nom l = some (((([], 0), ([], 0), 0, 0, ()), 1, ()), ()) := by
        unfold simc_D sim_J0
        rw [aright_all, hR.1, dF (show ¬ (16777216 : Int) < nom by omega), dF (show ¬ (65536 : Int) < (l.length : Int) by omega), e0]
        rfl
      rw [es]
      simp only [bnd_some]
      unfold lawRun_J0
      rw [lright_all, hR.1, dT hR.2]
      simp only [bnd_some, cond_true]
      obtain ⟨b', e1, e2⟩ := run_L0 70000 nom l 1 (T, room, L, r, ()) (([], 0), ([], 0), 0, 0, ()) (by omega) 70000 0 true (by omega) (by omega)
      have hb : b' = false := by
        cases b' with
        | false => rfl
        | true =>
          obtain ⟨t, h1, h2⟩ := hex
          exact absurd ((e2.1 rfl).2 t h1) h2
      subst hb
      have e1' : lawRun_L0 70000 70000 nom l 1 true (0 : Int) (T, room, L, r, ()) (([], 0), ([], 0), 0, 0, ()) = _ := e1
      rw [e1']
      simp only [bnd_some, Bool.not_false, cond_true]
      exact bad _ false rfl rfl rfl
  · have es : simc_D 70000 (T, room, L, r, ()) nom l = some (((([], 0), ([], 0), 0, 0, ()), 1, ()), ()) := by
      unfold simc_D sim_J0
      rw [aright_all]
      by_cases h1 : kRightB T room L r = true
      · have : ¬ nom ≤ 16777216 := fun h => hR ⟨h1, h⟩
        rw [h1, dT (show (16777216 : Int) < nom by omega)]; rfl
      · have : kRightB T room L r = false := by simpa using h1
        rw [this]; rfl
    rw [es]
    simp only [bnd_some]
    unfold lawRun_J0
    rw [lright_all]
    simp only [bnd_some]
    have hc : (kRightB T room L r && decide (nom ≤ 16777216)) = false := by
      by_cases h1 : kRightB T room L r = true
      · have : ¬ nom ≤ 16777216 := fun h => hR ⟨h1, h⟩
        rw [h1, dF this]; rfl
      · have : kRightB T room L r = false := by simpa using h1
        rw [this]; rfl
    have go : ∀ b : Bool, b = false → (bnd (lawRun_L0 70000 70000 nom l 1 b (0 : Int) (T, room, L, r, ()) (([], 0), ([], 0), 0, 0, ())) fun y180 => (bif !y180.fst.snd.snd.snd.fst then (lawRun_J1 70000 (y180.fst.snd.snd.fst) (y180.snd.snd.fst) (fun d216 => some ((d216, ())))) else (lawRun_J2 70000 (y180.fst.fst) (y180.fst.snd.fst) (y180.fst.snd.snd.fst) (y180.snd.fst) (y180.snd.snd.fst) (fun d293 => (bif d293 then some ((false, ())) else (bnd (lawRun_L1 70000 70000 (y180.fst.snd.fst) ((0 : Int)) ((0 : Int)) ((0 : Int)) ((0 : Int)) (y180.snd.fst) (y180.snd.snd.fst) ([y180.fst.fst, y180.fst.fst])) fun y3331 => (sumK y3331 (fun a3332 => some (a3332.fst)) (fun b3333 => (lawRun_J5 70000 (b3333.fst.fst) (b3333.fst.snd.fst) (b3333.snd.fst) (fun d3363 => some ((d3363, ())))))))))))) = some (true, ()) := by
      intro b hb
      subst hb
      obtain ⟨b', e1, e2⟩ := run_L0 70000 nom l 1 (T, room, L, r, ()) (([], 0), ([], 0), 0, 0, ()) (by omega) 70000 0 false (by omega) (by omega)
      have hb : b' = false := by
        cases b' with
        | false => rfl
        | true => exact absurd (e2.1 rfl).1 (by simp)
      subst hb
      have e1' : lawRun_L0 70000 70000 nom l 1 false (0 : Int) (T, room, L, r, ()) (([], 0), ([], 0), 0, 0, ()) = _ := e1
      rw [e1']
      simp only [bnd_some, Bool.not_false, cond_true]
      exact bad _ false rfl rfl rfl
    cases h1 : kRightB T room L r with
    | true =>
      rw [h1] at hc
      simp only [Bool.true_and] at hc
      simp only [cond_true]
      exact go _ hc
    | false =>
      simp only [cond_false]
      exact go _ rfl
end Go.Proofs.Ytmjocalgekfodaa

