/-
  The statements AudiosRun and AudiosKeep: a run, frame by frame, and how near the level stays to its target.
  Conditions: none.
-/
import Derived.Test.YtmjocalgekfodaaC9z
import Derived.Test.YtmjocalgekfodaaKF
namespace Go.Proofs.Ytmjocalgekfodaa
set_option linter.unusedVariables false
set_option linter.unusedSimpArgs false
set_option maxRecDepth 100000
set_option maxHeartbeats 2000000

abbrev Tk := Int × Bool × Bool × Unit
abbrev KX := Int × Int × Int × Int × Int
def kSent (x : KX) : Int := (x.2.2.1 + if 16777216 < x.2.2.2.1 then 16777216 else x.2.2.2.1) / 65536
def kSrc (x : KX) : Int := (x.2.2.1 + if 16777216 < x.2.2.2.1 then 16777216 else x.2.2.2.1) % 65536
def kGot (t : Tk) (x : KX) : Int := if t.2.1 = true then 0 else kSent x
def kIn (room : Int) (t : Tk) (x : KX) : Int := if room < x.1 + kGot t x then room else x.1 + kGot t x
def kWant (t : Tk) (x : KX) : Int := (x.2.1 + t.1) / 65536
def kRest (t : Tk) (x : KX) : Int := (x.2.1 + t.1) % 65536
def kPl (room : Int) (t : Tk) (x : KX) : Int := if kIn room t x < kWant t x then kIn room t x else kWant t x
def kLev (room : Int) (t : Tk) (x : KX) : Int := kIn room t x - kPl room t x
def kFeed (T room : Int) (t : Tk) (x : KX) : Int :=
  if kLev room t x < T - 8 then t.1 + 65536 else if T + 8 < kLev room t x then t.1 - (if 65536 < t.1 then 65536 else t.1) else t.1
def kNext (T room : Int) (t : Tk) (x : KX) : KX := (kLev room t x, kRest t x, kSrc x, x.2.2.2.2, if t.2.2.1 = true then x.2.2.2.2 else kFeed T room t x)
def kFull (room : Int) (t : Tk) (x : KX) : Bool := decide (room < x.1 + kGot t x)
def kDry (room : Int) (t : Tk) (x : KX) : Bool := decide (kIn room t x < kWant t x)
def kOk (T room : Int) (x : KX) : Prop := 0 ≤ T ∧ T ≤ room ∧ 1 ≤ room ∧ room ≤ 1048576 ∧ 0 ≤ x.1 ∧ x.1 ≤ room ∧ 0 ≤ x.2.1 ∧ x.2.1 < 65536 ∧ 0 ≤ x.2.2.1 ∧ x.2.2.1 < 65536 ∧ 0 ≤ x.2.2.2.1 ∧ x.2.2.2.1 ≤ 16842752 ∧ 0 ≤ x.2.2.2.2 ∧ x.2.2.2.2 ≤ 16842752
theorem kOk_next {T room : Int} {t : Tk} {x : KX} (h : kOk T room x) (h0 : 0 ≤ t.1) (h1 : t.1 ≤ 16777216) : kOk T room (kNext T room t x) := by
  obtain ⟨L, r, s, a, b⟩ := x
  obtain ⟨q, l, d, u⟩ := t
  simp only [kOk, kNext, kLev, kPl, kIn, kGot, kSent, kSrc, kWant, kRest, kFeed] at *
  obtain ⟨a1, a2, a3, a4, a5, a6, a7, a8, a9, b1, b2, b3, b4, b5⟩ := h
  have hs : 0 ≤ (s + if 16777216 < a then 16777216 else a) := by split <;> omega
  generalize (s + if 16777216 < a then 16777216 else a) = S at hs ⊢
  cases l <;> cases d <;> simp only [if_true, Bool.false_eq_true, if_false] <;> refine ⟨a1, a2, a3, a4, ?_, ?_, ?_, ?_, ?_, ?_, b4, b5, ?_, ?_⟩ <;> (repeat' split) <;> omega
abbrev KG := Int × Int × Int × Int × List Int × List Int
def kRun (T room : Int) : List Tk → KX → KG → KG
  | [], _, g => g
  | t :: l, x, g => kRun T room l (kNext T room t x) (g.1, g.2.1, g.2.2.1 + (if kDry room t x = true then 1 else 0), g.2.2.2.1 + (if kFull room t x = true then 1 else 0), g.2.2.2.2.1 ++ [kLev room t x], g.2.2.2.2.2 ++ [kSent x])
def kNear (n T room r0 : Int) (x : KX) : Prop := n - 65536 ≤ x.2.2.2.1 ∧ x.2.2.2.1 ≤ n + 65536 ∧ n - 65536 ≤ x.2.2.2.2 ∧ x.2.2.2.2 ≤ n + 65536 ∧ 65536 * x.1 + x.2.2.1 - x.2.1 + x.2.2.2.1 + x.2.2.2.2 = 65536 * T - r0 + 2 * n
theorem near_step {n T room r0 : Int} {t : Tk} {x : KX} (hn : 131072 ≤ n) (hn2 : n < 3145728) (hT : 16 ≤ T) (hr : T + n / 65536 + 20 ≤ room) (h0 : 0 ≤ r0) (h1 : r0 < 65536) (hk : kOk T room x) (hx : kNear n T room r0 x) (ht : n - 65536 ≤ t.1 ∧ t.1 ≤ n + 65536) (hl : t.2.1 = false) (hd : t.2.2.1 = false) :
    kNear n T room r0 (kNext T room t x) ∧ kDry room t x = false ∧ kFull room t x = false ∧ T - 8 ≤ kLev room t x ∧ kLev room t x ≤ T + 8 := by
  obtain ⟨L, r, s, a, b⟩ := x
  obtain ⟨q, l, d, u⟩ := t
  simp only at hl hd
  subst hl hd
  simp only [kOk, kNear, kNext, kDry, kFull, kLev, kPl, kIn, kGot, kSent, kSrc, kWant, kRest, kFeed, Bool.false_eq_true, if_false, decide_eq_false_iff_not] at *
  obtain ⟨a1, a2, a3, a4, a5, a6, a7, a8, a9, b1, b2, b3, b4, b5⟩ := hk
  obtain ⟨c1, c2, c3, c4, c5⟩ := hx
  have hm : (if 16777216 < a then (16777216 : Int) else a) = a := if_neg (by omega)
  rw [hm]
  have e1 : ¬ room < L + (s + a) / 65536 := by omega
  rw [if_neg e1]
  have e2 : ¬ L + (s + a) / 65536 < (r + q) / 65536 := by omega
  rw [if_neg e2]
  have e3 : ¬ L + (s + a) / 65536 - (r + q) / 65536 < T - 8 := by omega
  have e4 : ¬ T + 8 < L + (s + a) / 65536 - (r + q) / 65536 := by omega
  rw [if_neg e3, if_neg e4]
  refine ⟨⟨c3, c4, by omega, by omega, by omega⟩, e2, e1, by omega, by omega⟩
def kLos (n T room k : Int) (x : KX) : Prop :=
  n - 131072 ≤ x.2.2.2.1 ∧ x.2.2.2.1 ≤ n + 131072 ∧ n - 131072 ≤ x.2.2.2.2 ∧ x.2.2.2.2 ≤ n + 131072 ∧
  -- how much is wanting, in 65536ths of a sample
  (65536 * T + 2 * n - (65536 * x.1 + x.2.2.1 - x.2.1 + x.2.2.2.1 + x.2.2.2.2) ≤ 65536 * 13 ∨ 65536 * T + 2 * n - (65536 * x.1 + x.2.2.1 - x.2.1 + x.2.2.2.1 + x.2.2.2.2) ≤ 65536 * (n / 65536 + 20 - k)) ∧
  (65536 * T + 2 * n - (65536 * x.1 + x.2.2.1 - x.2.1 + x.2.2.2.1 + x.2.2.2.2) ≥ - (65536 * 13) ∨ 65536 * T + 2 * n - (65536 * x.1 + x.2.2.1 - x.2.1 + x.2.2.2.1 + x.2.2.2.2) ≥ - (65536 * (17 - k)))
theorem los_lin {T M k D D' X : Int} {q : Int} (hk0 : 0 ≤ k) (hM : 2 ≤ M) (hX : X ≤ D + 262143 ∧ D - 262143 ≤ X)
    (h1 : D ≤ 65536 * 13 ∨ D ≤ 65536 * (M + 20 - k)) (h2 : D ≥ -(65536 * 13) ∨ D ≥ -(65536 * (17 - k)))
    (hD : (65536 * 8 < X ∧ D' = D - 65536) ∨ (X < -(65536 * 8) ∧ D' = D + 65536) ∨ (-(65536 * 8) ≤ X ∧ X ≤ 65536 * 8 ∧ D' = D)) :
    (D' ≤ 65536 * 13 ∨ D' ≤ 65536 * (M + 20 - (k + 1))) ∧ (D' ≥ -(65536 * 13) ∨ D' ≥ -(65536 * (17 - (k + 1)))) := by
  obtain ⟨x1, x2⟩ := hX
  rcases hD with ⟨y, rfl⟩ | ⟨y, rfl⟩ | ⟨y, z, rfl⟩
  · exact ⟨by rcases h1 with h1 | h1; exact .inl (by omega); exact .inr (by omega), .inl (by omega)⟩
  · exact ⟨.inl (by omega), by rcases h2 with h2 | h2; exact .inl (by omega); exact .inr (by omega)⟩
  · exact ⟨.inl (by omega), .inl (by omega)⟩
theorem los_e1 {L S1 s s' a b r n M T room : Int} (h1 : 65536 * S1 + s' = s + a) (h2 : 0 ≤ s') (h3 : 65536 * T + 2 * n - (65536 * L + s - r + a + b) ≥ - (65536 * 17)) (h4 : r < 65536) (h5 : n - 131072 ≤ b) (h6 : n ≤ 65536 * M + 65535) (h7 : T + M + 60 ≤ room) : ¬ room < L + S1 := by omega
theorem los_e2 {L S1 s s' a b r r' q W n M T : Int} (h1 : 65536 * S1 + s' = s + a) (h2 : s' < 65536) (h3 : 65536 * W + r' = r + q) (h4 : 0 ≤ r') (h5 : 65536 * T + 2 * n - (65536 * L + s - r + a + b) ≤ 65536 * (M + 20)) (h6 : b ≤ n + 131072) (h7 : q ≤ n + 65536) (h8 : 57 + M ≤ T) : ¬ L + S1 < W := by omega
theorem los_e5 {q n : Int} (h1 : 131072 ≤ n) (h2 : n - 65536 ≤ q) : (if 65536 < q then (65536 : Int) else q) = 65536 := by split <;> omega
theorem los_X {L S1 s s' a b r r' q W n T : Int} (h1 : 65536 * S1 + s' = s + a) (h2 : 0 ≤ s' ∧ s' < 65536) (h3 : 65536 * W + r' = r + q) (h4 : 0 ≤ r' ∧ r' < 65536) (h5 : n - 131072 ≤ b) (h6 : b ≤ n + 131072) (h7 : n - 65536 ≤ q) (h8 : q ≤ n + 65536) :
    65536 * (T - (L + S1 - W)) ≤ 65536 * T + 2 * n - (65536 * L + s - r + a + b) + 262143 ∧ 65536 * T + 2 * n - (65536 * L + s - r + a + b) - 262143 ≤ 65536 * (T - (L + S1 - W)) := by omega
theorem los_d {L S1 s s' a b r r' q W n T : Int} (h1 : 65536 * S1 + s' = s + a) (h3 : 65536 * W + r' = r + q) : 65536 * T + 2 * n - (65536 * (L + S1 - W) + s' - r' + b + (q + 65536)) = 65536 * T + 2 * n - (65536 * L + s - r + a + b) - 65536 := by omega
theorem los_d2 {L S1 s s' a b r r' q W n T : Int} (h1 : 65536 * S1 + s' = s + a) (h3 : 65536 * W + r' = r + q) : 65536 * T + 2 * n - (65536 * (L + S1 - W) + s' - r' + b + (q - 65536)) = 65536 * T + 2 * n - (65536 * L + s - r + a + b) + 65536 := by omega
theorem los_d3 {L S1 s s' a b r r' q W n T : Int} (h1 : 65536 * S1 + s' = s + a) (h3 : 65536 * W + r' = r + q) : 65536 * T + 2 * n - (65536 * (L + S1 - W) + s' - r' + b + q) = 65536 * T + 2 * n - (65536 * L + s - r + a + b) := by omega
theorem los_step {n T room k : Int} {t : Tk} {x : KX} (hn : 131072 ≤ n) (hn2 : n < 3145728) (hT : 57 + n / 65536 ≤ T) (hr : T + n / 65536 + 60 ≤ room) (hk0 : 0 ≤ k) (hk : kOk T room x) (hx : kLos n T room k x) (ht : n - 65536 ≤ t.1 ∧ t.1 ≤ n + 65536) (hl : t.2.1 = false) (hd : t.2.2.1 = false) :
    kLos n T room (k + 1) (kNext T room t x) ∧ kDry room t x = false ∧ kFull room t x = false := by
  obtain ⟨L, r, s, a, b⟩ := x
  obtain ⟨q, l, d, u⟩ := t
  simp only at hl hd
  subst hl hd
  simp only [kOk, kLos, kNext, kDry, kFull, kLev, kPl, kIn, kGot, kSent, kSrc, kWant, kRest, kFeed, Bool.false_eq_true, if_false, decide_eq_false_iff_not] at *
  obtain ⟨a1, a2, a3, a4, a5, a6, a7, a8, a9, b1, b2, b3, b4, b5⟩ := hk
  obtain ⟨c1, c2, c3, c4, c5, c6⟩ := hx
  have hM : 2 ≤ n / 65536 := by omega
  have hMn : 65536 * (n / 65536) ≤ n ∧ n ≤ 65536 * (n / 65536) + 65535 := by omega
  generalize hMM : n / 65536 = M at *
  have hm : (if 16777216 < a then (16777216 : Int) else a) = a := if_neg (by omega)
  rw [hm]
  obtain ⟨S1, hS1⟩ : ∃ S1, S1 = (s + a) / 65536 := ⟨_, rfl⟩
  obtain ⟨s', hs'⟩ : ∃ s', s' = (s + a) % 65536 := ⟨_, rfl⟩
  obtain ⟨W, hW⟩ : ∃ W, W = (r + q) / 65536 := ⟨_, rfl⟩
  obtain ⟨r', hr'⟩ : ∃ r', r' = (r + q) % 65536 := ⟨_, rfl⟩
  rw [← hS1, ← hs', ← hW, ← hr']
  have q1 : 65536 * S1 + s' = s + a ∧ 0 ≤ s' ∧ s' < 65536 := by omega
  have q2 : 65536 * W + r' = r + q ∧ 0 ≤ r' ∧ r' < 65536 := by omega
  clear hS1 hs' hW hr'
  have hD1 : 65536 * T + 2 * n - (65536 * L + s - r + a + b) ≤ 65536 * (M + 20) := by rcases c5 with h | h <;> omega
  have hD2 : 65536 * T + 2 * n - (65536 * L + s - r + a + b) ≥ - (65536 * 17) := by rcases c6 with h | h <;> omega
  have e1 : ¬ room < L + S1 := los_e1 q1.1 q1.2.1 hD2 a8 c3 hMn.2 hr
  rw [if_neg e1]
  have e2 : ¬ L + S1 < W := los_e2 q1.1 q1.2.2 q2.1 q2.2.1 hD1 c4 ht.2 hT
  rw [if_neg e2]
  have e5 : (if 65536 < q then (65536 : Int) else q) = 65536 := los_e5 hn ht.1
  rw [e5]
  clear hD1 hD2 hMM
  have key := fun D' => los_lin (T := T) (q := q) (M := M) (k := k) (D' := D') (D := 65536 * T + 2 * n - (65536 * L + s - r + a + b)) (X := 65536 * (T - (L + S1 - W))) hk0 hM (los_X q1.1 q1.2 q2.1 q2.2 c3 c4 ht.1 ht.2) c5 c6
  refine ⟨?_, e2, e1⟩
  obtain ⟨t1, t2⟩ := ht
  obtain ⟨q3, _⟩ := q1
  obtain ⟨q4, _⟩ := q2
  clear c5 c6 e1 e2 e5 hMn hm a1 a2 a3 a4 a5 a6 a7 a8 a9 b1 b2 b3 b4 b5 hM hT hr hk0 hn hn2 c1 c2
  split
  · rename_i h1
    refine ⟨c3, c4, by omega, by omega, ?_⟩
    exact key _ (.inl ⟨by clear key; omega, los_d q3 q4⟩)
  · rename_i h1
    split
    · rename_i h2
      refine ⟨c3, c4, by omega, by omega, ?_⟩
      exact key _ (.inr (.inl ⟨by clear key; omega, los_d2 q3 q4⟩))
    · rename_i h2
      refine ⟨c3, c4, by omega, by omega, ?_⟩
      exact key _ (.inr (.inr ⟨by clear key; omega, by clear key; omega, los_d3 q3 q4⟩))
theorem los_loss {n T room k : Int} {t : Tk} {x : KX} (hn : 131072 ≤ n) (hn2 : n < 3145728) (hT : 57 + n / 65536 ≤ T) (hr : T + n / 65536 + 60 ≤ room) (hk0 : 2 * (n / 65536) + 60 ≤ k) (hk : kOk T room x) (hx : kLos n T room k x) (ht : n - 65536 ≤ t.1 ∧ t.1 ≤ n + 65536) :
    kLos n T room 0 (kNext T room t x) ∧ kDry room t x = false ∧ kFull room t x = false := by
  obtain ⟨L, r, s, a, b⟩ := x
  obtain ⟨q, l, d, u⟩ := t
  simp only [kOk, kLos, kNext, kDry, kFull, kLev, kPl, kIn, kGot, kSent, kSrc, kWant, kRest, kFeed, Bool.false_eq_true, if_false, decide_eq_false_iff_not] at *
  obtain ⟨a1, a2, a3, a4, a5, a6, a7, a8, a9, b1, b2, b3, b4, b5⟩ := hk
  obtain ⟨c1, c2, c3, c4, c5, c6⟩ := hx
  have d1 : 65536 * T + 2 * n - (65536 * L + s - r + a + b) ≤ 65536 * 13 := by omega
  have d2 : 65536 * T + 2 * n - (65536 * L + s - r + a + b) ≥ - (65536 * 13) := by omega
  clear c5 c6
  have hm : (if 16777216 < a then (16777216 : Int) else a) = a := if_neg (by omega)
  rw [hm]
  obtain ⟨g, hg⟩ : ∃ g, g = (if l = true then 0 else (s + a) / 65536) := ⟨_, rfl⟩
  rw [← hg]
  have hg0 : 0 ≤ g ∧ g ≤ (s + a) / 65536 := by cases l <;> simp at hg <;> omega
  clear hg
  have e1 : ¬ room < L + g := by omega
  rw [if_neg e1]
  have e2 : ¬ L + g < (r + q) / 65536 := by omega
  rw [if_neg e2]
  have e5 : (if 65536 < q then (65536 : Int) else q) = 65536 := by split <;> omega
  rw [e5]
  refine ⟨⟨c3, c4, ?_, ?_, ?_, ?_⟩, e2, e1⟩ <;> (repeat' split) <;> omega
def kGaps (n : Int) : Int → List Tk → Prop
  | _, [] => True
  | k, t :: l => (n - 65536 ≤ t.1 ∧ t.1 ≤ n + 65536) ∧ ((t.2.1 = false ∧ t.2.2.1 = false ∧ kGaps n (k + 1) l) ∨ (2 * (n / 65536) + 60 ≤ k ∧ kGaps n 0 l))
theorem kRun_los {n T room : Int} (hn : 131072 ≤ n) (hn2 : n < 3145728) (hT : 57 + n / 65536 ≤ T) (hr : T + n / 65536 + 60 ≤ room) : ∀ (l : List Tk) (k : Int) (x : KX) (g : KG), 0 ≤ k → kGaps n k l → kOk T room x → kLos n T room k x →
    (kRun T room l x g).2.2.1 = g.2.2.1 ∧ (kRun T room l x g).2.2.2.1 = g.2.2.2.1 ∧ (kRun T room l x g).2.2.2.2.1.length = g.2.2.2.2.1.length + l.length
  | [], k, x, g, _, _, _, _ => by simp [kRun]
  | t :: l, k, x, g, hk0, hg, hk, hx => by
    obtain ⟨h1, h2⟩ := hg
    have hok := kOk_next (T := T) (room := room) (t := t) hk (by omega) (by omega)
    rcases h2 with ⟨hl, hd, h3⟩ | ⟨h3, h4⟩
    · obtain ⟨i1, i2, i3⟩ := los_step hn hn2 hT hr hk0 hk hx h1 hl hd
      obtain ⟨j1, j2, j3⟩ := kRun_los hn hn2 hT hr l (k + 1) _ (g.1, g.2.1, g.2.2.1 + (if kDry room t x = true then 1 else 0), g.2.2.2.1 + (if kFull room t x = true then 1 else 0), g.2.2.2.2.1 ++ [kLev room t x], g.2.2.2.2.2 ++ [kSent x]) (by omega) h3 hok i1
      simp only [kRun]
      refine ⟨j1.trans (by simp [i2]), j2.trans (by simp [i3]), j3.trans (by simp; omega)⟩
    · obtain ⟨i1, i2, i3⟩ := los_loss hn hn2 hT hr h3 hk hx h1
      obtain ⟨j1, j2, j3⟩ := kRun_los hn hn2 hT hr l 0 _ (g.1, g.2.1, g.2.2.1 + (if kDry room t x = true then 1 else 0), g.2.2.2.1 + (if kFull room t x = true then 1 else 0), g.2.2.2.2.1 ++ [kLev room t x], g.2.2.2.2.2 ++ [kSent x]) (by omega) h4 hok i1
      simp only [kRun]
      refine ⟨j1.trans (by simp [i2]), j2.trans (by simp [i3]), j3.trans (by simp; omega)⟩
theorem kRun_near {n T room r0 : Int} (hn : 131072 ≤ n) (hn2 : n < 3145728) (hT : 16 ≤ T) (hr : T + n / 65536 + 20 ≤ room) (h0 : 0 ≤ r0) (h1 : r0 < 65536) : ∀ (l : List Tk) (x : KX) (g : KG), (∀ t ∈ l, (n - 65536 ≤ t.1 ∧ t.1 ≤ n + 65536) ∧ t.2.1 = false ∧ t.2.2.1 = false) → kOk T room x → kNear n T room r0 x → (∀ y ∈ g.2.2.2.2.1, T - 8 ≤ y ∧ y ≤ T + 8) →
    (kRun T room l x g).2.2.1 = g.2.2.1 ∧ (kRun T room l x g).2.2.2.1 = g.2.2.2.1 ∧ ∀ y ∈ (kRun T room l x g).2.2.2.2.1, T - 8 ≤ y ∧ y ≤ T + 8
  | [], x, g, _, _, _, hg => ⟨rfl, rfl, hg⟩
  | t :: l, x, g, ht, hk, hx, hg => by
    obtain ⟨h2, hl, hd⟩ := ht t (by simp)
    have hok := kOk_next (T := T) (room := room) (t := t) hk (by omega) (by omega)
    obtain ⟨i1, i2, i3, i4, i5⟩ := near_step hn hn2 hT hr h0 h1 hk hx h2 hl hd
    obtain ⟨j1, j2, j3⟩ := kRun_near hn hn2 hT hr h0 h1 l _ (g.1, g.2.1, g.2.2.1 + (if kDry room t x = true then 1 else 0), g.2.2.2.1 + (if kFull room t x = true then 1 else 0), g.2.2.2.2.1 ++ [kLev room t x], g.2.2.2.2.2 ++ [kSent x]) (fun u hu => ht u (List.mem_cons_of_mem _ hu)) hok i1 (fun y hy => by
      rcases List.mem_append.1 hy with hy | hy
      · exact hg y hy
      · simp at hy; subst hy; exact ⟨i4, i5⟩)
    simp only [kRun]
    exact ⟨j1.trans (by simp [i2]), j2.trans (by simp [i3]), j3⟩
theorem kwi64 {x : Int} (h0 : -9223372036854775808 ≤ x) (h1 : x < 9223372036854775808) : Go.IntKind.wrap .i64 x = x := by simp [Go.IntKind.wrap, Go.IntKind.bits, Go.IntKind.signed]; omega
theorem kwu32 {x : Int} (h0 : 0 ≤ x) (h1 : x < 4294967296) : Go.IntKind.wrap .u32 x = x := by simp [Go.IntKind.wrap, Go.IntKind.bits, Go.IntKind.signed]; omega
theorem ktd {x : Int} (h0 : 0 ≤ x) : Int.tdiv x 65536 = x / 65536 := Int.tdiv_eq_ediv_of_nonneg h0
theorem ktm {x : Int} (h0 : 0 ≤ x) : Int.tmod x 65536 = x % 65536 := Int.tmod_eq_emod_of_nonneg h0
theorem kgr8 (n : Nat) (h : n ≤ 1000000000) : growOb 8 n = true := growT (by omega) (by omega)
theorem aSend_eq (m : Nat) (q s : Int) (h0 : 0 ≤ q) (h1 : q ≤ 16777216) (h2 : 0 ≤ s) (h3 : s < 65536) : aSend_D m (q, s, ()) = some (((s + q) / 65536, (q, (s + q) % 65536, ()), 0, ()), ()) := by
  unfold aSend_D aSend_J0
  simp only
  rw [dF (show ¬ (16777216 : Int) < q by omega), dF (show ¬ (65535 : Int) < s by omega), kwu32 (x := s + q) (by omega) (by omega), ktd (by omega), ktm (by omega), kwu32 (x := (s + q) / 65536) (by omega) (by omega), kwi64 (by omega) (by omega)]
  rfl
theorem aRight_eq (m : Nat) (T room L r : Int) (h : 0 ≤ T ∧ T ≤ room ∧ 1 ≤ room ∧ room ≤ 1048576 ∧ 0 ≤ L ∧ L ≤ room ∧ r < 65536) : aRight_D m (T, room, L, r, ()) = some (true, ()) := by
  unfold aRight_D aRight_J0
  obtain ⟨h1, h2, h3, h4, h5, h6, h7⟩ := h
  simp only
  rw [dT h3, dT h4, dT h1, dT h2, dT h5, dT h6, dT (show r ≤ 65535 by omega)]
  rfl
def kIn' (room L got : Int) : Int := if room < L + got then room else L + got
theorem aPlay_eq (m : Nat) (T room L r got q : Int) (h : 0 ≤ T ∧ T ≤ room ∧ 1 ≤ room ∧ room ≤ 1048576 ∧ 0 ≤ L ∧ L ≤ room ∧ 0 ≤ r ∧ r < 65536) (hg : 0 ≤ got ∧ got ≤ 1048576) (hq : 0 ≤ q ∧ q ≤ 16777216) :
    aPlay_D m (T, room, L, r, ()) got q = some (((T, room, kIn' room L got - (if kIn' room L got < (r + q) / 65536 then kIn' room L got else (r + q) / 65536), (r + q) % 65536, ()),
      (if kIn' room L got - (if kIn' room L got < (r + q) / 65536 then kIn' room L got else (r + q) / 65536) < T - 8 then q + 65536 else if T + 8 < kIn' room L got - (if kIn' room L got < (r + q) / 65536 then kIn' room L got else (r + q) / 65536) then q - (if 65536 < q then 65536 else q) else q),
      (if kIn' room L got < (r + q) / 65536 then kIn' room L got else (r + q) / 65536), 0, ()), ()) := by
  obtain ⟨a1, a2, a3, a4, a5, a6, a7, a8⟩ := h
  unfold aPlay_D aPlay_J0 aPlay_J1
  simp only
  rw [dF (show ¬ (16777216 : Int) < q by omega), aRight_eq m T room L r ⟨a1, a2, a3, a4, a5, a6, a8⟩, dF (show ¬ got < 0 by omega), dF (show ¬ (1048576 : Int) < got by omega)]
  rw [kwi64 (x := L + got) (by omega) (by omega), kwu32 (x := r + q) (by omega) (by omega), ktd (by omega), ktm (by omega), kwu32 (x := (r + q) / 65536) (by omega) (by omega), kwi64 (x := (r + q) / 65536) (by omega) (by omega)]
  rw [show (if room < L + got then room else L + got) = kIn' room L got from rfl]
  have hI : 0 ≤ kIn' room L got ∧ kIn' room L got ≤ room := by unfold kIn'; split <;> omega
  generalize kIn' room L got = I at hI ⊢
  have hP : 0 ≤ (if I < (r + q) / 65536 then I else (r + q) / 65536) ∧ (if I < (r + q) / 65536 then I else (r + q) / 65536) ≤ I := by split <;> omega
  generalize (if I < (r + q) / 65536 then I else (r + q) / 65536) = P at hP ⊢
  rw [kwi64 (x := I - P) (by omega) (by omega), kwi64 (x := T - 8) (by omega) (by omega), kwi64 (x := T + 8) (by omega) (by omega)]
  by_cases c1 : I - P < T - 8
  · rw [dT c1, if_pos c1, kwu32 (x := q + 65536) (by omega) (by omega)]
    rfl
  · rw [dF c1, if_neg c1]
    by_cases c2 : T + 8 < I - P
    · have : 0 ≤ q - (if 65536 < q then 65536 else q) ∧ q - (if 65536 < q then 65536 else q) ≤ q := by split <;> omega
      rw [dT c2, if_pos c2, kwu32 (x := q - if 65536 < q then 65536 else q) (by omega) (by omega)]
      rfl
    · rw [dF c2, if_neg c2]
      rfl
end Go.Proofs.Ytmjocalgekfodaa

