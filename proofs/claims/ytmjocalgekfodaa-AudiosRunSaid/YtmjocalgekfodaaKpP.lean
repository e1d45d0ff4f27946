/-
  The statements AudiosRun and AudiosKeep: a run, frame by frame, and how near the level stays to its target.
  Conditions: none.
-/
import Derived.Test.YtmjocalgekfodaaC9z
import Derived.Test.YtmjocalgekfodaaKF
namespace Go.Proofs.Ytmjocalgekfodaa
set_option linter.unusedVariables false
set_option linter.unusedSimpArgs false
set_option maxRecDepth 100000
set_option maxHeartbeats 2000000

abbrev Tk := Int × Bool × Bool × Unit
abbrev KX := Int × Int × Int × Int × Int
def kSent (x : KX) : Int := (x.2.2.1 + if 16777216 < x.2.2.2.1 then 16777216 else x.2.2.2.1) / 65536
def kSrc (x : KX) : Int := (x.2.2.1 + if 16777216 < x.2.2.2.1 then 16777216 else x.2.2.2.1) % 65536
def kGot (t : Tk) (x : KX) : Int := if t.2.1 = true then 0 else kSent x
def kIn (room : Int) (t : Tk) (x : KX) : Int := if room < x.1 + kGot t x then room else x.1 + kGot t x
def kWant (t : Tk) (x : KX) : Int := (x.2.1 + t.1) / 65536
def kRest (t : Tk) (x : KX) : Int := (x.2.1 + t.1) % 65536
def kPl (room : Int) (t : Tk) (x : KX) : Int := if kIn room t x < kWant t x then kIn room t x else kWant t x
def kLev (room : Int) (t : Tk) (x : KX) : Int := kIn room t x - kPl room t x
def kFeed (T room : Int) (t : Tk) (x : KX) : Int :=
  if kLev room t x < T - 8 then t.1 + 65536 else if T + 8 < kLev room t x then t.1 - (if 65536 < t.1 then 65536 else t.1) else t.1
def kNext (T room : Int) (t : Tk) (x : KX) : KX := (kLev room t x, kRest t x, kSrc x, x.2.2.2.2, if t.2.2.1 = true then x.2.2.2.2 else kFeed T room t x)
def kFull (room : Int) (t : Tk) (x : KX) : Bool := decide (room < x.1 + kGot t x)
def kDry (room : Int) (t : Tk) (x : KX) : Bool := decide (kIn room t x < kWant t x)
def kOk (T room : Int) (x : KX) : Prop := 0 ≤ T ∧ T ≤ room ∧ 1 ≤ room ∧ room ≤ 1048576 ∧ 0 ≤ x.1 ∧ x.1 ≤ room ∧ 0 ≤ x.2.1 ∧ x.2.1 < 65536 ∧ 0 ≤ x.2.2.1 ∧ x.2.2.1 < 65536 ∧ 0 ≤ x.2.2.2.1 ∧ x.2.2.2.1 ≤ 16842752 ∧ 0 ≤ x.2.2.2.2 ∧ x.2.2.2.2 ≤ 16842752
theorem kOk_next {T room : Int} {t : Tk} {x : KX} (h : kOk T room x) (h0 : 0 ≤ t.1) (h1 : t.1 ≤ 16777216) : kOk T room (kNext T room t x) := by
  obtain ⟨L, r, s, a, b⟩ := x
  obtain ⟨q, l, d, u⟩ := t
  simp only [kOk, kNext, kLev, kPl, kIn, kGot, kSent, kSrc, kWant, kRest, kFeed] at *
  obtain ⟨a1, a2, a3, a4, a5, a6, a7, a8, a9, b1, b2, b3, b4, b5⟩ := h
  have hs : 0 ≤ (s + if 16777216 < a then 16777216 else a) := by split <;> omega
  generalize (s + if 16777216 < a then 16777216 else a) = S at hs ⊢
  cases l <;> cases d <;> simp only [if_true, Bool.false_eq_true, if_false] <;> refine ⟨a1, a2, a3, a4, ?_, ?_, ?_, ?_, ?_, ?_, b4, b5, ?_, ?_⟩ <;> (repeat' split) <;> omega
abbrev KG := Int × Int × Int × Int × List Int × List Int
def kRun (T room : Int) : List Tk → KX → KG → KG
  | [], _, g => g
  | t :: l, x, g => kRun T room l (kNext T room t x) (g.1, g.2.1, g.2.2.1 + (if kDry room t x = true then 1 else 0), g.2.2.2.1 + (if kFull room t x = true then 1 else 0), g.2.2.2.2.1 ++ [kLev room t x], g.2.2.2.2.2 ++ [kSent x])
theorem kwi64 {x : Int} (h0 : -9223372036854775808 ≤ x) (h1 : x < 9223372036854775808) : Go.IntKind.wrap .i64 x = x := by simp [Go.IntKind.wrap, Go.IntKind.bits, Go.IntKind.signed]; omega
theorem kwu32 {x : Int} (h0 : 0 ≤ x) (h1 : x < 4294967296) : Go.IntKind.wrap .u32 x = x := by simp [Go.IntKind.wrap, Go.IntKind.bits, Go.IntKind.signed]; omega
theorem ktd {x : Int} (h0 : 0 ≤ x) : Int.tdiv x 65536 = x / 65536 := Int.tdiv_eq_ediv_of_nonneg h0
theorem ktm {x : Int} (h0 : 0 ≤ x) : Int.tmod x 65536 = x % 65536 := Int.tmod_eq_emod_of_nonneg h0
theorem kgr8 (n : Nat) (h : n ≤ 1000000000) : growOb 8 n = true := growT (by omega) (by omega)
theorem aSend_eq (m : Nat) (q s : Int) (h0 : 0 ≤ q) (h1 : q ≤ 16777216) (h2 : 0 ≤ s) (h3 : s < 65536) : aSend_D m (q, s, ()) = some (((s + q) / 65536, (q, (s + q) % 65536, ()), 0, ()), ()) := by
  unfold aSend_D aSend_J0
  simp only
  rw [dF (show ¬ (16777216 : Int) < q by omega), dF (show ¬ (65535 : Int) < s by omega), kwu32 (x := s + q) (by omega) (by omega), ktd (by omega), ktm (by omega), kwu32 (x := (s + q) / 65536) (by omega) (by omega), kwi64 (by omega) (by omega)]
  rfl
theorem aRight_eq (m : Nat) (T room L r : Int) (h : 0 ≤ T ∧ T ≤ room ∧ 1 ≤ room ∧ room ≤ 1048576 ∧ 0 ≤ L ∧ L ≤ room ∧ r < 65536) : aRight_D m (T, room, L, r, ()) = some (true, ()) := by
  unfold aRight_D aRight_J0
  obtain ⟨h1, h2, h3, h4, h5, h6, h7⟩ := h
  simp only
  rw [dT h3, dT h4, dT h1, dT h2, dT h5, dT h6, dT (show r ≤ 65535 by omega)]
  rfl
def kIn' (room L got : Int) : Int := if room < L + got then room else L + got
theorem aPlay_eq (m : Nat) (T room L r got q : Int) (h : 0 ≤ T ∧ T ≤ room ∧ 1 ≤ room ∧ room ≤ 1048576 ∧ 0 ≤ L ∧ L ≤ room ∧ 0 ≤ r ∧ r < 65536) (hg : 0 ≤ got ∧ got ≤ 1048576) (hq : 0 ≤ q ∧ q ≤ 16777216) :
    aPlay_D m (T, room, L, r, ()) got q = some (((T, room, kIn' room L got - (if kIn' room L got < (r + q) / 65536 then kIn' room L got else (r + q) / 65536), (r + q) % 65536, ()),
      (if kIn' room L got - (if kIn' room L got < (r + q) / 65536 then kIn' room L got else (r + q) / 65536) < T - 8 then q + 65536 else if T + 8 < kIn' room L got - (if kIn' room L got < (r + q) / 65536 then kIn' room L got else (r + q) / 65536) then q - (if 65536 < q then 65536 else q) else q),
      (if kIn' room L got < (r + q) / 65536 then kIn' room L got else (r + q) / 65536), 0, ()), ()) := by
  obtain ⟨a1, a2, a3, a4, a5, a6, a7, a8⟩ := h
  unfold aPlay_D aPlay_J0 aPlay_J1
  simp only
  rw [dF (show ¬ (16777216 : Int) < q by omega), aRight_eq m T room L r ⟨a1, a2, a3, a4, a5, a6, a8⟩, dF (show ¬ got < 0 by omega), dF (show ¬ (1048576 : Int) < got by omega)]
  rw [kwi64 (x := L + got) (by omega) (by omega), kwu32 (x := r + q) (by omega) (by omega), ktd (by omega), ktm (by omega), kwu32 (x := (r + q) / 65536) (by omega) (by omega), kwi64 (x := (r + q) / 65536) (by omega) (by omega)]
  rw [show (if room < L + got then room else L + got) = kIn' room L got from rfl]
  have hI : 0 ≤ kIn' room L got ∧ kIn' room L got ≤ room := by unfold kIn'; split <;> omega
  generalize kIn' room L got = I at hI ⊢
  have hP : 0 ≤ (if I < (r + q) / 65536 then I else (r + q) / 65536) ∧ (if I < (r + q) / 65536 then I else (r + q) / 65536) ≤ I := by split <;> omega
  generalize (if I < (r + q) / 65536 then I else (r + q) / 65536) = P at hP ⊢
  rw [kwi64 (x := I - P) (by omega) (by omega), kwi64 (x := T - 8) (by omega) (by omega), kwi64 (x := T + 8) (by omega) (by omega)]
  by_cases c1 : I - P < T - 8
  · rw [dT c1, if_pos c1, kwu32 (x := q + 65536) (by omega) (by omega)]
    rfl
  · rw [dF c1, if_neg c1]
    by_cases c2 : T + 8 < I - P
    · have : 0 ≤ q - (if 65536 < q then 65536 else q) ∧ q - (if 65536 < q then 65536 else q) ≤ q := by split <;> omega
      rw [dT c2, if_pos c2, kwu32 (x := q - if 65536 < q then 65536 else q) (by omega) (by omega)]
      rfl
    · rw [dF c2, if_neg c2]
      rfl
end Go.Proofs.Ytmjocalgekfodaa

