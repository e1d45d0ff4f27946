/-
  The statement PacketsDecode: the law's plain function is true (3).
  Conditions: none.
-/
import Derived.Test.YtpdbekbobkjfgaaDoorD3V
namespace Go.Proofs.YtpdbekbobkjfgaaDoor
set_option linter.unusedVariables false
set_option linter.unusedSimpArgs false
set_option maxRecDepth 100000
set_option maxHeartbeats 2000000

theorem known_lit (m p : Nat) (h : p < 16) : known_D m (p : Int) = some (decide (shv p ≠ 0), ()) := by
  rcases lt16 h with rfl | rfl | rfl | rfl | rfl | rfl | rfl | rfl | rfl | rfl | rfl | rfl | rfl | rfl | rfl | rfl <;> rfl
theorem token_lit (m p : Nat) (h : p < 16) : token3_D m (p : Int) = some (decide (shv p = 2), ()) := by
  rcases lt16 h with rfl | rfl | rfl | rfl | rfl | rfl | rfl | rfl | rfl | rfl | rfl | rfl | rfl | rfl | rfl | rfl <;> rfl
theorem hasData_lit (m p : Nat) (h : p < 16) : hasData_D m (p : Int) = some (decide (shv p = 5), ()) := by
  rcases lt16 h with rfl | rfl | rfl | rfl | rfl | rfl | rfl | rfl | rfl | rfl | rfl | rfl | rfl | rfl | rfl | rfl <;> rfl
theorem is5 (p : Nat) (h : p < 16) : decide ((p : Int) = 5) = decide (shv p = 3) := by
  rcases lt16 h with rfl | rfl | rfl | rfl | rfl | rfl | rfl | rfl | rfl | rfl | rfl | rfl | rfl | rfl | rfl | rfl <;> rfl
theorem is8 (p : Nat) (h : p < 16) : decide ((p : Int) = 8) = decide (shv p = 4) := by
  rcases lt16 h with rfl | rfl | rfl | rfl | rfl | rfl | rfl | rfl | rfl | rfl | rfl | rfl | rfl | rfl | rfl | rfl <;> rfl
theorem rfCheck_ok0 (m p : Nat) (hp : p < 16) (hs : shv p ≠ 0) (A E F H P K : Int) (C L : Bool) (D : List Int) (h2 : shv p = 2 ∨ (A = 0 ∧ E = 0)) (hA : A ≤ 127) (hE : E ≤ 15) (h3 : shv p = 3 ∨ F = 0) (hF : F ≤ 2047)
    (h4 : shv p = 4 ∨ (H = 0 ∧ P = 0 ∧ C = false ∧ L = false ∧ K = 0)) (hH : H ≤ 127) (hP : P ≤ 127) (hK : K ≤ 3) (h5 : shv p = 5 ∨ D = []) (hD : D.length ≤ 1024) :
    rfCheck_D m ((p : Int), A, E, F, H, P, C, L, K, D, ()) = some (0, ()) := by
  unfold rfCheck_D
  rw [known_lit m p hp, bnd_some, dT hs, Bool.not_true, cond_false]
  unfold rfCheck_J0
  have k1 : decide ((127 : Int) < A) = false := dF (by omega)
  have k2 : decide ((15 : Int) < E) = false := dF (by omega)
  have k3 : decide ((2047 : Int) < F) = false := dF (by omega)
  have k4 : decide ((127 : Int) < H) = false := dF (by omega)
  have k5 : decide ((127 : Int) < P) = false := dF (by omega)
  have k6 : decide ((3 : Int) < K) = false := dF (by omega)
  have k7 : decide ((1024 : Int) < (D.length : Int)) = false := dF (by omega)
  simp only [token_lit m p hp, bnd_some, k1, k2, k3, cond_false]
  have j3 : ∀ (R : Type) (k0 : Bool → Option R), rfCheck_J3 m ((p : Int), A, E, F, H, P, C, L, K, D, ()) k0 = k0 false := by
    intro R k0
    unfold rfCheck_J3
    simp only [hasData_lit m p hp, bnd_some]
    by_cases h : shv p = 5
    · rw [dT h]; rfl
    · rw [dF h]
      rcases h5 with h5 | rfl
      · exact absurd h5 h
      · rfl
  have j2 : ∀ (R : Type) (k0 : Bool → Option R), rfCheck_J2 m ((p : Int), A, E, F, H, P, C, L, K, D, ()) (H, P, C, L, K, ()) k0 = k0 false := by
    intro R k0
    unfold rfCheck_J2
    simp only [is8 p hp, k4, k5, k6, cond_false]
    by_cases h : shv p = 4
    · rw [dT h]; rfl
    · rw [dF h]
      rcases h4 with h4 | ⟨rfl, rfl, rfl, rfl, rfl⟩
      · exact absurd h4 h
      · rfl
  have j1 : ∀ (R : Type) (k0 : Bool → Option R), rfCheck_J1 m ((p : Int), A, E, F, H, P, C, L, K, D, ()) k0 = k0 false := by
    intro R k0
    unfold rfCheck_J1
    simp only [is5 p hp, k3]
    by_cases h : shv p = 3
    · rw [dT h]; rfl
    · rw [dF h]
      rcases h3 with h3 | rfl
      · exact absurd h3 h
      · rfl
  by_cases h : shv p = 2
  · rw [dT h]
    simp only [Bool.not_true, cond_false, j1, j2, j3, k7]
  · rw [dF h]
    rcases h2 with h2 | ⟨rfl, rfl⟩
    · exact absurd h2 h
    · simp only [Bool.not_false, cond_true, decide_true, Bool.not_true, cond_false, j1, j2, j3, k7]
theorem chunk (l : List Nat) (i : Nat) (h : i < l.length) : ((Chk.allBits l).take (8 * i + 8)).drop (8 * i) = Chk.bitsN (l.getD i 0) 8 := by
  have e : Chk.allBits l = (Chk.allBits (l.take i) ++ Chk.bitsN (l.getD i 0) 8) ++ Chk.allBits (l.drop (i + 1)) := by
    conv => lhs; rw [← List.take_append_drop i l, drop_get h]
    rw [Chk.allBits_append, getD_lt h, List.append_assoc]
    rfl
  have l1 : (Chk.allBits (l.take i)).length = 8 * i := by rw [Chk.allBits_len]; simp; omega
  rw [e, List.take_left' (by rw [List.length_append, l1, Chk.bitsN_len]), List.drop_left' l1]
theorem rencode_L0_eq (m f0 : Nat) (l : List Nat) (hl : ∀ x ∈ l, x < 256) (hn : l.length ≤ 1000) (hm : 100 ≤ m) : ∀ (f i : Nat), i ≤ l.length → l.length - i < f → rencode_L0 m f (nI (Chk.allBits l)) ((8 * i : Nat) : Int) (nI (f0 :: l.take i)) = some ((), (nI (f0 :: l), ())) := by
  intro f
  induction f with
  | zero => intro i _ h; omega
  | succ f ih =>
    intro i hi hf
    rw [rencode_L0]
    have hlen := Chk.allBits_len l
    by_cases hlt : i < l.length
    · have hw : Go.IntKind.wrap .i64 (((8 * i : Nat) : Int) + 8) = ((8 * i + 8 : Nat) : Int) := by rw [wi64 (by omega) (by omega)]; omega
      have hx := byte_at hl i
      simp only [nI_len, hw, Int.toNat_natCast, nI_take, nI_drop, chunk l i hlt]
      rw [dT (show ((8 * i : Nat) : Int) < ((Chk.allBits l).length : Int) by omega), cond_true, dT (show (0 : Int) ≤ ((8 * i : Nat) : Int) by omega), dT (show ((8 * i : Nat) : Int) ≤ ((8 * i + 8 : Nat) : Int) by omega), dT (show 8 * i + 8 ≤ (Chk.allBits l).length by omega), Bool.and_self, Bool.and_self, cond_true]
      rw [number_eq m _ (Chk.bitsN_lt _ _) (by rw [Chk.bitsN_len]; omega) (by omega), bnd_some, num_bitsN 8 _ (by omega)]
      simp only
      rw [w8 (by omega) (by omega), nI_one, nI_app, nI_len, gr1 _ (by simp only [List.length_cons, List.length_take, List.length_nil]; omega), cond_true]
      have et : (f0 :: l.take i) ++ [l.getD i 0] = f0 :: l.take (i + 1) := by
        rw [List.take_add_one, List.getElem?_eq_getElem hlt, getD_lt hlt]; rfl
      rw [et, show 8 * i + 8 = 8 * (i + 1) by omega]
      exact ih (i + 1) (by omega) (by omega)
    · have : i = l.length := by omega
      subst this
      rw [nI_len, dF (by omega), cond_false, List.take_length]
theorem rJ0_lit {R : Type} (m p : Nat) (h : p < 16) (A E F H P K : Int) (C L : Bool) (D x : List Int) (k0 : Bool → Option R) : rencode_J0 m ((p : Int), A, E, F, H, P, C, L, K, D, ()) x k0 = k0 (decide (shv p = 5)) := by
  unfold rencode_J0
  rcases lt16 h with rfl | rfl | rfl | rfl | rfl | rfl | rfl | rfl | rfl | rfl | rfl | rfl | rfl | rfl | rfl | rfl <;> rfl
theorem rbJ0_lit {R : Type} (m p : Nat) (h : p < 16) (A E F H P K : Int) (C L : Bool) (D : List Int) (k0 : Bool → Option R) : rbits_J0 m ((p : Int), A, E, F, H, P, C, L, K, D, ()) k0 = k0 (decide (shv p = 2)) := by
  unfold rbits_J0
  rcases lt16 h with rfl | rfl | rfl | rfl | rfl | rfl | rfl | rfl | rfl | rfl | rfl | rfl | rfl | rfl | rfl | rfl <;> rfl
theorem rencode_bits (m p : Nat) (hp : p < 16) (hm : 100 ≤ m) (A E F H P K : Int) (C L : Bool) (D : List Int) (h5 : shv p ≠ 5) (v k : Nat) (l : List Nat) (hl : ∀ x ∈ l, x < 256) (hn : l.length ≤ 10) (hk : k + 5 = 8 * l.length) (hk0 : 0 < k)
    (hb : rbits_D m ((p : Int), A, E, F, H, P, C, L, K, D, ()) = some (Sum.inl ((), nI (Chk.bitsN v k), ())))
    (hv : Chk.five v k = v / 2 ^ k) (ha : Chk.allBits l = Chk.bitsN v (k + 5)) :
    rencode_D m ((p : Int), A, E, F, H, P, C, L, K, D, ()) = some (nI ((p + 16 * (15 - p)) :: l), ()) := by
  unfold rencode_D
  simp only [rfirst_eq m p hp, bnd_some]
  rw [rJ0_lit m p hp, dF h5]
  simp only [cond_false]
  unfold rencode_J1
  rw [hb, bnd_some, sumK_l]
  simp only [nI_len, Chk.bitsN_len]
  rw [dF (by omega), cond_false, sent5_eq m _ (Chk.bitsN_lt _ _) (by rw [Chk.bitsN_len]; omega) (by omega) (by rw [Chk.bitsN_len]; omega), bnd_some]
  simp only [nI_len, sent5_bits, Chk.bitsN_len]
  rw [gr1 _ (by omega), cond_true, nI_app, hv, ← bitsN_add, ← ha]
  have h := rencode_L0_eq m (p + 16 * (15 - p)) l hl (by omega) hm m 0 (by omega) (by omega)
  rw [show (8 * 0 : Nat) = 0 from rfl, List.take_zero] at h
  rw [nI_one, show (0 : Int) = ((0 : Nat) : Int) from rfl, h, bnd_some]
end Go.Proofs.YtpdbekbobkjfgaaDoor

