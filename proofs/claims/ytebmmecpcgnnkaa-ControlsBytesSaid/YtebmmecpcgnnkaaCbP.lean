/-
  The statement ControlsBytes: the law's plain function is true.
  Conditions: none.
-/
import Derived.Test.YtebmmecpcgnnkaaC8b
import Derived.Test.YtebmmecpcgnnkaaKF
import Derived.Lib.EndianBits
namespace Go.Proofs.Ytebmmecpcgnnkaa
set_option linter.unusedVariables false
set_option linter.unusedSimpArgs false
set_option maxRecDepth 100000

theorem wu8 (n : Int) : Go.IntKind.wrap .u8 n = n % 256 := by simp [Go.IntKind.wrap, Go.IntKind.bits, Go.IntKind.signed]
theorem wu16 (n : Int) : Go.IntKind.wrap .u16 n = n % 65536 := by simp [Go.IntKind.wrap, Go.IntKind.bits, Go.IntKind.signed]
theorem pw816 : (2 : Int) ^ Min.min (Int.toNat (8 : Int)) (Go.IntKind.bits Go.IntKind.u16) = 256 := by decide
def by8 (t c v i l : Int) : List Int := [t, c, v % 256, v / 256, i % 256, i / 256, l % 256, l / 256]
theorem split8_eq (m : Nat) (t c v i l : Int) (hv : 0 ≤ v ∧ v ≤ 65535) (hi : 0 ≤ i ∧ i ≤ 65535) (hl : 0 ≤ l ∧ l ≤ 65535) : split8_D m (t, c, v, i, l, ()) = some (by8 t c v i l, ()) := by
  have e : split8_D m (t, c, v, i, l, ()) = some ([t, c, Go.IntKind.wrap .u8 v, Go.IntKind.wrap .u8 (Int.fdiv v ((2 : Int) ^ Min.min (Int.toNat (8 : Int)) (Go.IntKind.bits Go.IntKind.u16))), Go.IntKind.wrap .u8 i, Go.IntKind.wrap .u8 (Int.fdiv i ((2 : Int) ^ Min.min (Int.toNat (8 : Int)) (Go.IntKind.bits Go.IntKind.u16))), Go.IntKind.wrap .u8 l, Go.IntKind.wrap .u8 (Int.fdiv l ((2 : Int) ^ Min.min (Int.toNat (8 : Int)) (Go.IntKind.bits Go.IntKind.u16)))], ()) := rfl
  rw [e, pw816]
  simp only [wu8, Int.fdiv_eq_ediv_of_nonneg _ (show (0 : Int) ≤ 256 by decide), by8]
  rw [show v / 256 % 256 = v / 256 by omega, show i / 256 % 256 = i / 256 by omega, show l / 256 % 256 = l / 256 by omega]
theorem rbytes_eq (m : Nat) (t c v i l : Int) (hv : 0 ≤ v ∧ v ≤ 65535) (hi : 0 ≤ i ∧ i ≤ 65535) (hl : 0 ≤ l ∧ l ≤ 65535) : rbytes_D m (t, c, v, i, l, ()) = some (by8 t c v i l, ()) := by
  unfold rbytes_D by8
  simp only [wu8, wu16, Int.tmod_eq_emod_of_nonneg hv.1, Int.tmod_eq_emod_of_nonneg hi.1, Int.tmod_eq_emod_of_nonneg hl.1, Int.tdiv_eq_ediv_of_nonneg hv.1, Int.tdiv_eq_ediv_of_nonneg hi.1, Int.tdiv_eq_ediv_of_nonneg hl.1]
  rw [show v % 256 % 256 = v % 256 by omega, show i % 256 % 256 = i % 256 by omega, show l % 256 % 256 = l % 256 by omega, show v / 256 % 65536 % 256 = v / 256 by omega, show i / 256 % 65536 % 256 = i / 256 by omega, show l / 256 % 65536 % 256 = l / 256 by omega]
theorem or8 (a b : Int) (ha : 0 ≤ a ∧ a ≤ 255) (hb : 0 ≤ b ∧ b ≤ 255) : Go.bits Go.BinOp.or Go.IntKind.u16 (Go.IntKind.wrap .u16 a) (Go.IntKind.wrap .u16 (Go.IntKind.wrap .u16 b * (2 : Int) ^ Min.min (Int.toNat (8 : Int)) (Go.IntKind.bits Go.IntKind.u16))) = a + 256 * b := by
  rw [pw816]
  simp only [wu16]
  rw [show a % 65536 = a by omega, show b % 65536 * 256 % 65536 = b * 256 by omega]
  have := u16_or8 (y := a) (x := b * 256) (by omega) (by omega) (by omega) (by omega) (by omega)
  rw [this]
  omega
theorem join8_eq (m : Nat) (a b c d e f g h : Int) (hc : 0 ≤ c ∧ c ≤ 255) (hd : 0 ≤ d ∧ d ≤ 255) (he : 0 ≤ e ∧ e ≤ 255) (hf : 0 ≤ f ∧ f ≤ 255) (hg : 0 ≤ g ∧ g ≤ 255) (hh : 0 ≤ h ∧ h ≤ 255) :
    join8_D m [a, b, c, d, e, f, g, h] = some (((a, b, c + 256 * d, e + 256 * f, g + 256 * h, ()), 0, ()), ()) := by
  rw [← or8 c d hc hd, ← or8 e f he hf, ← or8 g h hg hh]
  rfl
theorem join8_bad (m : Nat) (b : List Int) (hb : b.length ≠ 8) : join8_D m b = some (((0, 0, 0, 0, 0, ()), 5, ()), ()) := by
  unfold join8_D
  rw [dF (show ¬ (b.length : Int) = 8 by omega)]
  rfl
theorem bytesL_true (t c v i l : Int) (b : List Int) (ht : 0 ≤ t ∧ t ≤ 255) (hc : 0 ≤ c ∧ c ≤ 255) (hv : 0 ≤ v ∧ v ≤ 65535) (hi : 0 ≤ i ∧ i ≤ 65535) (hl : 0 ≤ l ∧ l ≤ 65535) (hb : ∀ x ∈ b, (0 : Int) ≤ x ∧ x ≤ 255) :
    bytesL_D 1000 (t, c, v, i, l, ()) b = some (true, ()) := by
  unfold bytesL_D
  by_cases h20 : 20 < b.length
  · rw [dT (show (20 : Int) < (b.length : Int) by omega), cond_true]
  · rw [dF (show ¬ (20 : Int) < (b.length : Int) by omega), cond_false, split8_eq 1000 t c v i l hv hi hl, bnd_some]
    simp only
    have hj : join8_D 1000 (by8 t c v i l) = some (((t, c, v, i, l, ()), 0, ()), ()) := by
      unfold by8
      rw [join8_eq 1000 t c _ _ _ _ _ _ (by omega) (by omega) (by omega) (by omega) (by omega) (by omega)]
      rw [show v % 256 + 256 * (v / 256) = v by omega, show i % 256 + 256 * (i / 256) = i by omega, show l % 256 + 256 * (l / 256) = l by omega]
    rw [hj, bnd_some]
    unfold bytesL_J0
    rw [rbytes_eq 1000 t c v i l hv hi hl, bnd_some]
    simp only [decide_true, Bool.not_true, cond_false, Bool.and_self]
    by_cases h8 : b.length = 8
    · obtain ⟨b0, b1, b2, b3, b4, b5, b6, b7, rfl⟩ : ∃ b0 b1 b2 b3 b4 b5 b6 b7, b = [b0, b1, b2, b3, b4, b5, b6, b7] := by
        match b, h8 with
        | [b0, b1, b2, b3, b4, b5, b6, b7], _ => exact ⟨b0, b1, b2, b3, b4, b5, b6, b7, rfl⟩
      have q2 := hb b2 (by simp)
      have q3 := hb b3 (by simp)
      have q4 := hb b4 (by simp)
      have q5 := hb b5 (by simp)
      have q6 := hb b6 (by simp)
      have q7 := hb b7 (by simp)
      rw [join8_eq 1000 b0 b1 b2 b3 b4 b5 b6 b7 q2 q3 q4 q5 q6 q7, bnd_some, dT (show (([b0, b1, b2, b3, b4, b5, b6, b7] : List Int).length : Int) = 8 from rfl)]
      simp only [Bool.not_true, cond_false]
      unfold bytesL_J2
      have e8 : by8 b0 b1 (b2 + 256 * b3) (b4 + 256 * b5) (b6 + 256 * b7) = [b0, b1, b2, b3, b4, b5, b6, b7] := by
        unfold by8
        rw [show (b2 + 256 * b3) % 256 = b2 by omega, show (b2 + 256 * b3) / 256 = b3 by omega, show (b4 + 256 * b5) % 256 = b4 by omega, show (b4 + 256 * b5) / 256 = b5 by omega, show (b6 + 256 * b7) % 256 = b6 by omega, show (b6 + 256 * b7) / 256 = b7 by omega]
      rw [rbytes_eq 1000 b0 b1 _ _ _ (by omega) (by omega) (by omega), e8]
      simp only [decide_true, cond_true, bnd_some, lives8_D]
    · rw [join8_bad 1000 b h8, bnd_some, dF (show ¬ (b.length : Int) = 8 by omega)]
      simp only [Bool.not_false, cond_true]
      unfold bytesL_J1
      simp only [decide_true, cond_true, Bool.and_self, bnd_some, lives8_D]
end Go.Proofs.Ytebmmecpcgnnkaa
