/-
  Layer 1 (levels): bytes and their bits, in plain lists.
  Conditions: none.
-/
import Derived.Test.YtolmhlikmjkkfaaLvF
namespace Go.Proofs.Ytolmhlikmjkkfaa
set_option linter.unusedVariables false

def valB (l : List Int) (j : Nat) : Int := l.getD (8 * j) 0 + l.getD (8 * j + 1) 0 * 2 + l.getD (8 * j + 2) 0 * 4 + l.getD (8 * j + 3) 0 * 8 + l.getD (8 * j + 4) 0 * 16 + l.getD (8 * j + 5) 0 * 32 + l.getD (8 * j + 6) 0 * 64 + l.getD (8 * j + 7) 0 * 128
def bytesL (l : List Int) : List Int := (List.range (l.length / 8)).map (valB l)

theorem getD_take (l : List Int) (k n : Nat) : (l.take k).getD n 0 = if n < k then l.getD n 0 else 0 := by
  rw [List.getD_eq_getElem?_getD, List.getD_eq_getElem?_getD, List.getElem?_take]
  split <;> rfl
theorem valB_other {l : List Int} {k j : Nat} (hj : j ≠ k / 8) : valB (l.take (k + 1)) j = valB (l.take k) j := by
  have h : ∀ i, i < 8 → (l.take (k + 1)).getD (8 * j + i) 0 = (l.take k).getD (8 * j + i) 0 := by
    intro i hi
    rw [getD_take, getD_take]
    by_cases h1 : 8 * j + i < k
    · rw [if_pos (by omega), if_pos h1]
    · rw [if_neg (by omega), if_neg h1]
  have h0 := h 0 (by omega)
  simp only [Nat.add_zero] at h0
  unfold valB
  rw [h0, h 1 (by omega), h 2 (by omega), h 3 (by omega), h 4 (by omega), h 5 (by omega), h 6 (by omega), h 7 (by omega)]
theorem b01_getD {l : List Int} (h : b01 l) (n : Nat) : l.getD n 0 = 0 ∨ l.getD n 0 = 1 := by
  rw [List.getD_eq_getElem?_getD]
  by_cases hn : n < l.length
  · rw [List.getElem?_eq_getElem hn]; exact h _ (by simp)
  · rw [List.getElem?_eq_none (by omega)]; exact .inl rfl
theorem valB_step {l : List Int} {k : Nat} (h01 : b01 l) (hk : k < l.length) : valB (l.take (k + 1)) (k / 8) = valB (l.take k) (k / 8) + l[k] * 2 ^ (k % 8) ∧ 0 ≤ valB (l.take k) (k / 8) ∧ valB (l.take k) (k / 8) < 2 ^ (k % 8) := by
  have hg : l.getD k 0 = l[k] := by rw [List.getD_eq_getElem?_getD, List.getElem?_eq_getElem hk]; rfl
  obtain ⟨q, r, hr, rfl⟩ : ∃ q r, r < 8 ∧ k = 8 * q + r := ⟨k / 8, k % 8, by omega, by omega⟩
  have e1 : (8 * q + r) / 8 = q := by omega
  have e2 : (8 * q + r) % 8 = r := by omega
  rw [e1, e2, ← hg]
  have b0 := b01_getD h01 (8 * q)
  have b1 := b01_getD h01 (8 * q + 1)
  have b2 := b01_getD h01 (8 * q + 2)
  have b3 := b01_getD h01 (8 * q + 3)
  have b4 := b01_getD h01 (8 * q + 4)
  have b5 := b01_getD h01 (8 * q + 5)
  have b6 := b01_getD h01 (8 * q + 6)
  have b7 := b01_getD h01 (8 * q + 7)
  unfold valB
  simp only [getD_take]
  obtain rfl | rfl | rfl | rfl | rfl | rfl | rfl | rfl : r = 0 ∨ r = 1 ∨ r = 2 ∨ r = 3 ∨ r = 4 ∨ r = 5 ∨ r = 6 ∨ r = 7 := by omega
  all_goals simp (disch := omega) only [↓if_pos, ↓if_neg, Nat.add_zero, Int.reducePow]
  all_goals omega

theorem or_bit (a x : Int) (i : Nat) (hi : i < 8) (ha : 0 ≤ a ∧ a < 2 ^ i) (hx : x = 0 ∨ x = 1) : Go.bits .or .u8 a (x * 2 ^ i) = a + x * 2 ^ i := by
  have key : ∀ i : Fin 8, ∀ a : Fin 256, (a.val : Int) < 2 ^ i.val → (Go.bits .or .u8 a.val (0 * 2 ^ i.val) = a.val + 0 * 2 ^ i.val) ∧ (Go.bits .or .u8 a.val (1 * 2 ^ i.val) = a.val + 1 * 2 ^ i.val) := by decide +kernel
  obtain ⟨n, rfl⟩ : ∃ n : Nat, a = n := ⟨a.toNat, by omega⟩
  have h2 : (2 : Int) ^ i ≤ 256 := by
    obtain rfl | rfl | rfl | rfl | rfl | rfl | rfl | rfl : i = 0 ∨ i = 1 ∨ i = 2 ∨ i = 3 ∨ i = 4 ∨ i = 5 ∨ i = 6 ∨ i = 7 := by omega
    all_goals decide
  have := key ⟨i, hi⟩ ⟨n, by omega⟩ ha.2
  rcases hx with rfl | rfl
  · exact this.1
  · exact this.2

/-! There and back -/
theorem byteBits_val (b0 b1 b2 b3 b4 b5 b6 b7 : Int) (h0 : b0 = 0 ∨ b0 = 1) (h1 : b1 = 0 ∨ b1 = 1) (h2 : b2 = 0 ∨ b2 = 1) (h3 : b3 = 0 ∨ b3 = 1) (h4 : b4 = 0 ∨ b4 = 1) (h5 : b5 = 0 ∨ b5 = 1) (h6 : b6 = 0 ∨ b6 = 1) (h7 : b7 = 0 ∨ b7 = 1) :
    byteBits (b0 + b1 * 2 + b2 * 4 + b3 * 8 + b4 * 16 + b5 * 32 + b6 * 64 + b7 * 128) = [b0, b1, b2, b3, b4, b5, b6, b7] := by
  have key : ∀ b0 b1 b2 b3 b4 b5 b6 b7 : Fin 2, byteBits ((b0.val : Int) + (b1.val : Int) * 2 + (b2.val : Int) * 4 + (b3.val : Int) * 8 + (b4.val : Int) * 16 + (b5.val : Int) * 32 + (b6.val : Int) * 64 + (b7.val : Int) * 128) = [(b0.val : Int), b1.val, b2.val, b3.val, b4.val, b5.val, b6.val, b7.val] := by decide +kernel
  have two : ∀ b : Int, b = 0 ∨ b = 1 → ∃ n : Fin 2, b = (n.val : Int) := fun b h => by
    rcases h with rfl | rfl
    · exact ⟨0, rfl⟩
    · exact ⟨1, rfl⟩
  obtain ⟨n0, rfl⟩ := two _ h0
  obtain ⟨n1, rfl⟩ := two _ h1
  obtain ⟨n2, rfl⟩ := two _ h2
  obtain ⟨n3, rfl⟩ := two _ h3
  obtain ⟨n4, rfl⟩ := two _ h4
  obtain ⟨n5, rfl⟩ := two _ h5
  obtain ⟨n6, rfl⟩ := two _ h6
  obtain ⟨n7, rfl⟩ := two _ h7
  exact key n0 n1 n2 n3 n4 n5 n6 n7
theorem valB_byteBits (x : Int) (hx : 0 ≤ x ∧ x < 256) (l : List Int) : valB (byteBits x ++ l) 0 = x := by
  unfold valB byteBits
  simp only [show List.range 8 = [0, 1, 2, 3, 4, 5, 6, 7] from rfl, List.map_cons, List.map_nil, List.cons_append, List.nil_append, Nat.mul_zero, Nat.zero_add, List.getD_cons_zero, List.getD_cons_succ, Int.reducePow]
  omega
theorem valB_shift {a l : List Int} (ha : a.length = 8) (j : Nat) : valB (a ++ l) (j + 1) = valB l j := by
  have h : ∀ i, (a ++ l).getD (8 * (j + 1) + i) 0 = l.getD (8 * j + i) 0 := by
    intro i
    rw [List.getD_eq_getElem?_getD, List.getD_eq_getElem?_getD, List.getElem?_append_right (by omega)]
    congr 2; omega
  have h0 := h 0
  simp only [Nat.add_zero] at h0
  unfold valB
  rw [h0, h 1, h 2, h 3, h 4, h 5, h 6, h 7]
theorem bytesL_cons {a l : List Int} (ha : a.length = 8) : bytesL (a ++ l) = valB (a ++ l) 0 :: bytesL l := by
  unfold bytesL
  rw [List.length_append, ha, show (8 + l.length) / 8 = l.length / 8 + 1 by omega, List.range_succ_eq_map, List.map_cons, List.map_map]
  congr 1
  apply List.map_congr_left
  intro j _
  exact valB_shift ha j
theorem bytes_bits {b : List Int} (h8 : u8s b) : bytesL (bitsL b) = b := by
  induction b with
  | nil => rfl
  | cons x b ih =>
    have e : bitsL (x :: b) = byteBits x ++ bitsL b := rfl
    rw [e, bytesL_cons (byteBits_length x), valB_byteBits x (h8 x (by simp)), ih (fun y hy => h8 y (by simp [hy]))]
theorem bits_bytes : ∀ (m : Nat) {l : List Int}, l.length = 8 * m → b01 l → bitsL (bytesL l) = l
  | 0, l, hl, _ => by obtain rfl : l = [] := List.length_eq_zero_iff.1 (by omega); rfl
  | m + 1, l, hl, h01 => by
    obtain ⟨a, r, rfl, ha⟩ : ∃ a r, l = a ++ r ∧ a.length = 8 := ⟨l.take 8, l.drop 8, by simp, by simp; omega⟩
    rw [bytesL_cons ha]
    have hr := bits_bytes m (l := r) (by rw [List.length_append] at hl; omega) (fun x hx => h01 x (by simp [hx]))
    have e : ∀ x l, bitsL (x :: l) = byteBits x ++ bitsL l := fun _ _ => rfl
    rw [e, hr]
    congr 1
    match a, ha with
    | [b0, b1, b2, b3, b4, b5, b6, b7], _ =>
      have h := fun x (hx : x ∈ [b0, b1, b2, b3, b4, b5, b6, b7]) => h01 x (List.mem_append_left _ hx)
      exact byteBits_val b0 b1 b2 b3 b4 b5 b6 b7 (h _ (by simp)) (h _ (by simp)) (h _ (by simp)) (h _ (by simp)) (h _ (by simp)) (h _ (by simp)) (h _ (by simp)) (h _ (by simp))
theorem bytesL_u8 {l : List Int} (h01 : b01 l) : u8s (bytesL l) := by
  intro x hx
  obtain ⟨j, _, rfl⟩ := List.mem_map.1 hx
  have b0 := b01_getD h01 (8 * j)
  have b1 := b01_getD h01 (8 * j + 1)
  have b2 := b01_getD h01 (8 * j + 2)
  have b3 := b01_getD h01 (8 * j + 3)
  have b4 := b01_getD h01 (8 * j + 4)
  have b5 := b01_getD h01 (8 * j + 5)
  have b6 := b01_getD h01 (8 * j + 6)
  have b7 := b01_getD h01 (8 * j + 7)
  unfold valB
  omega
theorem bitsL_01 {b : List Int} : b01 (bitsL b) := by
  intro x hx
  obtain ⟨y, _, hy⟩ := List.mem_flatMap.1 hx
  obtain ⟨j, _, rfl⟩ := List.mem_map.1 hy
  omega
theorem bitsL_get {b : List Int} {k : Nat} (hk : k < 8 * b.length) : ∃ h : k / 8 < b.length, (bitsL b)[k]? = some (b[k / 8] / 2 ^ (k % 8) % 2) := by
  refine ⟨by omega, ?_⟩
  induction b generalizing k with
  | nil => simp at hk
  | cons x b ih =>
    have e : bitsL (x :: b) = byteBits x ++ bitsL b := rfl
    rw [e]
    by_cases h : k < 8
    · rw [List.getElem?_append_left (by rw [byteBits_length]; exact h)]
      have : k / 8 = 0 := by omega
      have e2 : k % 8 = k := by omega
      simp [byteBits, this, e2, h]
    · rw [List.getElem?_append_right (by rw [byteBits_length]; omega), byteBits_length, ih (by simp at hk; omega)]
      have h1 : k / 8 = (k - 8) / 8 + 1 := by omega
      have h2 : k % 8 = (k - 8) % 8 := by omega
      simp only [h1, h2, List.getElem_cons_succ]
end Go.Proofs.Ytolmhlikmjkkfaa
