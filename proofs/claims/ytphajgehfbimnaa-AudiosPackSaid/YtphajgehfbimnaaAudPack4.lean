/-
  Plain facts on the bytes of samples: packing and unpacking undo each other; and one contract of Unpack for all widths.
-/
import Derived.Test.YtphajgehfbimnaaAudPack3
namespace Go.Proofs.Ytphajgehfbimnaa
open Go.RowKit
set_option linter.unusedVariables false

theorem fbNum_nonneg {l : List Int} (h : ∀ x ∈ l, 0 ≤ x ∧ x ≤ 255) : 0 ≤ fbNum l ∧ fbNum l < 256 ^ l.length := by
  induction l with
  | nil => simp [fbNum]
  | cons x l ih =>
    have h1 := ih fun y hy => h y (by simp [hy])
    have h2 := h x (by simp)
    simp only [fbNum, List.length_cons, Int.pow_succ]
    omega

theorem pow256 (n : Nat) : (256 : Int) ^ n = 2 ^ (8 * n) := by
  rw [Int.pow_mul]; rfl

theorem pow_split {n : Nat} (h : 1 ≤ n) : (2 : Int) ^ (8 * n) = 2 * 2 ^ (8 * n - 1) := by
  have : 8 * n = (8 * n - 1) + 1 := by omega
  conv => lhs; rw [this, Int.pow_succ]
  rw [Int.mul_comm]

theorem pow_pos' (k : Nat) : (0 : Int) < 2 ^ k := Int.pow_pos (by decide)

theorem packOne_succ (n : Nat) (x : Int) : packOne (n + 1) x = x % 256 :: packOne n (x / 256) := by
  simp only [packOne, List.range_succ_eq_map, List.map_cons, List.map_map, Nat.mul_zero, Int.pow_zero, Int.ediv_one]
  congr 1
  apply List.map_congr_left
  intro i _
  simp only [Function.comp_apply, Nat.mul_succ]
  rw [Int.ediv_ediv_of_nonneg (by decide)]
  congr 2
  rw [Nat.add_comm, Int.pow_add]; rfl

theorem fbNum_packOne (n : Nat) : ∀ x : Int, fbNum (packOne n x) = x % 256 ^ n := by
  induction n with
  | zero => intro x; simp [packOne, fbNum, Int.emod_one]
  | succ n ih =>
    intro x
    rw [packOne_succ, fbNum, ih, Int.pow_succ, Int.mul_comm (256 ^ n) 256]
    have hp : (0 : Int) < 256 ^ n := Int.pow_pos (by decide)
    have h1 : x = 256 * (x / 256) + x % 256 := by omega
    have h2 : x / 256 = 256 ^ n * (x / 256 / 256 ^ n) + x / 256 % 256 ^ n := (Int.mul_ediv_add_emod _ _).symm
    have h3 : x / 256 / 256 ^ n = x / (256 * 256 ^ n) := Int.ediv_ediv_of_nonneg (by decide)
    have h4 : x = (256 * 256 ^ n) * (x / (256 * 256 ^ n)) + x % (256 * 256 ^ n) := (Int.mul_ediv_add_emod _ _).symm
    rw [h3] at h2
    have h5 : (256 * 256 ^ n) * (x / (256 * 256 ^ n)) = 256 * (256 ^ n * (x / (256 * 256 ^ n))) := by rw [Int.mul_assoc]
    omega

theorem packOne_bytes (n : Nat) (x : Int) : ∀ y ∈ packOne n x, 0 ≤ y ∧ y ≤ 255 := by
  intro y hy
  obtain ⟨i, _, rfl⟩ := List.mem_map.1 hy
  omega
theorem packAll_bytes (n : Nat) (l : List Int) : ∀ y ∈ packAll n l, 0 ≤ y ∧ y ≤ 255 := by
  intro y hy
  obtain ⟨x, _, h⟩ := List.mem_flatMap.1 hy
  exact packOne_bytes n x y h

theorem packOne_fbNum : ∀ (l : List Int), (∀ x ∈ l, 0 ≤ x ∧ x ≤ 255) → ∀ m : Int, packOne l.length (fbNum l + m * 256 ^ l.length) = l := by
  intro l
  induction l with
  | nil => intro _ m; simp [packOne]
  | cons x l ih =>
    intro h m
    have h1 := h x (by simp)
    have h2 := ih (fun y hy => h y (by simp [hy])) m
    rw [List.length_cons, packOne_succ]
    have e : m * 256 ^ (l.length + 1) = 256 * (m * 256 ^ l.length) := by rw [Int.pow_succ, Int.mul_comm _ 256, ← Int.mul_assoc, ← Int.mul_assoc, Int.mul_comm m 256]
    rw [e, fbNum]
    have e1 : (x + 256 * fbNum l + 256 * (m * 256 ^ l.length)) % 256 = x := by omega
    have e2 : (x + 256 * fbNum l + 256 * (m * 256 ^ l.length)) / 256 = fbNum l + m * 256 ^ l.length := by omega
    rw [e1, e2, h2]

theorem sgn_cases (n : Nat) (v : Int) : sgn n v = v ∧ v < 2 ^ (8 * n - 1) ∨ sgn n v = v - 2 ^ (8 * n) ∧ 2 ^ (8 * n - 1) ≤ v := by
  unfold sgn
  by_cases h : v < 2 ^ (8 * n - 1)
  · rw [if_pos h]; exact .inl ⟨rfl, h⟩
  · rw [if_neg h]; exact .inr ⟨rfl, by omega⟩

theorem packOne_sgn {n : Nat} {l : List Int} (hn : l.length = n) (h : ∀ x ∈ l, 0 ≤ x ∧ x ≤ 255) : packOne n (sgn n (fbNum l)) = l := by
  subst hn
  rcases sgn_cases l.length (fbNum l) with ⟨e, _⟩ | ⟨e, _⟩
  · rw [e]; have := packOne_fbNum l h 0; rwa [Int.zero_mul, Int.add_zero] at this
  · rw [e]; have := packOne_fbNum l h (-1)
    rw [pow256, Int.neg_mul, Int.one_mul] at this
    exact this

theorem sgn_packOne {n : Nat} {x : Int} (hn : 1 ≤ n) (h1 : -(2 : Int) ^ (8 * n - 1) ≤ x) (h2 : x < (2 : Int) ^ (8 * n - 1)) : sgn n (fbNum (packOne n x)) = x := by
  rw [fbNum_packOne, pow256]
  have hs := pow_split hn
  have hp := pow_pos' (8 * n - 1)
  rcases Int.lt_or_le x 0 with h | h
  · have e : x % 2 ^ (8 * n) = x + 2 ^ (8 * n) := by
      rw [← Int.add_emod_right, Int.emod_eq_of_lt (by omega) (by omega)]
    rw [e, sgn_hi rfl rfl (by omega)]; omega
  · rw [Int.emod_eq_of_lt h (by omega), sgn_lo rfl h2]

theorem sgn_range {n : Nat} {l : List Int} (hn : l.length = n) (h1 : 1 ≤ n) (h : ∀ x ∈ l, 0 ≤ x ∧ x ≤ 255) : -(2 : Int) ^ (8 * n - 1) ≤ sgn n (fbNum l) ∧ sgn n (fbNum l) < (2 : Int) ^ (8 * n - 1) := by
  have hb := fbNum_nonneg h
  rw [hn, pow256] at hb
  have hs := pow_split h1
  rcases sgn_cases n (fbNum l) with ⟨e, _⟩ | ⟨e, _⟩ <;> omega

theorem chunk_packAll (n : Nat) : ∀ (l : List Int) (j : Nat) (x : Int), l[j]? = some x → chunk n (packAll n l) j = packOne n x := by
  intro l
  induction l with
  | nil => intro j x h; simp at h
  | cons y l ih =>
    intro j x h
    have e : packAll n (y :: l) = packOne n y ++ packAll n l := by simp [packAll]
    cases j with
    | zero =>
      simp at h; subst h
      unfold chunk
      rw [e, Nat.zero_mul, List.drop_zero, List.take_append_of_le_length (by rw [packOne_length]; exact Nat.le_refl _), List.take_of_length_le (by rw [packOne_length]; exact Nat.le_refl _)]
    | succ j =>
      have := ih j x (by simpa using h)
      unfold chunk at this ⊢
      rw [e, Nat.succ_mul, Nat.add_comm, ← List.drop_drop, List.drop_left' (packOne_length n y)]
      exact this

theorem unpack_pack {n : Nat} {l : List Int} (hn : 1 ≤ n) (h : ∀ x ∈ l, -(2 : Int) ^ (8 * n - 1) ≤ x ∧ x < (2 : Int) ^ (8 * n - 1)) : unpackAll n (packAll n l) l.length = l := by
  apply List.ext_getElem?
  intro i
  unfold unpackAll
  rw [List.getElem?_map]
  by_cases hi : i < l.length
  · have hx : l[i]? = some l[i] := by simp [hi]
    rw [List.getElem?_range hi, Option.map_some, chunk_packAll n l i _ hx, hx]
    have := h l[i] (List.getElem_mem hi)
    rw [sgn_packOne hn this.1 this.2]
  · rw [List.getElem?_eq_none (by simp; omega), List.getElem?_eq_none (by omega)]; rfl

theorem chunk_length {n m j : Nat} {b : List Int} (hb : b.length = m * n) (hj : j < m) : (chunk n b j).length = n := by
  unfold chunk
  rw [List.length_take, List.length_drop, hb]
  have : j * n + n ≤ m * n := by have := Nat.mul_le_mul_right n (Nat.succ_le_of_lt hj); rwa [Nat.succ_mul] at this
  omega

theorem chunk_mem {n j : Nat} {b : List Int} {x : Int} (h : x ∈ chunk n b j) : x ∈ b := List.mem_of_mem_drop (List.mem_of_mem_take h)

theorem pack_unpack {n : Nat} {b : List Int} (h : ∀ x ∈ b, 0 ≤ x ∧ x ≤ 255) : ∀ m, m * n ≤ b.length → packAll n (unpackAll n b m) = b.take (m * n) := by
  intro m
  induction m with
  | zero => intro _; simp [unpackAll, packAll]
  | succ m ih =>
    intro hm
    rw [Nat.succ_mul] at hm
    have hc : (chunk n b m).length = n := by
      unfold chunk; rw [List.length_take, List.length_drop]; omega
    rw [unpackAll_succ, packAll_snoc, ih (by omega), packOne_sgn hc (fun x hx => h x (chunk_mem hx)), Nat.succ_mul, List.take_add]
    rfl

theorem unpack_range {n m : Nat} {b : List Int} (hn : 1 ≤ n) (hb : b.length = m * n) (h : ∀ x ∈ b, 0 ≤ x ∧ x ≤ 255) : ∀ x ∈ unpackAll n b m, -(2 : Int) ^ (8 * n - 1) ≤ x ∧ x < (2 : Int) ^ (8 * n - 1) := by
  intro x hx
  obtain ⟨j, hj, rfl⟩ := List.mem_map.1 hx
  exact sgn_range (chunk_length hb (by simpa using hj)) hn fun y hy => h y (chunk_mem hy)

theorem packAll_get {n : Nat} {l : List Int} {i k : Nat} {x : Int} (hx : l[i]? = some x) (hk : k < n) : (packAll n l)[i * n + k]? = some (x / 2 ^ (8 * k) % 256) := by
  have h := chunk_packAll n l i x hx
  have h2 : (chunk n (packAll n l) i)[k]? = (packOne n x)[k]? := by rw [h]
  unfold chunk at h2
  rw [List.getElem?_take, if_pos hk, List.getElem?_drop] at h2
  rw [h2]
  simp [packOne, hk]

theorem unpack_ok (ch by_ : Nat) (a : Option Addr) (b : List Int) (cap m : Nat) (w : World) (a1 : 1 ≤ ch) (a2 : ch ≤ 8) (a3 : 1 ≤ by_) (a4 : by_ ≤ 4) (hl : b.length = m * by_) (hm : m ≤ 1000) (hd : b.length % (ch * by_) = 0)
    (hc : Cells w a (b.map (.int .u8))) (hz : ∀ x ∈ b, 0 ≤ x ∧ x ≤ 255) :
    Calls Try.prog 20 #[.agg #[.int .i64 ch, .int .i64 by_], .slice a b.length cap] w fun e w' => ∃ g, e = .returned (.tuple #[.slice (some ⟨g, 0, none⟩) m m, .int .i64 0]) ∧
      w'.ownsRow w.heap.size 21 1 (.slice (some ⟨g, 0, none⟩) m m) m ((unpackAll by_ b m).map (.int .i32)) ∧ Below w.heap.size w w' := by
  have hd' : ((m * by_ : Nat) : Int) % ((ch * by_ : Nat) : Int) = 0 := by rw [← hl]; omega
  have : by_ = 1 ∨ by_ = 2 ∨ by_ = 3 ∨ by_ = 4 := by omega
  rcases this with rfl | rfl | rfl | rfl
  · exact unpack_ok1 ch a b cap m w a1 a2 (by omega) hm (by simpa using hd') hc hz
  · exact unpack_ok2 ch a b cap m w a1 a2 hl hm (by simpa using hd') hc hz
  · exact unpack_ok3 ch a b cap m w a1 a2 hl hm (by simpa using hd') hc hz
  · exact unpack_ok4 ch a b cap m w a1 a2 hl hm (by simpa using hd') hc hz

end Go.Proofs.Ytphajgehfbimnaa
