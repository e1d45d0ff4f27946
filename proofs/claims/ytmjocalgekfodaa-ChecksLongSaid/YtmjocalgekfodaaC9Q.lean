/-
  The statement ChecksLong: the law's plain function is true.
  Conditions: none.
-/
import Derived.Test.YtmjocalgekfodaaC9P
namespace Go.Proofs.Ytmjocalgekfodaa
set_option linter.unusedVariables false
set_option linter.unusedSimpArgs false
set_option maxRecDepth 100000
set_option maxHeartbeats 2000000

def bitAt (l : List Nat) (i : Nat) : Nat := l.getD (i / 8) 0 / 2 ^ (i % 8) % 2
theorem bitAt_lt (l : List Nat) (i : Nat) : bitAt l i < 2 := Nat.mod_lt _ (by omega)
theorem allBits_range : ∀ l : List Nat, Chk.allBits l = (List.range (8 * l.length)).map (bitAt l) := by
  intro l
  induction l with
  | nil => rfl
  | cons x l ih =>
    show Chk.bitsN x 8 ++ Chk.allBits l = _
    rw [List.length_cons, show 8 * (l.length + 1) = 8 + 8 * l.length by omega, List.range_add, List.map_append, List.map_map, ih]
    congr 1
    apply List.map_congr_left
    intro i hi
    unfold bitAt
    simp only [Function.comp]
    rw [show (8 + i) / 8 = i / 8 + 1 by omega, show (8 + i) % 8 = i % 8 by omega, List.getD_cons_succ]
theorem xorL_map (f g : Nat → Nat) : ∀ l : List Nat, Chk.xorL (l.map f) (l.map g) = l.map (fun x => f x ^^^ g x) := by
  intro l
  induction l with
  | nil => rfl
  | cons a l ih => simp only [List.map_cons, Chk.xorL, ih]
def dif (p q : List Nat) (i : Nat) : Nat := bitAt p i ^^^ bitAt q i
theorem dif_lt (p q : List Nat) (i : Nat) : dif p q i < 2 := Nat.xor_lt_two_pow (n := 1) (bitAt_lt p i) (bitAt_lt q i)
theorem xor_bits (p q : List Nat) (h : q.length = p.length) : Chk.xorL (Chk.allBits p) (Chk.allBits q) = (List.range (8 * p.length)).map (dif p q) := by
  rw [allBits_range p, allBits_range q, h, xorL_map]
  rfl
theorem xor_bit (a b k : Nat) : (a ^^^ b) / 2 ^ k % 2 = (a / 2 ^ k % 2) ^^^ (b / 2 ^ k % 2) := by
  rw [← Nat.shiftRight_eq_div_pow, ← Nat.shiftRight_eq_div_pow, ← Nat.shiftRight_eq_div_pow, Chk.shr_xor, Chk.xor_mod2]
  rcases Nat.mod_two_eq_zero_or_one (a >>> k) with h1 | h1 <;> rcases Nat.mod_two_eq_zero_or_one (b >>> k) with h2 | h2 <;> rw [h1, h2, Nat.add_mod, h1, h2] <;> rfl
theorem two_bit (k m : Nat) : 2 ^ k / 2 ^ m % 2 = if k = m then 1 else 0 := by
  by_cases h : k = m
  · subst h; rw [if_pos rfl, Nat.div_self (Nat.two_pow_pos k)]
  · rw [if_neg h]
    by_cases h2 : k < m
    · rw [Nat.div_eq_of_lt (Nat.pow_lt_pow_right (by omega) h2)]
    · obtain ⟨d, rfl⟩ : ∃ d, k = m + (d + 1) := ⟨k - m - 1, by omega⟩
      rw [Nat.pow_add, Nat.mul_div_cancel_left _ (Nat.two_pow_pos m), Nat.pow_succ, Nat.mul_mod_left]
theorem bitAt_flip (q : List Nat) (at' j : Nat) (h : at' < 8 * q.length) : bitAt (q.set (at' / 8) (q.getD (at' / 8) 0 ^^^ 2 ^ (at' % 8))) j = bitAt q j ^^^ (if j = at' then 1 else 0) := by
  unfold bitAt
  have h1 : at' / 8 < q.length := by omega
  by_cases hj : j / 8 = at' / 8
  · rw [hj]
    have e : (q.set (at' / 8) (q.getD (at' / 8) 0 ^^^ 2 ^ (at' % 8))).getD (at' / 8) 0 = q.getD (at' / 8) 0 ^^^ 2 ^ (at' % 8) := by
      rw [List.getD_eq_getElem?_getD, List.getElem?_set_self h1]; rfl
    rw [e, xor_bit, two_bit]
    congr 1
    by_cases hm : at' % 8 = j % 8
    · rw [if_pos hm, if_pos (by omega)]
    · rw [if_neg hm, if_neg (by omega)]
  · have e : (q.set (at' / 8) (q.getD (at' / 8) 0 ^^^ 2 ^ (at' % 8))).getD (j / 8) 0 = q.getD (j / 8) 0 := by
      rw [List.getD_eq_getElem?_getD, List.getElem?_set_ne (fun h => hj h.symm), ← List.getD_eq_getElem?_getD]
    rw [e, if_neg (fun h => hj (by rw [h])), Nat.xor_zero]
theorem dif_flip (p q : List Nat) (at' j : Nat) (h : at' < 8 * q.length) : dif p (q.set (at' / 8) (q.getD (at' / 8) 0 ^^^ 2 ^ (at' % 8))) j = dif p q j ^^^ (if j = at' then 1 else 0) := by
  unfold dif
  rw [bitAt_flip q at' j h, Nat.xor_assoc]
theorem flip_lt (q : List Nat) (hq : ∀ x ∈ q, x < 256) (i k : Nat) (hk : k < 8) : ∀ x ∈ q.set i (q.getD i 0 ^^^ 2 ^ k), x < 256 := by
  intro x hx
  rcases List.mem_or_eq_of_mem_set hx with h | rfl
  · exact hq x h
  · exact Nat.xor_lt_two_pow (n := 8) (byte_at hq i) (Nat.pow_lt_pow_right (by omega) hk)
theorem ck_bad (m : Nat) (p0 q : List Nat) (hp : ∀ x ∈ p0, x < 256) (hq : ∀ x ∈ q, x < 256) (hlen : q.length = p0.length + 2) (hn : q.length ≤ 2000) (hm : 2000 < m)
    (hd : Chk.run 40961 0 (Chk.xorL (Chk.allBits (p0 ++ [Chk.sixteen p0 % 256, Chk.sixteen p0 / 256])) (Chk.allBits q)) ≠ 0) : ckcheckE_D m (nI q) = some ((10, ()), ()) := by
  have hs := sixteen_lt p0
  have ha : Chk.run 40961 65535 (Chk.allBits (p0 ++ [Chk.sixteen p0 % 256, Chk.sixteen p0 / 256])) = Chk.iter 40961 16 65535 := (Chk.accept_iff p0 _ _ (by omega) (by omega)).1 (by omega)
  have hb := Chk.accept_diff _ q (by rw [Chk.allBits_len, Chk.allBits_len]; simp; omega) ha hd
  rw [ckE_eq m q hq (by omega) hn hm, if_neg]
  intro h
  refine hb ?_
  have h1 := (Chk.accept_iff (q.take (q.length - 2)) _ _ (byte_at hq (q.length - 2)) (byte_at hq (q.length - 1))).1 h
  have e : q.take (q.length - 2) ++ [q.getD (q.length - 2) 0, q.getD (q.length - 1) 0] = q := by
    conv => rhs; rw [← List.take_append_drop (q.length - 2) q]
    congr 1
    have a1 : q.length - 2 < q.length := by omega
    have a2 : q.length - 1 < q.length := by omega
    rw [drop_get a1, getD_lt a1, getD_lt a2, show q.length - 2 + 1 = q.length - 1 by omega, drop_get a2, List.drop_of_length_le (by omega)]
  rw [e] at h1
  exact h1
theorem ck_tot (m : Nat) (q : List Nat) (hq : ∀ x ∈ q, x < 256) (h2 : 2 ≤ q.length) (hn : q.length ≤ 2000) (hm : 2000 < m) : ∃ e, ckcheckE_D m (nI q) = some ((e, ()), ()) := by
  rw [ckE_eq m q hq h2 hn hm]
  split
  · exact ⟨0, rfl⟩
  · exact ⟨10, rfl⟩
theorem L0_eq (m : Nat) (b : List Nat) (hb : ∀ x ∈ b, x < 256) (t : Nat) (ht : t < 256) (x : List Int × Int × Unit) (hbt : b.length * t ≤ 1024) : ∀ (f i : Nat) (acc : List Nat), (∀ x ∈ acc, x < 256) → i ≤ t → acc.length = b.length * i → t - i < f →
    ∃ l, long_L0 m f (nI b) (t : Int) (i : Int) x (nI acc) = some ((), (x, (nI l, ()))) ∧ (∀ x ∈ l, x < 256) ∧ l.length = b.length * t := by
  intro f
  induction f with
  | zero => intro i acc _ _ _ h; omega
  | succ f ih =>
    intro i acc hacc hi hlen hf
    rw [long_L0, wi64 (x := (t : Int)) (by omega) (by omega)]
    by_cases hlt : i < t
    · have hle : b.length * i ≤ b.length * t := Nat.mul_le_mul_left _ hi
      have hbl : b.length ≤ b.length * t := by
        have : b.length * 1 ≤ b.length * t := Nat.mul_le_mul_left _ (by omega)
        omega
      rw [dT (by omega), cond_true, nI_len, nI_len, gr1 _ (by omega), cond_true, wi64 (by omega) (by omega), show ((i : Int) + 1) = ((i + 1 : Nat) : Int) by omega, nI_app]
      refine ih (i + 1) _ ?_ (by omega) (by rw [List.length_append, hlen, Nat.mul_succ]) (by omega)
      intro y hy
      rcases List.mem_append.1 hy with h | h
      · exact hacc y h
      · exact hb y h
    · have : i = t := by omega
      subst this
      rw [dF (by omega), cond_false]
      exact ⟨acc, rfl, hacc, hlen⟩
theorem pw8 (k : Nat) (h : k ≤ 8) : (2 : Int) ^ Min.min (Int.toNat (k : Int)) (Go.IntKind.bits Go.IntKind.u8) = ((2 ^ k : Nat) : Int) := pw k 8 h
theorem turn8 (q : List Nat) (hq : ∀ x ∈ q, x < 256) (at' : Nat) (ha : at' < 1000000) :
    Go.bits .xor .u8 ((nI q).getD (at' / 8) 0) (Go.IntKind.wrap .u8 ((1 : Int) * (2 : Int) ^ Min.min (Int.toNat (Go.IntKind.wrap .u64 ((at' % 8 : Nat) : Int))) (Go.IntKind.bits .u8))) = ((q.getD (at' / 8) 0 ^^^ 2 ^ (at' % 8) : Nat) : Int) := by
  have h8 : at' % 8 < 8 := Nat.mod_lt _ (by omega)
  have h2 : 2 ^ (at' % 8) < 256 := Nat.pow_lt_pow_right (n := 8) (a := 2) (by omega) h8
  rw [w64 (by omega) (by omega), pw8 _ (by omega), nI_get]
  generalize 2 ^ (at' % 8) = z at *
  rw [w8 (by omega) (by omega), show (1 : Int) * (z : Int) = (z : Int) by omega, xor8 _ _ (byte_at hq _) h2]
theorem td (a b : Nat) : Int.tdiv (a : Int) (b : Int) = ((a / b : Nat) : Int) := by rw [Int.tdiv_eq_ediv_of_nonneg (by omega)]; rfl
theorem tm (a b : Nat) : Int.tmod (a : Int) (b : Int) = ((a % b : Nat) : Int) := by rw [Int.tmod_eq_emod_of_nonneg (by omega)]; rfl
theorem L1_eq (m : Nat) (p : List Int) (N : Nat) (A : List Nat) (B : Int) (hN : 0 < N) (hN2 : N ≤ 100000) (hA : ∀ x ∈ A, x < 65536) (hAl : A.length ≤ 1000) : ∀ (f i : Nat) (q : List Nat), (∀ x ∈ q, x < 256) → 8 * q.length = N → i ≤ A.length → A.length - i < f →
    ∃ q', long_L1 m f (N : Int) (i : Int) (nI A, B, ()) (nI q) p = some (((N : Int), ()), ((nI A, B, ()), (nI q', (p, ())))) ∧ (∀ x ∈ q', x < 256) ∧ q'.length = q.length := by
  intro f
  induction f with
  | zero => intro i q _ _ _ h; omega
  | succ f ih =>
    intro i q hq hqN hi hf
    rw [long_L1]
    simp only [nI_len]
    by_cases hlt : i < A.length
    · have hx : A.getD i 0 < 65536 := by
        rw [List.getD_eq_getElem?_getD, List.getElem?_eq_getElem hlt]; exact hA _ (List.getElem_mem hlt)
      have hat : A.getD i 0 % N < N := Nat.mod_lt _ hN
      have e1 : Int.tmod (Go.IntKind.wrap .i64 ((nI A).getD i 0)) (N : Int) = ((A.getD i 0 % N : Nat) : Int) := by
        rw [nI_get, wi64 (by omega) (by omega), tm]
      have e2 : Int.tdiv ((A.getD i 0 % N : Nat) : Int) (8 : Int) = ((A.getD i 0 % N / 8 : Nat) : Int) := td _ 8
      have e3 : Int.tmod ((A.getD i 0 % N : Nat) : Int) (8 : Int) = ((A.getD i 0 % N % 8 : Nat) : Int) := tm _ 8
      have e4 : Go.IntKind.wrap .i64 ((A.getD i 0 % N / 8 : Nat) : Int) = ((A.getD i 0 % N / 8 : Nat) : Int) := wi64 (by omega) (by omega)
      have e5 := turn8 q hq (A.getD i 0 % N) (by omega)
      have e6 : Go.IntKind.wrap .u64 ((A.getD i 0 % N % 8 : Nat) : Int) = ((A.getD i 0 % N % 8 : Nat) : Int) := w64 (by omega) (by omega)
      have hin : A.getD i 0 % N / 8 < q.length := by omega
      simp only [Int.toNat_natCast, e1, e2, e3, e4, e5]
      rw [dT (by omega), cond_true, inT (by omega) (by omega), cond_true, dF (show ¬ (N : Int) = 0 by omega), Bool.not_false, cond_true, inT (by omega) (by omega), cond_true, dT hin, cond_true, e6, dT (by omega), cond_true, cond_true, cond_true, wi64 (x := (i : Int) + 1) (by omega) (by omega), show ((i : Int) + 1) = ((i + 1 : Nat) : Int) by omega, nI_set]
      obtain ⟨q', h1, h2, h3⟩ := ih (i + 1) _ (flip_lt q hq (A.getD i 0 % N / 8) (A.getD i 0 % N % 8) (Nat.mod_lt _ (by omega))) (by rw [List.length_set]; exact hqN) (by omega) (by omega)
      exact ⟨q', h1, h2, by rw [h3, List.length_set]⟩
    · rw [dF (by omega), cond_false]
      exact ⟨q, rfl, hq, rfl⟩
theorem L2_eq (m : Nat) (p q : List Nat) (hp : ∀ x ∈ p, x < 256) (hq : ∀ x ∈ q, x < 256) (hl : q.length = p.length) (hn : p.length ≤ 2000) (x : List Int × Int × Unit) : ∀ (f i : Nat), i ≤ 8 * p.length → 8 * p.length - i < f →
    long_L2 m f ((8 * p.length : Nat) : Int) ((((List.range i).map (dif p q)).sum : Nat) : Int) (i : Int) x (nI q) (nI p) = some ((((8 * p.length : Nat) : Int), (((((List.range (8 * p.length)).map (dif p q)).sum : Nat) : Int), ())), (x, (nI q, (nI p, ())))) := by
  intro f
  induction f with
  | zero => intro i _ h; omega
  | succ f ih =>
    intro i hi hf
    rw [long_L2]
    have hsum : ((List.range i).map (dif p q)).sum ≤ i := by
      have : ∀ n, ((List.range n).map (dif p q)).sum ≤ n := by
        intro n
        induction n with
        | zero => simp
        | succ n ihn =>
          rw [List.range_succ, List.map_append, List.sum_append]
          have := dif_lt p q n
          simp only [List.map_cons, List.map_nil, List.sum_cons, List.sum_nil]
          omega
      exact this i
    by_cases hlt : i < 8 * p.length
    · have e2 : Int.tdiv (i : Int) (8 : Int) = ((i / 8 : Nat) : Int) := td _ 8
      have e3 : Int.tmod (i : Int) (8 : Int) = ((i % 8 : Nat) : Int) := tm _ 8
      have e4 : Go.IntKind.wrap .i64 ((i / 8 : Nat) : Int) = ((i / 8 : Nat) : Int) := wi64 (by omega) (by omega)
      have e6 : Go.IntKind.wrap .u64 ((i % 8 : Nat) : Int) = ((i % 8 : Nat) : Int) := w64 (by omega) (by omega)
      have h8 : i % 8 < 8 := Nat.mod_lt _ (by omega)
      have hx : p.getD (i / 8) 0 ^^^ q.getD (i / 8) 0 < 256 := Nat.xor_lt_two_pow (n := 8) (byte_at hp _) (byte_at hq _)
      have hd : (p.getD (i / 8) 0 ^^^ q.getD (i / 8) 0) / 2 ^ (i % 8) < 256 := Nat.lt_of_le_of_lt (Nat.div_le_self _ _) hx
      have e7 : Go.IntKind.wrap .i64 (Go.bits .and .u8 (Int.fdiv (Go.bits .xor .u8 ((nI p).getD (i / 8) 0) ((nI q).getD (i / 8) 0)) ((2 : Int) ^ Min.min (Int.toNat ((i % 8 : Nat) : Int)) (Go.IntKind.bits .u8))) 1) = ((dif p q i : Nat) : Int) := by
        rw [nI_get, nI_get, xor8 _ _ (byte_at hp _) (byte_at hq _), pw8 _ (by omega), fd, and8_1 _ hd, wi64 (by omega) (by omega), xor_bit]
        rfl
      have hdl := dif_lt p q i
      simp only [e2, e3, e4, e6, Int.toNat_natCast, nI_len]
      simp only [Int.toNat_natCast] at e7
      simp only [e7]
      rw [dT (by omega), cond_true, inT (by omega) (by omega), cond_true, dT (by omega), cond_true, inT (by omega) (by omega), cond_true, dT (by omega), cond_true, dT (by omega), cond_true, wi64 (by omega) (by omega), wi64 (x := (i : Int) + 1) (by omega) (by omega), show ((i : Int) + 1) = ((i + 1 : Nat) : Int) by omega]
      have es : ((((List.range i).map (dif p q)).sum : Nat) : Int) + ((dif p q i : Nat) : Int) = ((((List.range (i + 1)).map (dif p q)).sum : Nat) : Int) := by
        rw [List.range_succ, List.map_append, List.sum_append]
        simp
      rw [es]
      exact ih (i + 1) (by omega) (by omega)
    · have : i = 8 * p.length := by omega
      subst this
      rw [dF (by omega), cond_false]
theorem pw16 (k : Nat) (h : k ≤ 16) : (2 : Int) ^ Min.min (Int.toNat (k : Int)) (Go.IntKind.bits Go.IntKind.u16) = ((2 ^ k : Nat) : Int) := pw k 16 h
theorem and16_1 (a : Nat) (ha : a < 65536) : Go.bits Go.BinOp.and Go.IntKind.u16 (a : Int) (1 : Int) = ((a % 2 : Nat) : Int) := by
  show Go.IntKind.wrap .u16 ((BitVec.ofInt 16 (a : Int) &&& BitVec.ofInt 16 ((1 : Nat) : Int)).toNat : Int) = _
  rw [ba 16 a 1 (by omega) (by omega), and_mask a 1, w16 (by omega) (by omega)]
def burstD (a0 B i j : Nat) : Nat := if a0 ≤ j ∧ j < a0 + i then B / 2 ^ (j - a0) % 2 else 0
theorem J4_eq {R : Type} (m N i : Nat) (ch : Bool) (A : List Nat) (B : Nat) (q : List Nat) (hN : 0 < N) (hN2 : N ≤ 100000) (hA : ∀ x ∈ A, x < 65536) (hA0 : 0 < A.length) (hB : B < 65536) (hq : ∀ x ∈ q, x < 256) (hqN : 8 * q.length = N) (hi : i < 16) (k : Bool → List Int → Option R) :
    long_J4 m (N : Int) ch (i : Int) (nI A, (B : Int), ()) (nI q) k = if A.getD 0 0 % N + i < N ∧ B / 2 ^ i % 2 = 1 then k true (nI (q.set ((A.getD 0 0 % N + i) / 8) (q.getD ((A.getD 0 0 % N + i) / 8) 0 ^^^ 2 ^ ((A.getD 0 0 % N + i) % 8)))) else k ch (nI q) := by
  have hx : A.getD 0 0 < 65536 := by
    rw [List.getD_eq_getElem?_getD, List.getElem?_eq_getElem hA0]; exact hA _ (List.getElem_mem hA0)
  have hat : A.getD 0 0 % N < N := Nat.mod_lt _ hN
  unfold long_J4 long_J3
  simp only [nI_len]
  have e1 : Int.tmod (Go.IntKind.wrap .i64 ((nI A).getD (Int.toNat (0 : Int)) 0)) (N : Int) = ((A.getD 0 0 % N : Nat) : Int) := by
    rw [show Int.toNat (0 : Int) = 0 from rfl, nI_get, wi64 (by omega) (by omega), tm]
  have e2 : Go.IntKind.wrap .i64 (((A.getD 0 0 % N : Nat) : Int) + (i : Int)) = ((A.getD 0 0 % N + i : Nat) : Int) := by rw [wi64 (by omega) (by omega)]; omega
  have e3 : Go.IntKind.wrap .u64 (i : Int) = (i : Int) := w64 (by omega) (by omega)
  have hb2 : B / 2 ^ i < 65536 := Nat.lt_of_le_of_lt (Nat.div_le_self _ _) hB
  have e4 : Go.bits .and .u16 (Int.fdiv (B : Int) ((2 : Int) ^ Min.min (Int.toNat (i : Int)) (Go.IntKind.bits .u16))) 1 = ((B / 2 ^ i % 2 : Nat) : Int) := by
    rw [pw16 i (by omega), fd, and16_1 _ hb2]
  simp only [e1, e2, e3, e4]
  rw [inT (by omega) (by omega), cond_true, dF (show ¬ (N : Int) = 0 by omega), Bool.not_false, cond_true, dT (show (0 : Int) ≤ (i : Int) by omega), cond_true]
  generalize hgen : A.getD 0 0 % N + i = a at *
  by_cases h1 : a < N
  · rw [dT (by omega), cond_true]
    by_cases h2 : B / 2 ^ i % 2 = 1
    · have f2 : Int.tdiv (a : Int) (8 : Int) = ((a / 8 : Nat) : Int) := td _ 8
      have f3 : Int.tmod (a : Int) (8 : Int) = ((a % 8 : Nat) : Int) := tm _ 8
      have f4 : Go.IntKind.wrap .i64 ((a / 8 : Nat) : Int) = ((a / 8 : Nat) : Int) := wi64 (by omega) (by omega)
      have f6 : Go.IntKind.wrap .u64 ((a % 8 : Nat) : Int) = ((a % 8 : Nat) : Int) := w64 (by omega) (by omega)
      have f5 := turn8 q hq a (by omega)
      have hin : a / 8 < q.length := by omega
      simp only [f2, f3, f4, Int.toNat_natCast, f5]
      rw [dT (by omega), cond_true, inT (by omega) (by omega), cond_true, dT hin, cond_true, f6, dT (by omega), cond_true, cond_true, cond_true, if_pos ⟨h1, h2⟩, nI_set]
    · rw [dF (by omega), cond_false, if_neg (fun h => h2 h.2)]
  · rw [dF (by omega), cond_false, if_neg (fun h => h1 h.1)]
theorem L3_eq (m N : Nat) (A : List Nat) (B : Nat) (p : List Nat) (hN : 0 < N) (hN2 : N ≤ 100000) (hA : ∀ x ∈ A, x < 65536) (hA0 : 0 < A.length) (hB : B < 65536) (hpN : 8 * p.length = N) : ∀ (f i : Nat) (ch : Bool) (q : List Nat), i ≤ 16 → 16 - i < f → (∀ x ∈ q, x < 256) → q.length = p.length →
    (∀ j, j < N → dif p q j = burstD (A.getD 0 0 % N) B i j) → (ch = true → ∃ k, k < i ∧ A.getD 0 0 % N + k < N ∧ B / 2 ^ k % 2 = 1) →
    ∃ ch' q', long_L3 m f (N : Int) ch (i : Int) (nI A, (B : Int), ()) (nI q) = some ((ch', ()), (nI q', ())) ∧ (∀ x ∈ q', x < 256) ∧ q'.length = p.length ∧ (∀ j, j < N → dif p q' j = burstD (A.getD 0 0 % N) B 16 j) ∧ (ch' = true → ∃ k, k < 16 ∧ A.getD 0 0 % N + k < N ∧ B / 2 ^ k % 2 = 1) := by
  intro f
  induction f with
  | zero => intro i ch q _ h; omega
  | succ f ih =>
    intro i ch q hi hf hq hqp hd hch
    rw [long_L3]
    by_cases hlt : i < 16
    · rw [dT (by omega), cond_true, J4_eq m N i ch A B q hN hN2 hA hA0 hB hq (by omega) hlt]
      have hw : Go.IntKind.wrap .i64 ((i : Int) + 1) = ((i + 1 : Nat) : Int) := by rw [wi64 (by omega) (by omega)]; omega
      simp only [hw]
      by_cases hc : A.getD 0 0 % N + i < N ∧ B / 2 ^ i % 2 = 1
      · rw [if_pos hc]
        refine ih (i + 1) true _ (by omega) (by omega) (flip_lt q hq _ ((A.getD 0 0 % N + i) % 8) (Nat.mod_lt _ (by omega))) (by rw [List.length_set]; exact hqp) ?_ (fun _ => ⟨i, by omega, hc.1, hc.2⟩)
        intro j hj
        rw [dif_flip p q _ j (by omega), hd j hj]
        unfold burstD
        by_cases e : j = A.getD 0 0 % N + i
        · subst e
          rw [if_neg (by omega), if_pos rfl, if_pos (by omega), show A.getD 0 0 % N + i - A.getD 0 0 % N = i by omega, hc.2]
          rfl
        · rw [if_neg e, Nat.xor_zero]
          by_cases e2 : A.getD 0 0 % N ≤ j ∧ j < A.getD 0 0 % N + i
          · rw [if_pos e2, if_pos (by omega)]
          · rw [if_neg e2, if_neg (by omega)]
      · rw [if_neg hc]
        refine ih (i + 1) ch q (by omega) (by omega) hq hqp ?_ (fun h => by obtain ⟨k, h1, h2, h3⟩ := hch h; exact ⟨k, by omega, h2, h3⟩)
        intro j hj
        rw [hd j hj]
        unfold burstD
        by_cases e : j = A.getD 0 0 % N + i
        · subst e
          have h0 : B / 2 ^ i % 2 = 0 := by
            rcases Nat.mod_two_eq_zero_or_one (B / 2 ^ i) with h | h
            · exact h
            · exact absurd ⟨hj, h⟩ hc
          rw [if_neg (by omega), if_pos (by omega), show A.getD 0 0 % N + i - A.getD 0 0 % N = i by omega, h0]
        · by_cases e2 : A.getD 0 0 % N ≤ j ∧ j < A.getD 0 0 % N + i
          · rw [if_pos e2, if_pos (by omega)]
          · rw [if_neg e2, if_neg (by omega)]
    · have : i = 16 := by omega
      subst this
      rw [dF (by omega), cond_false]
      exact ⟨ch, q, rfl, hq, hqp, hd, hch⟩
theorem burst_list (N a0 B : Nat) (h : a0 < N) : (List.range N).map (burstD a0 B 16) = List.replicate a0 0 ++ (Chk.bitsN (B % 2 ^ min 16 (N - a0)) (min 16 (N - a0)) ++ List.replicate (N - a0 - min 16 (N - a0)) 0) := by
  obtain ⟨M, hM⟩ : ∃ M, M = min 16 (N - a0) := ⟨_, rfl⟩
  rw [← hM]
  have e : N = a0 + (M + (N - a0 - M)) := by omega
  conv => lhs; rw [e]
  rw [List.range_add, List.range_add, List.map_append, List.map_append, List.map_append, List.map_map, List.map_map, List.map_map]
  congr 1
  · apply List.ext_getElem
    · simp
    · intro i h1 h2
      simp only [List.getElem_map, List.getElem_range, List.getElem_replicate]
      simp only [List.length_map, List.length_range] at h1
      unfold burstD
      rw [if_neg (by omega)]
  · congr 1
    · unfold Chk.bitsN
      apply List.map_congr_left
      intro i hi
      have hi' : i < M := by simpa using hi
      simp only [Function.comp]
      unfold burstD
      rw [if_pos (by omega), show a0 + i - a0 = i by omega]
      have e3 : (2 : Nat) ^ M = 2 ^ i * (2 * 2 ^ (M - i - 1)) := by
        rw [← Nat.mul_assoc, ← Nat.pow_succ, ← Nat.pow_add]; congr 1; omega
      rw [e3, Nat.mod_mul_right_div_self, Nat.mod_mul_right_mod]
    · apply List.ext_getElem
      · simp
      · intro i h1 h2
        simp only [List.getElem_map, List.getElem_range, List.getElem_replicate, Function.comp]
        simp only [List.length_map, List.length_range] at h1
        unfold burstD
        rw [if_neg (by omega)]
theorem burst_nz (N a0 B k : Nat) (hk : k < 16) (h1 : a0 + k < N) (h2 : B / 2 ^ k % 2 = 1) : B % 2 ^ min 16 (N - a0) ≠ 0 := by
  intro h
  have hkM : k < min 16 (N - a0) := by omega
  generalize min 16 (N - a0) = M at *
  have e3 : (2 : Nat) ^ M = 2 ^ k * (2 * 2 ^ (M - k - 1)) := by
    rw [← Nat.mul_assoc, ← Nat.pow_succ, ← Nat.pow_add]; congr 1; omega
  have := Nat.mod_mul_right_div_self B (2 ^ k) (2 * 2 ^ (M - k - 1))
  rw [← e3, h, Nat.zero_div] at this
  have h3 : B / 2 ^ k % (2 * 2 ^ (M - k - 1)) % 2 = B / 2 ^ k % 2 := Nat.mod_mul_right_mod _ _ _
  rw [← this, h2] at h3
  omega
theorem long_true (m : Nat) (hm : 10000 ≤ m) (b A : List Nat) (t B : Nat) (hb : ∀ x ∈ b, x < 256) (ht : t < 256) (hA : ∀ x ∈ A, x < 65536) (hB : B < 65536) : long_D m (nI b) (t : Int) (nI A, (B : Int), ()) = some (true, ()) := by
  unfold long_D long_J0
  have lv : lives2_D m = some (true, ()) := rfl
  simp only [nI_len]
  by_cases h1 : 60 < b.length
  · rw [dT (by omega), cond_true, cond_true]
  rw [dF (by omega), cond_false]
  have hmul : ((b.length : Nat) : Int) * (t : Int) = ((b.length * t : Nat) : Int) := by rw [Int.natCast_mul]
  have hle : b.length * t ≤ 60 * 255 := Nat.mul_le_mul (by omega) (by omega)
  rw [wi64 (x := (t : Int)) (by omega) (by omega), hmul, wi64 (by omega) (by omega)]
  by_cases h2 : 1024 < b.length * t
  · rw [dT (by omega), cond_true, cond_true]
  rw [dF (by omega), cond_false]
  by_cases h3 : 31 < A.length
  · rw [dT (by omega), cond_true]
  rw [dF (by omega), cond_false]
  obtain ⟨p0, hp0, hp8, hpl⟩ := L0_eq m b hb t ht (nI A, (B : Int), ()) (by omega) m 0 [] (by simp) (by omega) (by simp) (by omega)
  rw [show ((0 : Nat) : Int) = 0 from rfl, show nI [] = [] from rfl] at hp0
  rw [hp0, bnd_some]
  simp only
  rw [add_nI m p0 hp8 (by omega) (by omega), bnd_some]
  simp only
  obtain ⟨p, hp⟩ : ∃ p, p = p0 ++ [Chk.sixteen p0 % 256, Chk.sixteen p0 / 256] := ⟨_, rfl⟩
  rw [← hp]
  have hs := sixteen_lt p0
  have hlen : p.length = p0.length + 2 := by rw [hp]; simp
  have hp256 : ∀ x ∈ p, x < 256 := by
    rw [hp]
    intro x hx
    rcases List.mem_append.1 hx with h | h
    · exact hp8 x h
    · simp only [List.mem_cons, List.not_mem_nil, or_false] at h
      omega
  have hw8 : Go.IntKind.wrap .i64 ((8 : Int) * (p.length : Int)) = ((8 * p.length : Nat) : Int) := by rw [wi64 (by omega) (by omega)]; omega
  have hg : growOb 1 (0 + p.length) = true := gr1 _ (by omega)
  simp only [nI_len, hw8, hg, List.nil_append]
  rw [dF (by omega), cond_false, cond_true]
  obtain ⟨q, hq, hq8, hql⟩ := L1_eq m (nI p) (8 * p.length) A (B : Int) (by omega) (by omega) hA (by omega) m 0 p hp256 rfl (by omega) (by omega)
  rw [show ((0 : Nat) : Int) = 0 from rfl] at hq
  rw [hq, bnd_some]
  simp only
  have h2' := L2_eq m p q hp256 hq8 hql (by omega) (nI A, (B : Int), ()) m 0 (by omega) (by omega)
  rw [show (((List.range 0).map (dif p q)).sum : Nat) = 0 from rfl, show ((0 : Nat) : Int) = 0 from rfl] at h2'
  rw [h2', bnd_some]
  simp only
  obtain ⟨e, he⟩ := ck_tot m q hq8 (by omega) (by omega) (by omega)
  have hbit : ∀ x ∈ (List.range (8 * p.length)).map (dif p q), x < 2 := by
    intro x hx
    obtain ⟨i, _, rfl⟩ := List.mem_map.1 hx
    exact dif_lt p q i
  have hbad : Chk.run 40961 0 ((List.range (8 * p.length)).map (dif p q)) ≠ 0 → e = 10 := by
    intro h
    have := ck_bad m p0 q hp8 hq8 (by omega) (by omega) (by omega) (by rw [← hp, xor_bits p q hql]; exact h)
    rw [he] at this
    simpa using this
  rw [he, bnd_some]
  simp only
  generalize hsum : ((List.range (8 * p.length)).map (dif p q)).sum = S at *
  have hj1 : long_J1 m ((8 * p.length : Nat) : Int) (S : Int) e (nI A, (B : Int), ()) (nI p) = fun (k : Bool → Option (Bool × Unit)) => k false := by
    funext k
    unfold long_J1
    have em : Int.tmod (S : Int) (2 : Int) = ((S % 2 : Nat) : Int) := tm _ 2
    rw [em]
    by_cases c1 : S % 2 = 1
    · have := hbad (Chk.long_odd _ hbit (by rw [hsum]; exact c1))
      rw [dT (by omega), cond_true, dT this, Bool.not_true]
    · rw [dF (by omega), cond_false]
      by_cases c2 : S = 2
      · have := hbad (Chk.long_two _ Chk.long_meets hbit (by rw [hsum]; exact c2) (by simp; omega))
        rw [dT (by omega), cond_true, dT this, Bool.not_true]
      · rw [dF (by omega), cond_false]
  rw [hj1]
  simp only [cond_false]
  unfold long_J2
  simp only [nI_len]
  by_cases hA0 : A.length = 0
  · rw [dT (by omega), cond_true, cond_true, lv, bnd_some]
  rw [dF (by omega), cond_false]
  by_cases hB0 : B = 0
  · rw [dT (by omega), cond_true, lv, bnd_some]
  rw [dF (by omega), cond_false, hg, cond_true]
  have hself : ∀ j, j < 8 * p.length → dif p p j = burstD (A.getD 0 0 % (8 * p.length)) B 0 j := by
    intro j _
    unfold dif burstD
    rw [Nat.xor_self, if_neg (by omega)]
  obtain ⟨ch, q2, g1, g2, g3, g4, g5⟩ := L3_eq m (8 * p.length) A B p (by omega) (by omega) hA (by omega) hB rfl m 0 false p (by omega) (by omega) hp256 rfl hself (by simp)
  rw [show ((0 : Nat) : Int) = 0 from rfl] at g1
  rw [g1, bnd_some]
  simp only
  obtain ⟨e2, he2⟩ := ck_tot m q2 g2 (by omega) (by omega) (by omega)
  rw [he2, bnd_some]
  simp only
  unfold long_J5
  cases ch with
  | false => rw [Bool.not_false, cond_true, lv, bnd_some]
  | true =>
    obtain ⟨k, k1, k2, k3⟩ := g5 rfl
    have hat : A.getD 0 0 % (8 * p.length) < 8 * p.length := Nat.mod_lt _ (by omega)
    have hx : Chk.run 40961 0 (Chk.xorL (Chk.allBits p) (Chk.allBits q2)) ≠ 0 := by
      rw [xor_bits p q2 g3]
      have e4 : (List.range (8 * p.length)).map (dif p q2) = (List.range (8 * p.length)).map (burstD (A.getD 0 0 % (8 * p.length)) B 16) := List.map_congr_left (fun j hj => g4 j (by simpa using hj))
      rw [e4, burst_list _ _ _ hat]
      exact Chk.long_burst _ _ _ _ (by omega) (Nat.mod_lt _ (Nat.two_pow_pos _)) (burst_nz _ _ _ k k1 k2 k3)
    have := ck_bad m p0 q2 hp8 g2 (by omega) (by omega) (by omega) (by rw [← hp]; exact hx)
    rw [he2] at this
    have e10 : e2 = 10 := by simpa using this
    rw [Bool.not_true, cond_false, dT e10, cond_true, lv, bnd_some]
end Go.Proofs.Ytmjocalgekfodaa

