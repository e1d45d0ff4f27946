/-
  Check sequences, in plain arithmetic: the register that shifts, the reference's list of bits, and what errors it finds.
-/
set_option linter.unusedVariables false
namespace Go.Proofs.YtpdbekbobkjfgaaDoor.Chk

def stp (P r b : Nat) : Nat := if (r ^^^ b) % 2 = 1 then (r >>> 1) ^^^ P else r >>> 1
def T (P r : Nat) : Nat := if r % 2 = 1 then (r >>> 1) ^^^ P else r >>> 1
def bitsN (v n : Nat) : List Nat := (List.range n).map fun i => v / 2 ^ i % 2
def run (P r : Nat) (l : List Nat) : Nat := l.foldl (stp P) r
def five (v n : Nat) : Nat := run 20 31 (bitsN v n) ^^^ 31

theorem xor_mod2 (a b : Nat) : (a ^^^ b) % 2 = (a + b) % 2 := by
  have h := Nat.xor_mod_two_eq_one (a := a) (b := b)
  by_cases hx : (a ^^^ b) % 2 = 1
  · have := h.1 hx; omega
  · have : (a % 2 = 1 ↔ b % 2 = 1) := Decidable.byContradiction fun hn => hx (h.2 hn)
    omega
theorem shr_xor (a b k : Nat) : (a ^^^ b) >>> k = (a >>> k) ^^^ (b >>> k) := Nat.shiftRight_xor_distrib

theorem stp_T (P r b : Nat) (hb : b < 2) : stp P r b = T P (r ^^^ b) := by
  unfold stp T
  have h0 : b >>> 1 = 0 := by rw [Nat.shiftRight_eq_div_pow]; omega
  rw [shr_xor, h0, Nat.xor_zero]

theorem T_xor (P a b : Nat) : T P (a ^^^ b) = T P a ^^^ T P b := by
  unfold T
  rw [xor_mod2, shr_xor]
  rcases Nat.mod_two_eq_zero_or_one a with ha | ha <;> rcases Nat.mod_two_eq_zero_or_one b with hb | hb
  · rw [if_neg (by omega), if_neg (by omega), if_neg (by omega)]
  · rw [if_pos (by omega), if_neg (by omega), if_pos hb, Nat.xor_assoc]
  · rw [if_pos (by omega), if_pos ha, if_neg (by omega)]
    rw [Nat.xor_assoc, Nat.xor_comm (b >>> 1) P, ← Nat.xor_assoc]
  · rw [if_neg (by omega), if_pos ha, if_pos hb]
    have : (a >>> 1 ^^^ P) ^^^ (b >>> 1 ^^^ P) = (a >>> 1 ^^^ b >>> 1) ^^^ (P ^^^ P) := by
      rw [Nat.xor_assoc, Nat.xor_assoc]; congr 1
      rw [← Nat.xor_assoc, Nat.xor_comm P (b >>> 1), Nat.xor_assoc]
    rw [this, Nat.xor_self, Nat.xor_zero]

theorem T_lt (P d r : Nat) (hP : P < 2 ^ d) (hr : r < 2 ^ d) : T P r < 2 ^ d := by
  have h1 : r >>> 1 < 2 ^ d := by rw [Nat.shiftRight_eq_div_pow]; omega
  unfold T
  split
  · exact Nat.xor_lt_two_pow h1 hP
  · exact h1
theorem stp_lt (P d r b : Nat) (hP : P < 2 ^ d) (hr : r < 2 ^ d) : stp P r b < 2 ^ d := by
  have h1 : r >>> 1 < 2 ^ d := by rw [Nat.shiftRight_eq_div_pow]; omega
  unfold stp
  split
  · exact Nat.xor_lt_two_pow h1 hP
  · exact h1
theorem run_lt (P d : Nat) (hP : P < 2 ^ d) : ∀ (l : List Nat) (r : Nat), r < 2 ^ d → run P r l < 2 ^ d := by
  intro l
  induction l with
  | nil => intro r h; exact h
  | cons b l ih => intro r h; exact ih _ (stp_lt P d r b hP h)

theorem bitsN_lt (v n : Nat) : ∀ b ∈ bitsN v n, b < 2 := by
  intro b hb
  obtain ⟨i, _, rfl⟩ := List.mem_map.1 hb
  exact Nat.mod_lt _ (by decide)
theorem bitsN_succ (v n : Nat) : bitsN v (n + 1) = bitsN v n ++ [v / 2 ^ n % 2] := by
  simp [bitsN, List.range_succ]
theorem bitsN_len (v n : Nat) : (bitsN v n).length = n := by simp [bitsN]
theorem run_snoc (P r : Nat) (l : List Nat) (b : Nat) : run P r (l ++ [b]) = stp P (run P r l) b := by simp [run]





def regOf (d r : Nat) : List Nat := (List.range d).map fun j => (r >>> (d - 1 - j)) % 2
def refStep (poly r : List Nat) (b : Nat) : List Nat :=
  (List.range r.length).map fun j => if j = 0 then (r.getD (r.length - 1) 0 + b) % 2 * poly.getD 0 0 else (r.getD (j - 1) 0 + (r.getD (r.length - 1) 0 + b) % 2 * poly.getD j 0) % 2

theorem regOf_len (d r : Nat) : (regOf d r).length = d := by simp [regOf]
theorem regOf_getD (d r j : Nat) (h : j < d) : (regOf d r).getD j 0 = (r >>> (d - 1 - j)) % 2 := by
  simp [regOf, h]

theorem bit_xor (a b k : Nat) : ((a ^^^ b) >>> k) % 2 = ((a >>> k) % 2 + (b >>> k) % 2) % 2 := by
  rw [shr_xor, xor_mod2]; omega

theorem refStep_eq (P d r b : Nat) (hd : 0 < d) (hr : r < 2 ^ d) (hb : b < 2) : refStep (regOf d P) (regOf d r) b = regOf d (stp P r b) := by
  unfold refStep
  rw [regOf_len]
  conv => rhs; unfold regOf
  apply List.map_congr_left
  intro j hj
  have hj' : j < d := by simpa using hj
  have e1 : (regOf d r).getD (d - 1) 0 = r % 2 := by rw [regOf_getD _ _ _ (by omega)]; simp
  have esum : (r ^^^ b) % 2 = (r % 2 + b) % 2 := by rw [xor_mod2]; omega
  rw [e1]
  by_cases h0 : j = 0
  · subst h0
    rw [if_pos rfl, regOf_getD _ _ _ hd]
    have ez : (r >>> 1) >>> (d - 1) = 0 := by
      rw [← Nat.shiftRight_add, Nat.shiftRight_eq_div_pow, Nat.div_eq_of_lt]
      rw [show 1 + (d - 1) = d from by omega]; exact hr
    unfold stp
    rcases Nat.mod_two_eq_zero_or_one (r % 2 + b) with h | h
    · rw [if_neg (by omega), h]; simp only [Nat.sub_zero]; rw [ez]; simp
    · rw [if_pos (by omega), h]; simp only [Nat.sub_zero]; rw [bit_xor, ez]; omega
  · rw [if_neg h0, regOf_getD _ _ _ (by omega), regOf_getD _ _ _ hj']
    have es : (r >>> 1) >>> (d - 1 - j) = r >>> (d - 1 - (j - 1)) := by
      rw [← Nat.shiftRight_add]; congr 1; omega
    unfold stp
    rcases Nat.mod_two_eq_zero_or_one (r % 2 + b) with h | h
    · rw [if_neg (by omega), h, es]; omega
    · rw [if_pos (by omega), h, bit_xor, es]; omega

theorem refRun_eq (P d : Nat) (hd : 0 < d) (hP : P < 2 ^ d) : ∀ (l : List Nat) (r : Nat), r < 2 ^ d → (∀ b ∈ l, b < 2) → l.foldl (refStep (regOf d P)) (regOf d r) = regOf d (run P r l) := by
  intro l
  induction l with
  | nil => intro r _ _; rfl
  | cons b l ih =>
    intro r hr hb
    rw [List.foldl_cons, refStep_eq P d r b hd hr (hb b (by simp))]
    exact ih _ (stp_lt P d r b hP hr) (fun c hc => hb c (by simp [hc]))

def num (l : List Nat) : Nat := l.foldr (fun b n => 2 * n + b) 0
def sentOf (r : List Nat) : List Nat := (r.map fun b => 1 - b).reverse

theorem sentOf_regOf (d r : Nat) : sentOf (regOf d r) = (List.range d).map fun k => 1 - (r >>> k) % 2 := by
  unfold sentOf regOf
  rw [List.map_map]
  apply List.ext_getElem
  · simp
  · intro i h1 h2
    simp at h1 h2
    simp only [List.getElem_reverse, List.getElem_map, List.getElem_range, List.length_map, List.length_range, Function.comp]
    rw [show d - 1 - (d - 1 - i) = i from by omega]



def T4 (P r : Nat) : Nat := T P (T P (T P (T P r)))
theorem T4_xor (P a b : Nat) : T4 P (a ^^^ b) = T4 P a ^^^ T4 P b := by simp only [T4, T_xor]
theorem T_even (P b : Nat) : T P (2 * b) = b := by
  unfold T
  rw [if_neg (by omega), Nat.shiftRight_eq_div_pow]; omega
theorem nib_split : ∀ n : Fin 16, (n : Nat) = (n : Nat) / 2 ^ 0 % 2 ^^^ (2 * ((n : Nat) / 2 ^ 1 % 2) ^^^ (2 * (2 * ((n : Nat) / 2 ^ 2 % 2)) ^^^ 2 * (2 * (2 * ((n : Nat) / 2 ^ 3 % 2))))) := by decide
theorem run_nib (P r n : Nat) (hn : n < 16) : run P r (bitsN n 4) = T4 P (r ^^^ n) := by
  have e : bitsN n 4 = [n / 2 ^ 0 % 2, n / 2 ^ 1 % 2, n / 2 ^ 2 % 2, n / 2 ^ 3 % 2] := rfl
  rw [e]
  show stp P (stp P (stp P (stp P r _) _) _) _ = _
  have h := nib_split ⟨n, hn⟩
  simp only at h
  conv => rhs; rw [h]
  have hb : ∀ k, n / 2 ^ k % 2 < 2 := fun k => Nat.mod_lt _ (by decide)
  rw [stp_T _ _ _ (hb 3), stp_T _ _ _ (hb 2), stp_T _ _ _ (hb 1), stp_T _ _ _ (hb 0)]
  generalize n / 2 ^ 0 % 2 = b0; generalize n / 2 ^ 1 % 2 = b1; generalize n / 2 ^ 2 % 2 = b2; generalize n / 2 ^ 3 % 2 = b3
  simp only [T4, T_xor, T_even, Nat.xor_assoc]
theorem split16 (y : Nat) : y = (16 * (y / 16)) ^^^ (y % 16) := by
  have h : 16 * (y / 16) = (y >>> 4) <<< 4 := by rw [Nat.shiftRight_eq_div_pow, Nat.shiftLeft_eq]; omega
  rw [h, show (16 : Nat) = 2 ^ 4 from rfl]
  apply Nat.eq_of_testBit_eq
  intro i
  rw [Nat.testBit_xor, Nat.testBit_shiftLeft, Nat.testBit_shiftRight, Nat.testBit_mod_two_pow]
  by_cases hi : i < 4
  · simp [hi, show ¬ 4 ≤ i from by omega]
  · simp [hi, show 4 ≤ i from by omega, show 4 + (i - 4) = i from by omega]
theorem T4_split (P y : Nat) : T4 P y = (y / 16) ^^^ T4 P (y % 16) := by
  conv => lhs; rw [split16 y]
  rw [T4_xor]
  congr 1
  have : 16 * (y / 16) = 2 * (2 * (2 * (2 * (y / 16)))) := by omega
  rw [this]
  simp only [T4, T_even]
theorem run_nib' (P r n : Nat) (hn : n < 16) : run P r (bitsN n 4) = (r / 16) ^^^ T4 P ((r ^^^ n) % 16) := by
  rw [run_nib P r n hn, T4_split]
  congr 1
  have h := shr_xor r n 4
  simp only [Nat.shiftRight_eq_div_pow, Nat.reducePow] at h
  rw [h, Nat.div_eq_of_lt hn, Nat.xor_zero]
theorem bitsN_byte (x : Nat) : bitsN x 8 = bitsN (x % 16) 4 ++ bitsN (x / 16) 4 := by
  have e : ∀ v, bitsN v 4 = [v / 2 ^ 0 % 2, v / 2 ^ 1 % 2, v / 2 ^ 2 % 2, v / 2 ^ 3 % 2] := fun _ => rfl
  have e8 : bitsN x 8 = [x / 2 ^ 0 % 2, x / 2 ^ 1 % 2, x / 2 ^ 2 % 2, x / 2 ^ 3 % 2, x / 2 ^ 4 % 2, x / 2 ^ 5 % 2, x / 2 ^ 6 % 2, x / 2 ^ 7 % 2] := rfl
  rw [e, e, e8]
  simp only [Nat.reducePow, List.cons_append, List.nil_append, List.cons.injEq, and_true]
  omega
theorem run_append (P r : Nat) (l m : List Nat) : run P r (l ++ m) = run P (run P r l) m := by simp [run]
def byteStep (P r x : Nat) : Nat :=
  let r1 := (r / 16) ^^^ T4 P ((r ^^^ x % 16) % 16)
  (r1 / 16) ^^^ T4 P ((r1 ^^^ x / 16) % 16)
theorem run_byte (P r x : Nat) (hx : x < 256) : run P r (bitsN x 8) = byteStep P r x := by
  rw [bitsN_byte, run_append, run_nib' _ _ _ (by omega), run_nib' _ _ _ (by omega)]
  rfl
def allBits (l : List Nat) : List Nat := l.flatMap (bitsN · 8)
theorem run_bytes (P : Nat) : ∀ (l : List Nat) (r : Nat), (∀ x ∈ l, x < 256) → run P r (allBits l) = l.foldl (byteStep P) r := by
  intro l
  induction l with
  | nil => intro r _; rfl
  | cons x l ih =>
    intro r h
    show run P r (bitsN x 8 ++ allBits l) = _
    rw [run_append, run_byte P r x (h x (by simp)), List.foldl_cons]
    exact ih _ (fun y hy => h y (by simp [hy]))
def sixteen (l : List Nat) : Nat := run 40961 65535 (allBits l) ^^^ 65535

def z5 (c n : Nat) : Nat := run 20 0 (bitsN c n)

theorem bitsN_cons (n m : Nat) : bitsN n (m + 1) = n % 2 :: bitsN (n / 2) m := by
  unfold bitsN
  rw [List.range_succ_eq_map, List.map_cons, List.map_map]
  congr 1
  · simp
  · apply List.map_congr_left
    intro i _
    simp only [Function.comp, Nat.succ_eq_add_one, Nat.pow_succ]
    rw [Nat.div_div_eq_div_mul, Nat.mul_comm 2]







theorem allBits_append (l m : List Nat) : allBits (l ++ m) = allBits l ++ allBits m := by simp [allBits]
theorem allBits_lt (l : List Nat) : ∀ b ∈ allBits l, b < 2 := by
  intro b hb
  obtain ⟨x, _, h⟩ := List.mem_flatMap.1 hb
  exact bitsN_lt x 8 b h
theorem allBits_len : ∀ l : List Nat, (allBits l).length = 8 * l.length := by
  intro l
  induction l with
  | nil => rfl
  | cons x l ih =>
    show (bitsN x 8 ++ allBits l).length = _
    rw [List.length_append, bitsN_len, ih, List.length_cons]; omega
theorem two_bytes (x y : Nat) (hx : x < 256) : allBits [x, y] = bitsN (x + 256 * y) 16 := by
  have e : allBits [x, y] = bitsN x 8 ++ (bitsN y 8 ++ []) := rfl
  rw [e, List.append_nil]
  have e8 : ∀ x, bitsN x 8 = [x / 2 ^ 0 % 2, x / 2 ^ 1 % 2, x / 2 ^ 2 % 2, x / 2 ^ 3 % 2, x / 2 ^ 4 % 2, x / 2 ^ 5 % 2, x / 2 ^ 6 % 2, x / 2 ^ 7 % 2] := fun _ => rfl
  have e16 : ∀ x, bitsN x 16 = [x / 2 ^ 0 % 2, x / 2 ^ 1 % 2, x / 2 ^ 2 % 2, x / 2 ^ 3 % 2, x / 2 ^ 4 % 2, x / 2 ^ 5 % 2, x / 2 ^ 6 % 2, x / 2 ^ 7 % 2, x / 2 ^ 8 % 2, x / 2 ^ 9 % 2, x / 2 ^ 10 % 2, x / 2 ^ 11 % 2, x / 2 ^ 12 % 2, x / 2 ^ 13 % 2, x / 2 ^ 14 % 2, x / 2 ^ 15 % 2] := fun _ => rfl
  rw [e8, e8, e16]
  simp only [Nat.reducePow, List.cons_append, List.nil_append, List.cons.injEq, and_true]
  omega
theorem run16_lt (l : List Nat) : run 40961 65535 l < 65536 := run_lt 40961 16 (by decide) l 65535 (by decide)
end Go.Proofs.YtpdbekbobkjfgaaDoor.Chk

