/-
  Check sequences, in plain arithmetic: the register that shifts, the reference's list of bits, and what errors it finds.
-/
set_option linter.unusedVariables false
namespace Go.Proofs.Ytmjocalgekfodaa.Chk

def stp (P r b : Nat) : Nat := if (r ^^^ b) % 2 = 1 then (r >>> 1) ^^^ P else r >>> 1
def T (P r : Nat) : Nat := if r % 2 = 1 then (r >>> 1) ^^^ P else r >>> 1
def bitsN (v n : Nat) : List Nat := (List.range n).map fun i => v / 2 ^ i % 2
def run (P r : Nat) (l : List Nat) : Nat := l.foldl (stp P) r
def five (v n : Nat) : Nat := run 20 31 (bitsN v n) ^^^ 31

theorem xor_mod2 (a b : Nat) : (a ^^^ b) % 2 = (a + b) % 2 := by
  have h := Nat.xor_mod_two_eq_one (a := a) (b := b)
  by_cases hx : (a ^^^ b) % 2 = 1
  · have := h.1 hx; omega
  · have : (a % 2 = 1 ↔ b % 2 = 1) := Decidable.byContradiction fun hn => hx (h.2 hn)
    omega
theorem shr_xor (a b k : Nat) : (a ^^^ b) >>> k = (a >>> k) ^^^ (b >>> k) := Nat.shiftRight_xor_distrib

theorem stp_T (P r b : Nat) (hb : b < 2) : stp P r b = T P (r ^^^ b) := by
  unfold stp T
  have h0 : b >>> 1 = 0 := by rw [Nat.shiftRight_eq_div_pow]; omega
  rw [shr_xor, h0, Nat.xor_zero]

theorem T_xor (P a b : Nat) : T P (a ^^^ b) = T P a ^^^ T P b := by
  unfold T
  rw [xor_mod2, shr_xor]
  rcases Nat.mod_two_eq_zero_or_one a with ha | ha <;> rcases Nat.mod_two_eq_zero_or_one b with hb | hb
  · rw [if_neg (by omega), if_neg (by omega), if_neg (by omega)]
  · rw [if_pos (by omega), if_neg (by omega), if_pos hb, Nat.xor_assoc]
  · rw [if_pos (by omega), if_pos ha, if_neg (by omega)]
    rw [Nat.xor_assoc, Nat.xor_comm (b >>> 1) P, ← Nat.xor_assoc]
  · rw [if_neg (by omega), if_pos ha, if_pos hb]
    have : (a >>> 1 ^^^ P) ^^^ (b >>> 1 ^^^ P) = (a >>> 1 ^^^ b >>> 1) ^^^ (P ^^^ P) := by
      rw [Nat.xor_assoc, Nat.xor_assoc]; congr 1
      rw [← Nat.xor_assoc, Nat.xor_comm P (b >>> 1), Nat.xor_assoc]
    rw [this, Nat.xor_self, Nat.xor_zero]

theorem T_lt (P d r : Nat) (hP : P < 2 ^ d) (hr : r < 2 ^ d) : T P r < 2 ^ d := by
  have h1 : r >>> 1 < 2 ^ d := by rw [Nat.shiftRight_eq_div_pow]; omega
  unfold T
  split
  · exact Nat.xor_lt_two_pow h1 hP
  · exact h1
theorem stp_lt (P d r b : Nat) (hP : P < 2 ^ d) (hr : r < 2 ^ d) : stp P r b < 2 ^ d := by
  have h1 : r >>> 1 < 2 ^ d := by rw [Nat.shiftRight_eq_div_pow]; omega
  unfold stp
  split
  · exact Nat.xor_lt_two_pow h1 hP
  · exact h1
theorem run_lt (P d : Nat) (hP : P < 2 ^ d) : ∀ (l : List Nat) (r : Nat), r < 2 ^ d → run P r l < 2 ^ d := by
  intro l
  induction l with
  | nil => intro r h; exact h
  | cons b l ih => intro r h; exact ih _ (stp_lt P d r b hP h)

theorem bitsN_lt (v n : Nat) : ∀ b ∈ bitsN v n, b < 2 := by
  intro b hb
  obtain ⟨i, _, rfl⟩ := List.mem_map.1 hb
  exact Nat.mod_lt _ (by decide)
theorem bitsN_succ (v n : Nat) : bitsN v (n + 1) = bitsN v n ++ [v / 2 ^ n % 2] := by
  simp [bitsN, List.range_succ]
theorem bitsN_len (v n : Nat) : (bitsN v n).length = n := by simp [bitsN]
theorem run_snoc (P r : Nat) (l : List Nat) (b : Nat) : run P r (l ++ [b]) = stp P (run P r l) b := by simp [run]

def xorL : List Nat → List Nat → List Nat
  | a :: l, b :: m => (a ^^^ b) :: xorL l m
  | l, [] => l
  | [], _ => []

theorem xor4 (a b c d : Nat) : (a ^^^ b) ^^^ (c ^^^ d) = (a ^^^ c) ^^^ (b ^^^ d) := by
  rw [Nat.xor_assoc, Nat.xor_assoc]; congr 1
  rw [← Nat.xor_assoc, Nat.xor_comm b c, Nat.xor_assoc]

theorem xor_lt2 {a b : Nat} (ha : a < 2) (hb : b < 2) : a ^^^ b < 2 := by
  have := Nat.xor_lt_two_pow (x := a) (y := b) (n := 1) (by omega) (by omega); omega

theorem run_xor (P : Nat) : ∀ (l m : List Nat) (r s : Nat), (∀ b ∈ l, b < 2) → (∀ b ∈ m, b < 2) → l.length = m.length → run P (r ^^^ s) (xorL l m) = run P r l ^^^ run P s m := by
  intro l
  induction l with
  | nil =>
    intro m r s _ _ hl
    cases m with
    | nil => rfl
    | cons => simp at hl
  | cons a l ih =>
    intro m r s h1 h2 hl
    cases m with
    | nil => simp at hl
    | cons b m =>
      have ha := h1 a (by simp)
      have hb := h2 b (by simp)
      show run P (stp P (r ^^^ s) (a ^^^ b)) (xorL l m) = run P (stp P r a) l ^^^ run P (stp P s b) m
      rw [stp_T _ _ _ (xor_lt2 ha hb), stp_T _ _ _ ha, stp_T _ _ _ hb, xor4, T_xor]
      exact ih m _ _ (fun b hb => h1 b (by simp [hb])) (fun b hb => h2 b (by simp [hb])) (by simpa using hl)



theorem bit_xor (a b k : Nat) : ((a ^^^ b) >>> k) % 2 = ((a >>> k) % 2 + (b >>> k) % 2) % 2 := by
  rw [shr_xor, xor_mod2]; omega



def num (l : List Nat) : Nat := l.foldr (fun b n => 2 * n + b) 0


theorem ones_half (d : Nat) : (2 ^ (d + 1) - 1) / 2 = 2 ^ d - 1 := by
  have := Nat.one_le_two_pow (n := d); rw [Nat.pow_succ]; omega
theorem num_compl : ∀ (d r : Nat), r < 2 ^ d → num ((List.range d).map fun k => 1 - (r >>> k) % 2) = r ^^^ (2 ^ d - 1) := by
  intro d
  induction d with
  | zero => intro r hr; simp at hr; subst hr; rfl
  | succ d ih =>
    intro r hr
    rw [List.range_succ_eq_map, List.map_cons, List.map_map]
    show 2 * num _ + _ = _
    have e : ((fun k => 1 - (r >>> k) % 2) ∘ Nat.succ) = fun k => 1 - ((r / 2) >>> k) % 2 := by
      funext k
      simp only [Function.comp]
      rw [show r / 2 = r >>> 1 from by rw [Nat.shiftRight_eq_div_pow], ← Nat.shiftRight_add, Nat.add_comm]
    rw [e, ih (r / 2) (by rw [Nat.pow_succ] at hr; omega)]
    have h1 : (r ^^^ (2 ^ (d + 1) - 1)) / 2 = (r / 2) ^^^ (2 ^ d - 1) := by
      have := shr_xor r (2 ^ (d + 1) - 1) 1
      simp only [Nat.shiftRight_eq_div_pow, Nat.pow_one] at this
      rw [this, ones_half]
    have h2 : (r ^^^ (2 ^ (d + 1) - 1)) % 2 = 1 - r % 2 := by
      rw [xor_mod2]
      have := Nat.one_le_two_pow (n := d)
      rw [Nat.pow_succ]; omega
    have := Nat.div_add_mod (r ^^^ (2 ^ (d + 1) - 1)) 2
    rw [h1, h2] at this
    simpa using this


def T4 (P r : Nat) : Nat := T P (T P (T P (T P r)))
theorem T4_xor (P a b : Nat) : T4 P (a ^^^ b) = T4 P a ^^^ T4 P b := by simp only [T4, T_xor]
theorem T_even (P b : Nat) : T P (2 * b) = b := by
  unfold T
  rw [if_neg (by omega), Nat.shiftRight_eq_div_pow]; omega
theorem nib_split : ∀ n : Fin 16, (n : Nat) = (n : Nat) / 2 ^ 0 % 2 ^^^ (2 * ((n : Nat) / 2 ^ 1 % 2) ^^^ (2 * (2 * ((n : Nat) / 2 ^ 2 % 2)) ^^^ 2 * (2 * (2 * ((n : Nat) / 2 ^ 3 % 2))))) := by decide
theorem run_nib (P r n : Nat) (hn : n < 16) : run P r (bitsN n 4) = T4 P (r ^^^ n) := by
  have e : bitsN n 4 = [n / 2 ^ 0 % 2, n / 2 ^ 1 % 2, n / 2 ^ 2 % 2, n / 2 ^ 3 % 2] := rfl
  rw [e]
  show stp P (stp P (stp P (stp P r _) _) _) _ = _
  have h := nib_split ⟨n, hn⟩
  simp only at h
  conv => rhs; rw [h]
  have hb : ∀ k, n / 2 ^ k % 2 < 2 := fun k => Nat.mod_lt _ (by decide)
  rw [stp_T _ _ _ (hb 3), stp_T _ _ _ (hb 2), stp_T _ _ _ (hb 1), stp_T _ _ _ (hb 0)]
  generalize n / 2 ^ 0 % 2 = b0; generalize n / 2 ^ 1 % 2 = b1; generalize n / 2 ^ 2 % 2 = b2; generalize n / 2 ^ 3 % 2 = b3
  simp only [T4, T_xor, T_even, Nat.xor_assoc]
theorem split16 (y : Nat) : y = (16 * (y / 16)) ^^^ (y % 16) := by
  have h : 16 * (y / 16) = (y >>> 4) <<< 4 := by rw [Nat.shiftRight_eq_div_pow, Nat.shiftLeft_eq]; omega
  rw [h, show (16 : Nat) = 2 ^ 4 from rfl]
  apply Nat.eq_of_testBit_eq
  intro i
  rw [Nat.testBit_xor, Nat.testBit_shiftLeft, Nat.testBit_shiftRight, Nat.testBit_mod_two_pow]
  by_cases hi : i < 4
  · simp [hi, show ¬ 4 ≤ i from by omega]
  · simp [hi, show 4 ≤ i from by omega, show 4 + (i - 4) = i from by omega]
theorem T4_split (P y : Nat) : T4 P y = (y / 16) ^^^ T4 P (y % 16) := by
  conv => lhs; rw [split16 y]
  rw [T4_xor]
  congr 1
  have : 16 * (y / 16) = 2 * (2 * (2 * (2 * (y / 16)))) := by omega
  rw [this]
  simp only [T4, T_even]
theorem run_nib' (P r n : Nat) (hn : n < 16) : run P r (bitsN n 4) = (r / 16) ^^^ T4 P ((r ^^^ n) % 16) := by
  rw [run_nib P r n hn, T4_split]
  congr 1
  have h := shr_xor r n 4
  simp only [Nat.shiftRight_eq_div_pow, Nat.reducePow] at h
  rw [h, Nat.div_eq_of_lt hn, Nat.xor_zero]
theorem bitsN_byte (x : Nat) : bitsN x 8 = bitsN (x % 16) 4 ++ bitsN (x / 16) 4 := by
  have e : ∀ v, bitsN v 4 = [v / 2 ^ 0 % 2, v / 2 ^ 1 % 2, v / 2 ^ 2 % 2, v / 2 ^ 3 % 2] := fun _ => rfl
  have e8 : bitsN x 8 = [x / 2 ^ 0 % 2, x / 2 ^ 1 % 2, x / 2 ^ 2 % 2, x / 2 ^ 3 % 2, x / 2 ^ 4 % 2, x / 2 ^ 5 % 2, x / 2 ^ 6 % 2, x / 2 ^ 7 % 2] := rfl
  rw [e, e, e8]
  simp only [Nat.reducePow, List.cons_append, List.nil_append, List.cons.injEq, and_true]
  omega
theorem run_append (P r : Nat) (l m : List Nat) : run P r (l ++ m) = run P (run P r l) m := by simp [run]
def byteStep (P r x : Nat) : Nat :=
  let r1 := (r / 16) ^^^ T4 P ((r ^^^ x % 16) % 16)
  (r1 / 16) ^^^ T4 P ((r1 ^^^ x / 16) % 16)
theorem run_byte (P r x : Nat) (hx : x < 256) : run P r (bitsN x 8) = byteStep P r x := by
  rw [bitsN_byte, run_append, run_nib' _ _ _ (by omega), run_nib' _ _ _ (by omega)]
  rfl
def allBits (l : List Nat) : List Nat := l.flatMap (bitsN · 8)
theorem run_bytes (P : Nat) : ∀ (l : List Nat) (r : Nat), (∀ x ∈ l, x < 256) → run P r (allBits l) = l.foldl (byteStep P) r := by
  intro l
  induction l with
  | nil => intro r _; rfl
  | cons x l ih =>
    intro r h
    show run P r (bitsN x 8 ++ allBits l) = _
    rw [run_append, run_byte P r x (h x (by simp)), List.foldl_cons]
    exact ih _ (fun y hy => h y (by simp [hy]))
def sixteen (l : List Nat) : Nat := run 40961 65535 (allBits l) ^^^ 65535

theorem bitsN_xor (a b n : Nat) : bitsN (a ^^^ b) n = xorL (bitsN a n) (bitsN b n) := by
  have h : ∀ l : List Nat, xorL (l.map fun i => a / 2 ^ i % 2) (l.map fun i => b / 2 ^ i % 2) = l.map fun i => (a ^^^ b) / 2 ^ i % 2 := by
    intro l
    induction l with
    | nil => rfl
    | cons i l ih =>
      rw [List.map_cons, List.map_cons, List.map_cons]
      show _ :: xorL _ _ = _
      rw [ih]
      congr 1
      have := bit_xor a b i
      simp only [Nat.shiftRight_eq_div_pow] at this
      rw [this, ← xor_mod2]
      exact (Nat.mod_eq_of_lt (xor_lt2 (Nat.mod_lt _ (by decide)) (Nat.mod_lt _ (by decide)))).symm
  exact (h _).symm

def iter (P : Nat) : Nat → Nat → Nat
  | 0, r => r
  | n + 1, r => iter P n (T P r)
theorem iter_xor (P : Nat) : ∀ (n a b : Nat), iter P n (a ^^^ b) = iter P n a ^^^ iter P n b := by
  intro n
  induction n with
  | zero => intro a b; rfl
  | succ n ih => intro a b; show iter P n (T P (a ^^^ b)) = _; rw [T_xor, ih]; rfl
theorem iter_add (P : Nat) : ∀ (n m r : Nat), iter P (n + m) r = iter P m (iter P n r) := by
  intro n
  induction n with
  | zero => intro m r; simp [iter]
  | succ n ih => intro m r; rw [show n + 1 + m = (n + m) + 1 from by omega]; exact ih m _
theorem split2 (n : Nat) : n % 2 ^^^ 2 * (n / 2) = n := by
  have h : 2 * (n / 2) = (n >>> 1) <<< 1 := by rw [Nat.shiftRight_eq_div_pow, Nat.shiftLeft_eq]; omega
  rw [h, show n % 2 = n % 2 ^ 1 from rfl]
  apply Nat.eq_of_testBit_eq
  intro i
  rw [Nat.testBit_xor, Nat.testBit_shiftLeft, Nat.testBit_shiftRight, Nat.testBit_mod_two_pow]
  by_cases hi : i < 1
  · simp [hi, show ¬ 1 ≤ i from by omega]
  · simp [hi, show 1 ≤ i from by omega, show 1 + (i - 1) = i from by omega]
theorem bitsN_cons (n m : Nat) : bitsN n (m + 1) = n % 2 :: bitsN (n / 2) m := by
  unfold bitsN
  rw [List.range_succ_eq_map, List.map_cons, List.map_map]
  congr 1
  · simp
  · apply List.map_congr_left
    intro i _
    simp only [Function.comp, Nat.succ_eq_add_one, Nat.pow_succ]
    rw [Nat.div_div_eq_div_mul, Nat.mul_comm 2]
theorem run_bitsN (P : Nat) : ∀ (m n r : Nat), n < 2 ^ m → run P r (bitsN n m) = iter P m (r ^^^ n) := by
  intro m
  induction m with
  | zero => intro n r h; simp at h; subst h; simp [bitsN, run, iter]
  | succ m ih =>
    intro n r h
    rw [bitsN_cons]
    show run P (stp P r (n % 2)) _ = iter P m (T P (r ^^^ n))
    rw [ih _ _ (by rw [Nat.pow_succ] at h; omega), stp_T _ _ _ (Nat.mod_lt _ (by decide))]
    congr 1
    conv => rhs; rw [← split2 n, ← Nat.xor_assoc, T_xor, T_even]
theorem run_zeros (P : Nat) : ∀ (k r : Nat), run P r (List.replicate k 0) = iter P k r := by
  intro k
  induction k with
  | zero => intro r; rfl
  | succ k ih => intro r; rw [List.replicate_succ]; show run P (stp P r 0) _ = _; rw [stp_T _ _ _ (by decide), Nat.xor_zero]; exact ih _
theorem T_nz (d P r : Nat) (h0 : r ≠ 0) (hP : 2 ^ d ≤ P) (hr : r < 2 ^ (d + 1)) : T P r ≠ 0 := by
  unfold T
  rw [Nat.shiftRight_eq_div_pow, Nat.pow_one]
  rw [Nat.pow_succ] at hr
  split
  · intro h
    have : r / 2 = P := by
      have h2 := congrArg (· ^^^ P) h
      simp only [Nat.xor_assoc, Nat.xor_self, Nat.xor_zero, Nat.zero_xor] at h2
      exact h2
    omega
  · omega
theorem iter_lt (P d : Nat) (hP : P < 2 ^ d) : ∀ (n r : Nat), r < 2 ^ d → iter P n r < 2 ^ d := by
  intro n
  induction n with
  | zero => intro r h; exact h
  | succ n ih => intro r h; exact ih _ (T_lt P d r hP h)
theorem iter_nz : ∀ (n r : Nat), r ≠ 0 → r < 65536 → iter 40961 n r ≠ 0 := by
  intro n
  induction n with
  | zero => intro r h _; exact h
  | succ n ih => intro r h hr; exact ih _ (T_nz 15 40961 r h (by decide) hr) (T_lt 40961 16 r (by decide) hr)

def meets : Nat → Nat → Bool
  | 0, _ => false
  | n + 1, r => r == 1 || meets n (T 40961 r)
theorem meets_spec : ∀ (n k r : Nat), meets n r = false → k < n → iter 40961 k r ≠ 1 := by
  intro n
  induction n with
  | zero => intro k r _ h; omega
  | succ n ih =>
    intro k r h hk
    simp only [meets, Bool.or_eq_false_iff, beq_eq_false_iff_ne, ne_eq] at h
    cases k with
    | zero => exact h.1
    | succ k => exact ih k _ h.2 (by omega)

def par (x : Nat) : Nat := (bitsN x 16).sum % 2
theorem sum_xorL : ∀ (l m : List Nat), l.length = m.length → (xorL l m).sum % 2 = (l.sum + m.sum) % 2 := by
  intro l
  induction l with
  | nil => intro m h; cases m with | nil => rfl | cons => simp at h
  | cons a l ih =>
    intro m h
    cases m with
    | nil => simp at h
    | cons b m =>
      show ((a ^^^ b) :: xorL l m).sum % 2 = _
      simp only [List.sum_cons]
      have := ih m (by simpa using h)
      have := xor_mod2 a b
      omega
theorem par_xor (a b : Nat) : par (a ^^^ b) = (par a + par b) % 2 := by
  unfold par
  rw [bitsN_xor, sum_xorL _ _ (by simp [bitsN_len])]; omega
theorem par_double (h : Nat) (hh : h < 32768) : par (2 * h) = par h := by
  unfold par
  rw [bitsN_cons, bitsN_succ h 15, show 2 * h / 2 = h from by omega, show 2 * h % 2 = 0 from by omega, show h / 2 ^ 15 % 2 = 0 from by omega]
  simp
theorem par_T (r : Nat) (hr : r < 65536) : par (T 40961 r) = par r := by
  have e := split2 r
  have h2 := par_xor (r % 2) (2 * (r / 2))
  rw [e, par_double _ (by omega)] at h2
  unfold T
  rw [Nat.shiftRight_eq_div_pow, Nat.pow_one]
  have p1 : par 1 = 1 := by decide
  have p0 : par 0 = 0 := by decide
  have pP : par 40961 = 1 := by decide
  have hlt : par (r / 2) < 2 := Nat.mod_lt _ (by decide)
  rcases Nat.mod_two_eq_zero_or_one r with h | h
  · rw [if_neg (by omega)]; rw [h, p0] at h2; omega
  · rw [if_pos h, par_xor, pP]; rw [h, p1] at h2; omega
theorem par_run : ∀ (l : List Nat) (r : Nat), r < 65536 → (∀ b ∈ l, b < 2) → par (run 40961 r l) = (par r + l.sum) % 2 := by
  intro l
  induction l with
  | nil => intro r _ _; have : par r < 2 := Nat.mod_lt _ (by decide); simp [run]; omega
  | cons b l ih =>
    intro r hr hb
    show par (run 40961 (stp 40961 r b) l) = _
    have hb0 := hb b (by simp)
    rw [ih _ (stp_lt 40961 16 r b (by decide) hr) (fun c hc => hb c (by simp [hc])), stp_T _ _ _ hb0]
    rw [par_T _ (Nat.xor_lt_two_pow (n := 16) hr (by omega)), par_xor]
    have pb : par b = b := by
      have : b = 0 ∨ b = 1 := by omega
      rcases this with rfl | rfl <;> decide
    rw [pb]; simp only [List.sum_cons]; omega

theorem long_odd (l : List Nat) (hl : ∀ b ∈ l, b < 2) (h : l.sum % 2 = 1) : run 40961 0 l ≠ 0 := by
  intro e
  have := par_run l 0 (by decide) hl
  rw [e, show par 0 = 0 from by decide] at this
  omega

theorem first_one : ∀ (l : List Nat), (∀ b ∈ l, b < 2) → l.sum ≠ 0 → ∃ k m, l = List.replicate k 0 ++ 1 :: m := by
  intro l
  induction l with
  | nil => intro _ h; simp at h
  | cons b l ih =>
    intro hb h
    have hb0 := hb b (by simp)
    have : b = 0 ∨ b = 1 := by omega
    rcases this with rfl | rfl
    · obtain ⟨k, m, e⟩ := ih (fun c hc => hb c (by simp [hc])) (by simpa using h)
      exact ⟨k + 1, m, by rw [e, List.replicate_succ]; rfl⟩
    · exact ⟨0, l, rfl⟩
theorem sum_zero : ∀ (l : List Nat), l.sum = 0 → l = List.replicate l.length 0 := by
  intro l
  induction l with
  | nil => intro _; rfl
  | cons b l ih =>
    intro h
    simp only [List.sum_cons] at h
    rw [List.length_cons, List.replicate_succ, ← ih (by omega)]
    congr 1; omega
theorem sum_rep (k : Nat) : (List.replicate k 0).sum = 0 := by simp

theorem iter_T (P : Nat) : ∀ (n r : Nat), iter P n (T P r) = T P (iter P n r) := by
  intro n
  induction n with
  | zero => intro r; rfl
  | succ n ih => intro r; exact ih _
theorem long_two (l : List Nat) (hm : meets 8300 (T 40961 1) = false) (hl : ∀ b ∈ l, b < 2) (h : l.sum = 2) (hn : l.length ≤ 8300) : run 40961 0 l ≠ 0 := by
  obtain ⟨k, m, rfl⟩ := first_one l hl (by omega)
  simp only [List.sum_append, sum_rep, List.sum_cons, Nat.zero_add] at h
  have hm2 : ∀ b ∈ m, b < 2 := fun b hb => hl b (by simp [hb])
  obtain ⟨k2, m2, rfl⟩ := first_one m hm2 (by omega)
  simp only [List.sum_append, sum_rep, List.sum_cons, Nat.zero_add] at h
  have hz := sum_zero m2 (by omega)
  simp only [List.length_append, List.length_replicate, List.length_cons] at hn
  rw [run_append, run_zeros]
  have i0 : ∀ n, iter 40961 n 0 = 0 := by
    intro n
    induction n with
    | zero => rfl
    | succ n ih => exact ih
  rw [i0]
  show run 40961 (stp 40961 0 1) _ ≠ 0
  rw [run_append, run_zeros, stp_T _ _ _ (by decide), Nat.zero_xor]
  show run 40961 (stp 40961 _ 1) m2 ≠ 0
  rw [stp_T _ _ _ (by decide), hz, run_zeros]
  refine iter_nz _ _ ?_ ?_
  · refine T_nz 15 40961 _ ?_ (by decide) ?_
    · intro e
      have : iter 40961 k2 (T 40961 1) = 1 := by
        have h2 := congrArg (· ^^^ 1) e
        simp only [Nat.xor_assoc, Nat.xor_self, Nat.xor_zero, Nat.zero_xor] at h2
        exact h2
      exact meets_spec 8300 k2 _ hm (by omega) this
    · exact Nat.xor_lt_two_pow (n := 16) (iter_lt 40961 16 (by decide) _ _ (by decide)) (by decide)
  · exact T_lt 40961 16 _ (by decide) (Nat.xor_lt_two_pow (n := 16) (iter_lt 40961 16 (by decide) _ _ (by decide)) (by decide))

theorem long_burst (a b m z : Nat) (hm : m ≤ 16) (hb : b < 2 ^ m) (h0 : b ≠ 0) : run 40961 0 (List.replicate a 0 ++ (bitsN b m ++ List.replicate z 0)) ≠ 0 := by
  have i0 : ∀ n, iter 40961 n 0 = 0 := by
    intro n
    induction n with
    | zero => rfl
    | succ n ih => exact ih
  have hlt : b < 65536 := Nat.lt_of_lt_of_le hb (by have := Nat.pow_le_pow_right (n := 2) (by decide) hm; simpa using this)
  rw [run_append, run_zeros, i0, run_append, run_zeros, run_bitsN _ _ _ _ hb, Nat.zero_xor, ← iter_add]
  exact iter_nz _ _ h0 hlt

theorem allBits_append (l m : List Nat) : allBits (l ++ m) = allBits l ++ allBits m := by simp [allBits]
theorem allBits_lt (l : List Nat) : ∀ b ∈ allBits l, b < 2 := by
  intro b hb
  obtain ⟨x, _, h⟩ := List.mem_flatMap.1 hb
  exact bitsN_lt x 8 b h
theorem allBits_len : ∀ l : List Nat, (allBits l).length = 8 * l.length := by
  intro l
  induction l with
  | nil => rfl
  | cons x l ih =>
    show (bitsN x 8 ++ allBits l).length = _
    rw [List.length_append, bitsN_len, ih, List.length_cons]; omega
theorem two_bytes (x y : Nat) (hx : x < 256) : allBits [x, y] = bitsN (x + 256 * y) 16 := by
  have e : allBits [x, y] = bitsN x 8 ++ (bitsN y 8 ++ []) := rfl
  rw [e, List.append_nil]
  have e8 : ∀ x, bitsN x 8 = [x / 2 ^ 0 % 2, x / 2 ^ 1 % 2, x / 2 ^ 2 % 2, x / 2 ^ 3 % 2, x / 2 ^ 4 % 2, x / 2 ^ 5 % 2, x / 2 ^ 6 % 2, x / 2 ^ 7 % 2] := fun _ => rfl
  have e16 : ∀ x, bitsN x 16 = [x / 2 ^ 0 % 2, x / 2 ^ 1 % 2, x / 2 ^ 2 % 2, x / 2 ^ 3 % 2, x / 2 ^ 4 % 2, x / 2 ^ 5 % 2, x / 2 ^ 6 % 2, x / 2 ^ 7 % 2, x / 2 ^ 8 % 2, x / 2 ^ 9 % 2, x / 2 ^ 10 % 2, x / 2 ^ 11 % 2, x / 2 ^ 12 % 2, x / 2 ^ 13 % 2, x / 2 ^ 14 % 2, x / 2 ^ 15 % 2] := fun _ => rfl
  rw [e8, e8, e16]
  simp only [Nat.reducePow, List.cons_append, List.nil_append, List.cons.injEq, and_true]
  omega
theorem iter_inj (n a b : Nat) (ha : a < 65536) (hb : b < 65536) (h : iter 40961 n a = iter 40961 n b) : a = b := by
  have h2 := iter_xor 40961 n a b
  rw [h, Nat.xor_self] at h2
  have h3 : a ^^^ b < 65536 := Nat.xor_lt_two_pow (n := 16) ha hb
  by_cases h4 : a ^^^ b = 0
  · have h5 := congrArg (· ^^^ b) h4
    simp only [Nat.xor_assoc, Nat.xor_self, Nat.xor_zero, Nat.zero_xor] at h5
    exact h5
  · exact absurd h2 (iter_nz n _ h4 h3)
theorem run16_lt (l : List Nat) : run 40961 65535 l < 65536 := run_lt 40961 16 (by decide) l 65535 (by decide)
theorem accept_iff (l : List Nat) (x y : Nat) (hx : x < 256) (hy : y < 256) : sixteen l = x + 256 * y ↔ run 40961 65535 (allBits (l ++ [x, y])) = iter 40961 16 65535 := by
  rw [allBits_append, run_append, two_bytes x y hx, run_bitsN _ 16 _ _ (by omega)]
  unfold sixteen
  have h1 := run16_lt (allBits l)
  generalize run 40961 65535 (allBits l) = s at *
  constructor
  · intro h
    rw [← h, ← Nat.xor_assoc, Nat.xor_self, Nat.zero_xor]
  · intro h
    have h2 := iter_inj 16 _ _ (Nat.xor_lt_two_pow (n := 16) h1 (show x + 256 * y < 65536 by omega)) (by decide) h
    have h3 := congrArg (s ^^^ ·) h2
    simp only [← Nat.xor_assoc, Nat.xor_self, Nat.zero_xor] at h3
    exact h3.symm
theorem accept_diff (p q : List Nat) (hlen : (allBits p).length = (allBits q).length) (hp : run 40961 65535 (allBits p) = iter 40961 16 65535) (hd : run 40961 0 (xorL (allBits p) (allBits q)) ≠ 0) : run 40961 65535 (allBits q) ≠ iter 40961 16 65535 := by
  have h := run_xor 40961 (allBits p) (allBits q) 65535 65535 (allBits_lt p) (allBits_lt q) hlen
  rw [Nat.xor_self] at h
  intro e
  rw [hp, e, Nat.xor_self] at h
  exact hd h
end Go.Proofs.Ytmjocalgekfodaa.Chk

