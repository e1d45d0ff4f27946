/-
  Plain laws: the reference's checks (2), texts of bytes, the program's checks.
  Conditions: none.
-/
import Derived.Test.YtpdbekbobkjfgaaDoorD3Q
namespace Go.Proofs.YtpdbekbobkjfgaaDoor
set_option linter.unusedVariables false
set_option maxRecDepth 100000
set_option maxHeartbeats 1000000

theorem sentOf_cons (x : Nat) (m : List Nat) : Chk.sentOf (x :: m) = Chk.sentOf m ++ [1 - x] := by simp [Chk.sentOf]
theorem sentOf_len (m : List Nat) : (Chk.sentOf m).length = m.length := by simp [Chk.sentOf]
theorem foldl_len (p : List Nat) : ∀ (l r : List Nat), (l.foldl (Chk.refStep p) r).length = r.length := by
  intro l
  induction l with
  | nil => intro r; rfl
  | cons b l ih => intro r; rw [List.foldl_cons, ih, refStep_len]
theorem foldl_lt (p : List Nat) (hp : ∀ x ∈ p, x < 2) : ∀ (l r : List Nat), (∀ x ∈ r, x < 2) → ∀ x ∈ l.foldl (Chk.refStep p) r, x < 2 := by
  intro l
  induction l with
  | nil => intro r h; exact h
  | cons b l ih => intro r h; exact ih _ (refStep_lt p r b hp)
theorem sent_L0_eq (m : Nat) (r : List Nat) (hr : ∀ x ∈ r, x < 2) (hn : r.length ≤ 1000) : ∀ (f j : Nat), j ≤ r.length → j < f → sent_L0 m f (nI r) ((j : Int) - 1) (nI (Chk.sentOf (r.drop j))) = some ((), (nI (Chk.sentOf r), ())) := by
  intro f
  induction f with
  | zero => intro j _ h; omega
  | succ f ih =>
    intro j hj hf
    rw [sent_L0]
    cases j with
    | zero => rw [dF (show ¬ (0 : Int) ≤ ((0 : Nat) : Int) - 1 by omega), cond_false, List.drop_zero]
    | succ j =>
      have hlt : j < r.length := by omega
      have hb := getD_lt2 hr j
      have ed : r.drop j = r.getD j 0 :: r.drop (j + 1) := by rw [getD_lt hlt]; exact drop_get hlt
      have es : Chk.sentOf (r.drop j) = Chk.sentOf (r.drop (j + 1)) ++ [1 - r.getD j 0] := by rw [ed, sentOf_cons]
      rw [show (((j + 1 : Nat) : Int) - 1) = (j : Int) by omega, dT (show (0 : Int) ≤ (j : Int) by omega), cond_true, nI_len, inT (by omega) (by omega), cond_true, Int.toNat_natCast, nI_get]
      rw [w8 (by omega) (by omega), show (1 : Int) - ((r.getD j 0 : Nat) : Int) = ((1 - r.getD j 0 : Nat) : Int) by omega, nI_one, nI_app, ← es, nI_len, sentOf_len, gr1 _ (by simp [nI]; omega), cond_true, wi64 (by omega) (by omega)]
      exact ih j (by omega) (by omega)
theorem sent_eq (m : Nat) (l p : List Nat) (hl : ∀ x ∈ l, x < 2) (hp : ∀ x ∈ p, x < 2) (hd : p.length ≤ 1000) (h0 : 0 < p.length) (hn : l.length ≤ 1000000) (hm : p.length < m) (hm2 : l.length < m) :
    sent_D m (nI l) (nI p) = some ((), (nI (Chk.sentOf (l.foldl (Chk.refStep p) (List.replicate p.length 1))), ())) := by
  have hlen : (l.foldl (Chk.refStep p) (List.replicate p.length 1)).length = p.length := by rw [foldl_len, List.length_replicate]
  have h := sent_L0_eq m _ (foldl_lt p hp l (List.replicate p.length 1) (by intro x hx; rw [(List.mem_replicate.1 hx).2]; omega)) (by omega) m p.length (by omega) hm
  have e0 : nI (Chk.sentOf ((l.foldl (Chk.refStep p) (List.replicate p.length 1)).drop p.length)) = [] := by rw [List.drop_of_length_le (by omega)]; rfl
  rw [e0] at h
  unfold sent_D
  rw [behind_eq m l p hl hp hd h0 hn hm hm2, bnd_some, nI_len, hlen, wi64 (by omega) (by omega), h, bnd_some]
theorem all_L0_eq (m : Nat) (hm : 65 ≤ m) (l : List Nat) (hl : ∀ x ∈ l, x < 256) (hn : l.length ≤ 100000) : ∀ (f i : Nat), i ≤ l.length → l.length - i < f → all_L0 m f (nI l) (i : Int) (nI (Chk.allBits (l.take i))) = some ((), (nI (Chk.allBits l), ())) := by
  intro f
  induction f with
  | zero => intro i _ h; omega
  | succ f ih =>
    intro i hi hf
    rw [all_L0]
    by_cases hlt : i < l.length
    · have hx : l.getD i 0 < 256 := by rw [getD_lt hlt]; exact hl _ (List.getElem_mem _)
      have et : Chk.allBits (l.take (i + 1)) = Chk.allBits (l.take i) ++ Chk.bitsN (l.getD i 0) 8 := by
        rw [List.take_add_one, List.getElem?_eq_getElem hlt, getD_lt hlt, Chk.allBits_append]
        simp [Chk.allBits]
      rw [nI_len, dT (show (i : Int) < (l.length : Int) by omega), cond_true, inT (by omega) (by omega), cond_true, Int.toNat_natCast, nI_get, w64 (by omega) (by omega), show (8 : Int) = ((8 : Nat) : Int) from rfl, low_eq m _ 8 (by omega) (by omega) hm, bnd_some]
      simp only [nI_len, nI_app]
      rw [gr1 _ (by rw [Chk.allBits_len, Chk.bitsN_len]; simp; omega), cond_true, wi64 (by omega) (by omega), ← et, show ((i : Int) + 1) = ((i + 1 : Nat) : Int) by omega]
      exact ih (i + 1) (by omega) (by omega)
    · have : i = l.length := by omega
      subst this
      rw [nI_len, dF (show ¬ ((l.length : Nat) : Int) < (l.length : Int) by omega), cond_false, List.take_length]
theorem all_eq (m : Nat) (l : List Nat) (hl : ∀ x ∈ l, x < 256) (hn : l.length ≤ 100000) (hm : 65 ≤ m) (hm2 : l.length < m) : all_D m (nI l) = some (nI (Chk.allBits l), ()) := by
  have h := all_L0_eq m hm l hl hn m 0 (by omega) (by omega)
  have e0 : nI (Chk.allBits (l.take 0)) = [] := rfl
  rw [e0] at h
  unfold all_D
  rw [show (0 : Int) = ((0 : Nat) : Int) from rfl, h, bnd_some]
theorem reg_short : Chk.regOf 5 20 = [1, 0, 1, 0, 0] := by decide
theorem reg_long : Chk.regOf 16 40961 = [1, 0, 1, 0, 0, 0, 0, 0, 0, 0, 0, 0, 0, 0, 0, 1] := by decide
theorem reg_ones5 : Chk.regOf 5 31 = List.replicate 5 1 := by decide
theorem reg_ones16 : Chk.regOf 16 65535 = List.replicate 16 1 := by decide
def sent5 (l : List Nat) : List Nat := Chk.bitsN (Chk.run 20 31 l ^^^ 31) 5
theorem bitsN_compl (d r : Nat) (hr : r < 2 ^ d) : ((List.range d).map fun k => 1 - (r >>> k) % 2) = Chk.bitsN (r ^^^ (2 ^ d - 1)) d := by
  unfold Chk.bitsN
  apply List.map_congr_left
  intro k hk
  have hk' : k < d := by simpa using hk
  rw [← Nat.shiftRight_eq_div_pow, Chk.shr_xor, Chk.xor_mod2]
  have e : (2 ^ d - 1) >>> k % 2 = 1 := by
    have h := Nat.testBit_two_pow_sub_one d k
    rw [decide_eq_true hk'] at h
    rw [Nat.testBit] at h
    simp at h
    omega
  omega
theorem sentOf_run (d P : Nat) (l : List Nat) (hd : 0 < d) (hP : P < 2 ^ d) (hl : ∀ b ∈ l, b < 2) : Chk.sentOf (l.foldl (Chk.refStep (Chk.regOf d P)) (Chk.regOf d (2 ^ d - 1))) = Chk.bitsN (Chk.run P (2 ^ d - 1) l ^^^ (2 ^ d - 1)) d := by
  have h1 : 2 ^ d - 1 < 2 ^ d := by have := Nat.one_le_two_pow (n := d); omega
  rw [Chk.refRun_eq P d hd hP l _ h1 hl, Chk.sentOf_regOf, bitsN_compl d _ (Chk.run_lt P d hP l _ h1)]
theorem sent5_eq (m : Nat) (l : List Nat) (hl : ∀ x ∈ l, x < 2) (hn : l.length ≤ 100000) (hm : 65 ≤ m) (hm2 : l.length < m) : sent_D m (nI l) [(1 : Int), (0 : Int), (1 : Int), (0 : Int), (0 : Int)] = some ((), (nI (sent5 l), ())) := by
  have e : [(1 : Int), (0 : Int), (1 : Int), (0 : Int), (0 : Int)] = nI [1, 0, 1, 0, 0] := rfl
  have h := sent_eq m l [1, 0, 1, 0, 0] hl (by decide) (by decide) (by decide) (by omega) (by simp; omega) hm2
  have h2 := sentOf_run 5 20 l (by decide) (by decide) hl
  rw [reg_short, show (2 : Nat) ^ 5 - 1 = 31 from rfl, reg_ones5] at h2
  rw [e, h]
  show some ((), (nI (Chk.sentOf (l.foldl (Chk.refStep [1, 0, 1, 0, 0]) (List.replicate 5 1))), ())) = _
  rw [h2]; rfl
theorem num_bitsN : ∀ (n v : Nat), v < 2 ^ n → Chk.num (Chk.bitsN v n) = v := by
  intro n
  induction n with
  | zero => intro v h; simp at h; subst h; rfl
  | succ n ih =>
    intro v h
    rw [Chk.bitsN_cons]
    show 2 * Chk.num (Chk.bitsN (v / 2) n) + v % 2 = v
    rw [ih _ (by rw [Nat.pow_succ] at h; omega)]; omega
theorem r16_eq (m : Nat) (l : List Nat) (hl : ∀ x ∈ l, x < 256) (hn : l.length ≤ 10000) (hm : 65 ≤ m) (hm2 : 8 * l.length < m) : r16_D m (nI l) = some (((Chk.sixteen l : Nat) : Int), ()) := by
  have e : [(1 : Int), (0 : Int), (1 : Int), (0 : Int), (0 : Int), (0 : Int), (0 : Int), (0 : Int), (0 : Int), (0 : Int), (0 : Int), (0 : Int), (0 : Int), (0 : Int), (0 : Int), (1 : Int)] = nI [1, 0, 1, 0, 0, 0, 0, 0, 0, 0, 0, 0, 0, 0, 0, 1] := rfl
  have hb := Chk.allBits_lt l
  have hlen := Chk.allBits_len l
  have h := sent_eq m (Chk.allBits l) [1, 0, 1, 0, 0, 0, 0, 0, 0, 0, 0, 0, 0, 0, 0, 1] hb (by decide) (by decide) (by decide) (by omega) (by simp; omega) (by omega)
  have h2 := sentOf_run 16 40961 (Chk.allBits l) (by decide) (by decide) hb
  rw [reg_long, show (2 : Nat) ^ 16 - 1 = 65535 from rfl, reg_ones16] at h2
  have h3 : Chk.sixteen l < 2 ^ 16 := sixteen_lt l
  unfold r16_D
  rw [all_eq m l hl (by omega) hm (by omega), bnd_some, e, h, bnd_some]
  simp only
  rw [show [1, 0, 1, 0, 0, 0, 0, 0, 0, 0, 0, 0, 0, 0, 0, 1].length = 16 from rfl, h2]
  have h4 : Chk.run 40961 65535 (Chk.allBits l) ^^^ 65535 = Chk.sixteen l := rfl
  rw [h4, number_eq m _ (Chk.bitsN_lt _ _) (by rw [Chk.bitsN_len]; omega) (by omega), bnd_some, num_bitsN 16 _ h3]

end Go.Proofs.YtpdbekbobkjfgaaDoor

