/-
  The statement PacketsDecode: the law's plain function is true (4).
  Conditions: none.
-/
import Derived.Test.YtpdbekbobkjfgaaDoorD3W
namespace Go.Proofs.YtpdbekbobkjfgaaDoor
set_option linter.unusedVariables false
set_option linter.unusedSimpArgs false
set_option maxRecDepth 100000
set_option maxHeartbeats 2000000

theorem rbits2 (m p : Nat) (hp : p < 16) (hm : 100 ≤ m) (h : shv p = 2) (w : Nat) (hw : w < 2048) (F H P K : Int) (C L : Bool) (D : List Int) :
    rbits_D m ((p : Int), ((w % 128 : Nat) : Int), ((w / 128 : Nat) : Int), F, H, P, C, L, K, D, ()) = some (Sum.inl ((), nI (Chk.bitsN w 11), ())) := by
  unfold rbits_D
  rw [rbJ0_lit m p hp, dT h]
  simp only [cond_true]
  rw [w64 (x := ((w % 128 : Nat) : Int)) (by omega) (by omega), w64 (x := ((w / 128 : Nat) : Int)) (by omega) (by omega), show (7 : Int) = ((7 : Nat) : Int) from rfl, low_eq m _ 7 (by omega) (by omega) (by omega), bnd_some, show (4 : Int) = ((4 : Nat) : Int) from rfl, low_eq m _ 4 (by omega) (by omega) (by omega), bnd_some]
  simp only [nI_len, Chk.bitsN_len, nI_app]
  have e1 : Chk.bitsN (w % 128) 7 = Chk.bitsN w 7 := bitsN_mod w 7
  rw [gr1 _ (by omega), cond_true, e1, ← show Chk.bitsN w (7 + 4) = Chk.bitsN w 7 ++ Chk.bitsN (w / 128) 4 from bitsN_add w 7 4]
theorem rbits3 (m p : Nat) (hp : p < 16) (hm : 100 ≤ m) (h : shv p = 3) (w : Nat) (hw : w < 2048) (A E H P K : Int) (C L : Bool) (D : List Int) :
    rbits_D m ((p : Int), A, E, (w : Int), H, P, C, L, K, D, ()) = some (Sum.inl ((), nI (Chk.bitsN w 11), ())) := by
  unfold rbits_D
  rw [rbJ0_lit m p hp, dF (show ¬ shv p = 2 by omega)]
  simp only [cond_false, is5 p hp]
  rw [dT h, cond_true, w64 (x := (w : Int)) (by omega) (by omega), show (11 : Int) = ((11 : Nat) : Int) from rfl, low_eq m _ 11 (by omega) (by omega) (by omega), bnd_some]
theorem flag_eq (m : Nat) (b : Bool) : flag_D m b = some ((if b then (1 : Int) else 0), ()) := by cases b <;> rfl
theorem flag_dec (m q : Nat) : flag_D m (decide (q % 2 = 1)) = some (((q % 2 : Nat) : Int), ()) := by
  rw [flag_eq]
  by_cases h : q % 2 = 1
  · rw [if_pos (by simpa using h), h]; rfl
  · rw [if_neg (by simpa using h), show q % 2 = 0 by omega]; rfl
theorem bits19 (w : Nat) : Chk.bitsN w 7 ++ [w / 128 % 2] ++ Chk.bitsN (w / 256) 7 ++ [w / 32768 % 2, w / 65536 % 2] ++ Chk.bitsN (w / 131072) 2 = Chk.bitsN w 19 := by
  have e1 := bitsN_add w 7 12
  have e2 : Chk.bitsN (w / 2 ^ 7) 12 = w / 128 % 2 :: Chk.bitsN (w / 256) 11 := by
    rw [Chk.bitsN_cons (w / 2 ^ 7) 11, Nat.div_div_eq_div_mul]
  have e3 := bitsN_add (w / 256) 7 4
  have e4 : Chk.bitsN (w / 256 / 2 ^ 7) 4 = w / 32768 % 2 :: w / 65536 % 2 :: Chk.bitsN (w / 131072) 2 := by
    rw [Chk.bitsN_cons, Chk.bitsN_cons, Nat.div_div_eq_div_mul, Nat.div_div_eq_div_mul, Nat.div_div_eq_div_mul]
  rw [show (19 : Nat) = 7 + 12 from rfl, e1, e2, show (11 : Nat) = 7 + 4 from rfl, e3, e4]
  simp only [List.append_assoc, List.cons_append, List.nil_append]
theorem rbits4 (m p : Nat) (hp : p < 16) (hm : 100 ≤ m) (h : shv p = 4) (w : Nat) (hw : w < 524288) (hz : w / 65536 % 2 = 0) (A E F : Int) (D : List Int) :
    rbits_D m ((p : Int), A, E, F, ((w % 128 : Nat) : Int), ((w / 256 % 128 : Nat) : Int), decide (w / 128 % 2 = 1), decide (w / 32768 % 2 = 1), ((w / 131072 : Nat) : Int), D, ()) = some (Sum.inl ((), nI (Chk.bitsN w 19), ())) := by
  unfold rbits_D
  rw [rbJ0_lit m p hp, dF (show ¬ shv p = 2 by omega)]
  simp only [cond_false, is5 p hp, is8 p hp]
  rw [dF (show ¬ shv p = 3 by omega), cond_false, dT h, Bool.not_true, cond_false]
  rw [w64 (x := ((w % 128 : Nat) : Int)) (by omega) (by omega), w64 (x := ((w / 256 % 128 : Nat) : Int)) (by omega) (by omega), w64 (x := ((w / 131072 : Nat) : Int)) (by omega) (by omega), show (7 : Int) = ((7 : Nat) : Int) from rfl, low_eq m _ 7 (by omega) (by omega) (by omega), bnd_some, flag_dec, bnd_some]
  simp only [nI_one, nI_app, nI_len, List.length_append, List.length_cons, List.length_nil, Chk.bitsN_len]
  rw [gr1 _ (by omega), cond_true, low_eq m _ 7 (by omega) (by omega) (by omega), bnd_some]
  simp only [nI_one, nI_app, nI_len, List.length_append, List.length_cons, List.length_nil, Chk.bitsN_len]
  rw [gr1 _ (by omega), cond_true, flag_dec, bnd_some]
  have e2 : [((w / 32768 % 2 : Nat) : Int), (0 : Int)] = nI [w / 32768 % 2, w / 65536 % 2] := by rw [hz]; rfl
  simp only [e2, nI_app, nI_len, List.length_append, List.length_cons, List.length_nil, Chk.bitsN_len]
  rw [gr1 _ (by omega), cond_true, show (2 : Int) = ((2 : Nat) : Int) from rfl, low_eq m _ 2 (by omega) (by omega) (by omega), bnd_some]
  simp only [nI_app, nI_len, List.length_append, List.length_cons, List.length_nil, Chk.bitsN_len]
  have e3 : Chk.bitsN (w % 128) 7 = Chk.bitsN w 7 := bitsN_mod w 7
  have e4 : Chk.bitsN (w / 256 % 128) 7 = Chk.bitsN (w / 256) 7 := bitsN_mod (w / 256) 7
  rw [gr1 _ (by omega), cond_true, e3, e4, bits19]
theorem rencode1 (m p : Nat) (hp : p < 16) (h : shv p = 1) (A E F H P K : Int) (C L : Bool) (D : List Int) : rencode_D m ((p : Int), A, E, F, H, P, C, L, K, D, ()) = some (nI [p + 16 * (15 - p)], ()) := by
  unfold rencode_D
  simp only [rfirst_eq m p hp, bnd_some]
  rw [rJ0_lit m p hp, dF (show ¬ shv p = 5 by omega)]
  simp only [cond_false]
  unfold rencode_J1 rbits_D
  rw [rbJ0_lit m p hp, dF (show ¬ shv p = 2 by omega)]
  simp only [cond_false, is5 p hp, is8 p hp]
  rw [dF (show ¬ shv p = 3 by omega), cond_false, dF (show ¬ shv p = 4 by omega), Bool.not_false, cond_true, bnd_some, sumK_r]
  rfl
theorem rencode5 (m p : Nat) (hp : p < 16) (hm : 10000 ≤ m) (h : shv p = 5) (A E F H P K : Int) (C L : Bool) (l : List Nat) (hl : ∀ x ∈ l, x < 256) (hn : l.length ≤ 1100) (a b : Nat) (ha : a < 256) (hb : b < 256) (hs : Chk.sixteen l = a + 256 * b) :
    rencode_D m ((p : Int), A, E, F, H, P, C, L, K, nI l, ()) = some (nI ((p + 16 * (15 - p)) :: (l ++ [a, b])), ()) := by
  unfold rencode_D
  simp only [rfirst_eq m p hp, bnd_some]
  rw [rJ0_lit m p hp, dT h]
  simp only [cond_true]
  rw [r16_eq m l hl (by omega) (by omega) (by omega), bnd_some, hs]
  have e1 : Go.IntKind.wrap .u8 (Int.tmod ((a + 256 * b : Nat) : Int) 256) = (a : Int) := by rw [Int.tmod_eq_emod_of_nonneg (by omega), w8 (by omega) (by omega)]; omega
  have e2 : Go.IntKind.wrap .u8 (Go.IntKind.wrap .u64 (Int.tdiv ((a + 256 * b : Nat) : Int) 256)) = (b : Int) := by rw [Int.tdiv_eq_ediv_of_nonneg (by omega), w64 (by omega) (by omega), w8 (by omega) (by omega)]; omega
  have e3 : [(a : Int), (b : Int)] = nI [a, b] := rfl
  have e4 : [((p + 16 * (15 - p) : Nat) : Int)] = nI [p + 16 * (15 - p)] := rfl
  simp only [e1, e2]
  rw [e3, e4]
  simp only [nI_app, nI_len, List.length_append, List.length_cons, List.length_nil]
  rw [gr1 _ (by omega), cond_true, gr1 _ (by omega), cond_true]
  simp only [List.cons_append, List.nil_append]
end Go.Proofs.YtpdbekbobkjfgaaDoor

