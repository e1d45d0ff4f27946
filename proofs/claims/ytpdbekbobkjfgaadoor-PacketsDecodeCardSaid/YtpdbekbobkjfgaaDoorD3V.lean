/-
  The statement PacketsDecode: the law's plain function is true (2).
  Conditions: none.
-/
import Derived.Test.YtpdbekbobkjfgaaDoorD3U
namespace Go.Proofs.YtpdbekbobkjfgaaDoor
set_option linter.unusedVariables false
set_option linter.unusedSimpArgs false
set_option maxRecDepth 100000
set_option maxHeartbeats 2000000

theorem pq8 : (2 : Int) ^ Min.min (Int.toNat (8 : Int)) (Go.IntKind.bits Go.IntKind.u16) = 256 := by decide
theorem or16b (a b : Nat) (ha : a < 256) (hb : b < 256) : Go.bits Go.BinOp.or Go.IntKind.u16 (Go.IntKind.wrap .u16 (a : Int)) (Go.IntKind.wrap .u16 (Go.IntKind.wrap .u16 (b : Int) * 256)) = ((a + 256 * b : Nat) : Int) := by
  rw [w16 (x := (a : Int)) (by omega) (by omega), w16 (x := (b : Int)) (by omega) (by omega), w16 (by omega) (by omega), show Go.bits Go.BinOp.or Go.IntKind.u16 (a : Int) ((b : Int) * 256) = (a : Int) + (b : Int) * 256 from u16_or8 _ _ (by omega) (by omega) (by omega) (by omega) (by omega)]; omega
theorem cloneB_eq (m : Nat) (xs : List Int) (h : xs.length ≤ 1000000) : cloneB_D m xs = some ((), xs, ()) := by
  unfold cloneB_D
  rw [dT h, cond_true]
theorem byte_at {l : List Nat} (hl : ∀ x ∈ l, x < 256) (i : Nat) : l.getD i 0 < 256 := by
  rw [List.getD_eq_getElem?_getD]
  cases hx : l[i]? with
  | none => simp
  | some y => exact hl y (List.mem_of_getElem? hx)
theorem ckcheck_eq (m : Nat) (l : List Nat) (hl : ∀ x ∈ l, x < 256) (h2 : 2 ≤ l.length) (hn : l.length ≤ 2000) (hm : 2000 < m) :
    ckcheck_D m (nI l) = if Chk.sixteen (l.take (l.length - 2)) = l.getD (l.length - 2) 0 + 256 * l.getD (l.length - 1) 0 then some ((nI (l.take (l.length - 2)), 0, ()), ()) else some (([], 10, ()), ()) := by
  have ht : ∀ x ∈ l.take (l.length - 2), x < 256 := fun x hx => hl x (List.mem_of_mem_take hx)
  have hw : Go.IntKind.wrap .i64 ((l.length : Int) - 2) = ((l.length - 2 : Nat) : Int) := by rw [wi64 (by omega) (by omega)]; omega
  have hw1 : Go.IntKind.wrap .i64 (((l.length - 2 : Nat) : Int) + 1) = ((l.length - 1 : Nat) : Int) := by rw [wi64 (by omega) (by omega)]; omega
  have hs := sixteen_eq m (l.take (l.length - 2)) ht (by simp; omega) (by simp; omega)
  unfold ckcheck_D
  simp only [nI_len, hw, hw1, Int.toNat_natCast, nI_take, nI_get, hs, bnd_some, pq8, or16b _ _ (byte_at hl _) (byte_at hl _)]
  rw [dF (by omega), cond_false, dT (by omega), dT (show l.length - 2 ≤ l.length by omega), Bool.and_self, cond_true, inT (by omega) (by omega), cond_true, inT (by omega) (by omega), cond_true, cloneB_eq m _ (by rw [nI_len]; simp; omega), bnd_some]
  simp only [nI_len, dT (show (0 : Int) ≤ ((l.take (l.length - 2)).length : Int) by omega), dT (Int.le_refl _), Int.toNat_natCast, dT (Nat.le_refl _), Bool.and_self, cond_true, nI_take, List.take_length, bif_ifn]
  by_cases h : Chk.sixteen (l.take (l.length - 2)) = l.getD (l.length - 2) 0 + 256 * l.getD (l.length - 1) 0
  · rw [if_pos h, if_pos (by omega)]
  · rw [if_neg h, if_neg (by omega)]
theorem rmany_eq (m p : Nat) (h : p < 16) : rmany_D m (p : Int) = some ((if shv p = 5 then -1 else if shv p = 2 ∨ shv p = 3 then 2 else if shv p = 4 then 3 else 0), ()) := by
  rcases lt16 h with rfl | rfl | rfl | rfl | rfl | rfl | rfl | rfl | rfl | rfl | rfl | rfl | rfl | rfl | rfl | rfl <;> rfl
theorem b24 (x y z : Nat) (hx : x < 256) (hy : y < 256) : Chk.allBits [x, y, z] = Chk.bitsN (x + 256 * y + 65536 * z) 24 := by
  rw [show [x, y, z] = [x, y] ++ [z] from rfl, Chk.allBits_append, Chk.two_bytes x y hx, show (24 : Nat) = 16 + 8 from rfl, bitsN_add]
  have e1 : Chk.bitsN (x + 256 * y + 65536 * z) 16 = Chk.bitsN (x + 256 * y) 16 := by
    rw [← bitsN_mod, ← bitsN_mod (x + 256 * y)]; congr 1; omega
  have e2 : (x + 256 * y + 65536 * z) / 2 ^ 16 = z := by omega
  rw [e1, e2]
  simp [Chk.allBits]
/-- The reference's error of fields. -/
theorem rerr_bits (m v k : Nat) (hk : k + 5 ≤ 32) (hv : v < 2 ^ (k + 5)) (hm : 100 ≤ m) :
    sent_D m ((nI (Chk.bitsN v (k + 5))).take k) [(1 : Int), (0 : Int), (1 : Int), (0 : Int), (0 : Int)] = some ((), (nI (Chk.bitsN (Chk.five v k) 5), ())) ∧
    decide (ByteArray.toList (Go.strOfNums (nI (Chk.bitsN (Chk.five v k) 5))) = ByteArray.toList (Go.strOfNums ((nI (Chk.bitsN v (k + 5))).drop k))) = decide (Chk.five v k = v / 2 ^ k) := by
  have et : (Chk.bitsN v (k + 5)).take k = Chk.bitsN v k := Chk.bitsN_take v (k + 5) k (by omega)
  have ed : (Chk.bitsN v (k + 5)).drop k = Chk.bitsN (v / 2 ^ k) 5 := by
    rw [bitsN_add]
    exact List.drop_left' (Chk.bitsN_len v k)
  have hp : 0 < 2 ^ k := Nat.two_pow_pos k
  have hv2 : v / 2 ^ k < 2 ^ 5 := by
    rw [Nat.div_lt_iff_lt_mul hp]
    rw [Nat.pow_add] at hv; omega
  constructor
  · rw [nI_take, et, sent5_eq m _ (Chk.bitsN_lt _ _) (by rw [Chk.bitsN_len]; omega) (by omega) (by rw [Chk.bitsN_len]; omega), sent5_bits]
  · rw [nI_drop, ed, strs_eq _ _ (fun x hx => by have := Chk.bitsN_lt _ _ x hx; omega) (fun x hx => by have := Chk.bitsN_lt _ _ x hx; omega)]
    exact decide_eq_decide.2 ⟨fun h => bitsN_inj (five_lt v k) hv2 h, fun h => by rw [h]⟩
theorem z5'' (n : Nat) : decide ((0 : Int) ≤ (n : Int)) = true := dT (by omega)
theorem rerror_eq (m f : Nat) (hf : f < 256) (rest : List Nat) (hr : ∀ x ∈ rest, x < 256) (hn : rest.length ≤ 1100) (hm : 10000 ≤ m) : rerror_D m (nI (f :: rest)) = if good f = true then
    (if shv (f % 16) = 1 then (if rest = [] then some (0, ()) else some (5, ()))
    else if shv (f % 16) = 5 then (if rest.length < 2 ∨ 1026 < rest.length then some (5, ()) else if Chk.sixteen (rest.take (rest.length - 2)) = rest.getD (rest.length - 2) 0 + 256 * rest.getD (rest.length - 1) 0 then some (0, ()) else some (10, ()))
    else if shv (f % 16) = 4 then (if rest.length ≠ 3 then some (5, ()) else if Chk.five (rest.getD 0 0 + 256 * rest.getD 1 0 + 65536 * rest.getD 2 0) 19 = (rest.getD 0 0 + 256 * rest.getD 1 0 + 65536 * rest.getD 2 0) / 524288 then (if (rest.getD 0 0 + 256 * rest.getD 1 0 + 65536 * rest.getD 2 0) / 65536 % 2 = 0 then some (0, ()) else some (4, ())) else some (10, ()))
    else (if rest.length ≠ 2 then some (5, ()) else if Chk.five (rest.getD 0 0 + 256 * rest.getD 1 0) 11 = (rest.getD 0 0 + 256 * rest.getD 1 0) / 2048 then some (0, ()) else some (10, ()))) else some (4, ()) := by
  have hp : f % 16 < 16 := Nat.mod_lt _ (by omega)
  have hle := shv_le (f % 16)
  unfold rerror_D
  rw [rerrJ0_eq m f hf]
  cases hg : good f with
  | false => rfl
  | true =>
    have h0 : shv (f % 16) ≠ 0 := by
      unfold good at hg
      simp only [Bool.and_eq_true, decide_eq_true_eq] at hg
      exact hg.1
    simp only [Bool.not_true, cond_false, if_true, nI_cons, List.length_cons, nI_len, List.getD_cons_zero, t0, t1, zb, za1, z5', Bool.and_self, cond_true, tm16, rmany_eq m _ hp, bnd_some, List.drop_succ_cons, List.drop_zero]
    by_cases h5 : shv (f % 16) = 5
    · rw [if_pos h5, dT (show (-1 : Int) < 0 by omega), cond_true, if_neg (by omega), if_pos h5]
      unfold rerror_J1
      by_cases ha : rest.length < 2
      · rw [dT (show (rest.length : Int) < 2 by omega), cond_true, if_pos (.inl ha)]
        rfl
      · rw [dF (show ¬ (rest.length : Int) < 2 by omega), cond_false]
        by_cases hb : 1026 < rest.length
        · rw [dT (show (1026 : Int) < (rest.length : Int) by omega), if_pos (.inr hb)]
          rfl
        · rw [dF (show ¬ (1026 : Int) < (rest.length : Int) by omega), if_neg (by omega)]
          dsimp only [cond_false]
          have hw : Go.IntKind.wrap .i64 ((rest.length : Int) - 2) = ((rest.length - 2 : Nat) : Int) := by rw [wi64 (by omega) (by omega)]; omega
          have hw1 : Go.IntKind.wrap .i64 ((rest.length : Int) - 1) = ((rest.length - 1 : Nat) : Int) := by rw [wi64 (by omega) (by omega)]; omega
          have ht : ∀ x ∈ rest.take (rest.length - 2), x < 256 := fun x hx => hr x (List.mem_of_mem_take hx)
          have hs := r16_eq m (rest.take (rest.length - 2)) ht (by simp; omega) (by omega) (by simp; omega)
          have q1 := byte_at hr (rest.length - 2)
          have q2 := byte_at hr (rest.length - 1)
          simp only [hw, hw1, Int.toNat_natCast, nI_take, nI_get, hs, bnd_some, nI_len]
          rw [z5'', dT (show rest.length - 2 ≤ rest.length by omega), Bool.and_self, cond_true, inT (by omega) (by omega), cond_true, inT (by omega) (by omega), cond_true]
          generalize rest.getD (rest.length - 2) 0 = a at q1 ⊢
          generalize rest.getD (rest.length - 1) 0 = b at q2 ⊢
          rw [w64 (x := (a : Int)) (by omega) (by omega), w64 (x := (b : Int)) (by omega) (by omega), w64 (x := 256 * (b : Int)) (by omega) (by omega), w64 (by omega) (by omega), bif_ifn]
          by_cases h : Chk.sixteen (rest.take (rest.length - 2)) = a + 256 * b
          · rw [if_pos h, if_pos (by omega)]
          · rw [if_neg h, if_neg (by omega)]
    · rw [if_neg h5, if_neg h5]
      by_cases h1 : shv (f % 16) = 1
      · rw [if_neg (by omega), if_neg (by omega), if_pos h1, dF (by omega), cond_false]
        cases rest with
        | nil => rw [bif_ifn, if_pos (by simp), if_pos rfl, dT (by simp), cond_true]
        | cons a l => rw [bif_ifn, if_neg (by simp only [List.length_cons]; omega), if_neg (by simp)]
      · rw [if_neg h1]
        by_cases h4 : shv (f % 16) = 4
        · rw [if_neg (by omega), if_pos h4, if_pos h4, dF (by omega), cond_false, bif_ifn]
          by_cases hl3 : rest.length = 3
          · match rest, hl3 with
            | [a, b, c], _ =>
              have ha := hr a (by simp)
              have hb := hr b (by simp)
              have hc := hr c (by simp)
              rw [if_pos (by simp), dF (by simp), cond_false, if_neg (by simp), all_eq m _ hr (by simp) (by omega) (by simp; omega), bnd_some, b24 a b c ha hb]
              simp only [List.getD_cons_zero, List.getD_cons_succ]
              have hv : a + 256 * b + 65536 * c < 2 ^ (19 + 5) := by omega
              generalize a + 256 * b + 65536 * c = v at hv ⊢
              obtain ⟨r1, r2⟩ := rerr_bits m v 19 (by omega) hv (by omega)
              have hw : Int.toNat (Go.IntKind.wrap .i64 (((24 : Nat) : Int) - 5)) = 19 := by decide
              have hw' : decide ((0 : Int) ≤ Go.IntKind.wrap .i64 (((24 : Nat) : Int) - 5)) = true := by decide
              simp only [nI_len, Chk.bitsN_len, hw, hw']
              rw [show (24 : Nat) = 19 + 5 from rfl, r1, bnd_some, show decide (19 ≤ 19 + 5) = true from rfl, Bool.and_self, cond_true, cond_true]
              simp only
              rw [r2, show (2 : Nat) ^ 19 = 524288 from rfl, bif_ifn]
              by_cases h : Chk.five v 19 = v / 524288
              · rw [if_pos h, if_pos h]
                unfold rerror_J2
                have h8 : f % 16 = 8 := by
                  unfold shv at h4
                  repeat' split at h4
                  all_goals omega
                have eg : (Chk.bitsN v (19 + 5)).getD 16 0 = v / 65536 % 2 := by
                  rw [show (19 + 5 : Nat) = 16 + 8 from rfl, bitsN_add, List.getD_eq_getElem?_getD, List.getElem?_append_right (by rw [Chk.bitsN_len]; omega), Chk.bitsN_len]
                  simp [Chk.bitsN]
                rw [h8, show (((8 : Nat) : Int)) = 8 from rfl, dT rfl, cond_true, nI_len, Chk.bitsN_len, show inB (16 : Int) (19 + 5) = true from rfl, cond_true, t16, nI_get, eg]
                by_cases hz : v / 65536 % 2 = 0
                · rw [if_pos hz, hz]; rfl
                · rw [if_neg hz, dF (by omega)]; rfl
              · rw [if_neg h, if_neg h]
          · rw [if_neg (by omega), if_pos (by omega)]
        · rw [if_pos (by omega), if_neg h4, dF (by omega), cond_false, bif_ifn]
          by_cases hl2 : rest.length = 2
          · match rest, hl2 with
            | [a, b], _ =>
              have ha := hr a (by simp)
              have hb := hr b (by simp)
              rw [if_pos (by simp), dF (by simp), cond_false, if_neg (by simp), all_eq m _ hr (by simp) (by omega) (by simp; omega), bnd_some, Chk.two_bytes a b ha]
              simp only [List.getD_cons_zero, List.getD_cons_succ]
              have hv : a + 256 * b < 2 ^ (11 + 5) := by omega
              generalize a + 256 * b = v at hv ⊢
              obtain ⟨r1, r2⟩ := rerr_bits m v 11 (by omega) hv (by omega)
              have hw : Int.toNat (Go.IntKind.wrap .i64 (((16 : Nat) : Int) - 5)) = 11 := by decide
              have hw' : decide ((0 : Int) ≤ Go.IntKind.wrap .i64 (((16 : Nat) : Int) - 5)) = true := by decide
              simp only [nI_len, Chk.bitsN_len, hw, hw']
              rw [show (16 : Nat) = 11 + 5 from rfl, r1, bnd_some, show decide (11 ≤ 11 + 5) = true from rfl, Bool.and_self, cond_true, cond_true]
              simp only
              rw [r2, show (2 : Nat) ^ 11 = 2048 from rfl, bif_ifn]
              by_cases h : Chk.five v 11 = v / 2048
              · rw [if_pos h, if_pos h]
                unfold rerror_J2
                have h8 : f % 16 ≠ 8 := by
                  intro e
                  rw [e] at h4
                  exact h4 rfl
                rw [dF (by omega)]; rfl
              · rw [if_neg h, if_neg h]
          · rw [if_neg (by omega), if_pos (by omega)]
end Go.Proofs.YtpdbekbobkjfgaaDoor
