/-
  Plain laws: the reference's checks, as the code reckons them out, are those of plain arithmetic.
  Conditions: none.
-/
import Derived.Test.YtpdbekbobkjfgaaDoorD3P
namespace Go.Proofs.YtpdbekbobkjfgaaDoor
set_option linter.unusedVariables false
set_option maxRecDepth 100000
set_option maxHeartbeats 1000000

theorem gr1 (n : Nat) (h : n ≤ 1000000000) : growOb 1 n = true := growT (by omega) (by omega)
theorem low_L0_eq (m v n : Nat) (hv : v < 18446744073709551616) (hn : n ≤ 64) : ∀ (f i : Nat), i ≤ n → n - i < f → low_L0 m f (v : Int) (n : Int) (i : Int) (nI (Chk.bitsN v i)) = some ((), (nI (Chk.bitsN v n), ())) := by
  intro f
  induction f with
  | zero => intro i _ h; omega
  | succ f ih =>
    intro i hi hf
    rw [low_L0]
    by_cases hlt : i < n
    · have hb : v / 2 ^ i % 256 < 256 := Nat.mod_lt _ (by omega)
      have e1 : Go.bits Go.BinOp.and Go.IntKind.u8 (Go.IntKind.wrap .u8 (Int.fdiv (v : Int) ((2 : Int) ^ Min.min (Int.toNat (Go.IntKind.wrap .u64 (i : Int))) (Go.IntKind.bits Go.IntKind.u64)))) (1 : Int) = ((v / 2 ^ i % 2 : Nat) : Int) := by
        rw [w64 (by omega) (by omega), show Go.IntKind.bits Go.IntKind.u64 = 64 from rfl, pw i 64 (by omega), fd, w8m, show ((v / 2 ^ i : Nat) : Int) % 256 = ((v / 2 ^ i % 256 : Nat) : Int) by omega, and8_1 _ hb]
        omega
      rw [dT (show (i : Int) < (n : Int) by omega), cond_true, e1, w64 (by omega) (by omega), dT (show (0 : Int) ≤ (i : Int) by omega), cond_true, nI_one, nI_app, nI_len, Chk.bitsN_len, gr1 _ (by simp [nI]; omega), cond_true, wi64 (by omega) (by omega), ← Chk.bitsN_succ]
      rw [show ((i : Int) + 1) = ((i + 1 : Nat) : Int) by omega]
      exact ih (i + 1) (by omega) (by omega)
    · have : i = n := by omega
      subst this
      rw [dF (show ¬ (i : Int) < (i : Int) by omega), cond_false]
theorem low_eq (m v n : Nat) (hv : v < 18446744073709551616) (hn : n ≤ 64) (hm : 65 ≤ m) : low_D m (v : Int) (n : Int) = some ((), (nI (Chk.bitsN v n), ())) := by
  have h := low_L0_eq m v n hv hn m 0 (by omega) (by omega)
  have e0 : nI (Chk.bitsN v 0) = [] := rfl
  rw [e0] at h
  unfold low_D
  rw [show (0 : Int) = ((0 : Nat) : Int) from rfl, h, bnd_some]
theorem num_lt : ∀ (l : List Nat), (∀ b ∈ l, b < 2) → Chk.num l < 2 ^ l.length := by
  intro l
  induction l with
  | nil => intro _; decide
  | cons b l ih =>
    intro h
    have h1 := ih fun x hx => h x (by simp [hx])
    have h2 := h b (by simp)
    show 2 * Chk.num l + b < 2 ^ (l.length + 1)
    rw [Nat.pow_succ]; omega
theorem number_L0_eq (m : Nat) (l : List Nat) (hl : ∀ b ∈ l, b < 2) (hn : l.length ≤ 60) : ∀ (f j : Nat), j ≤ l.length → j < f → number_L0 m f (nI l) ((Chk.num (l.drop j) : Nat) : Int) ((j : Int) - 1) = some ((((Chk.num l : Nat) : Int), ()), ()) := by
  intro f
  induction f with
  | zero => intro j _ h; omega
  | succ f ih =>
    intro j hj hf
    rw [number_L0]
    cases j with
    | zero => rw [dF (show ¬ (0 : Int) ≤ ((0 : Nat) : Int) - 1 by omega), cond_false, List.drop_zero]
    | succ j =>
      have hlt : j < l.length := by omega
      have hb : l.getD j 0 < 2 := by rw [getD_lt hlt]; exact hl _ (List.getElem_mem _)
      have ed : l.drop j = l.getD j 0 :: l.drop (j + 1) := by rw [getD_lt hlt]; exact drop_get hlt
      have en : Chk.num (l.drop j) = 2 * Chk.num (l.drop (j + 1)) + l.getD j 0 := by rw [ed]; rfl
      have h1 := num_lt (l.drop (j + 1)) (fun b hb => hl b (List.mem_of_mem_drop hb))
      have h2 : (2 : Nat) ^ (l.drop (j + 1)).length ≤ 2 ^ 60 := Nat.pow_le_pow_right (by omega) (by simp; omega)
      rw [show (((j + 1 : Nat) : Int) - 1) = (j : Int) by omega, dT (show (0 : Int) ≤ (j : Int) by omega), cond_true, nI_len, inT (by omega) (by omega), cond_true, Int.toNat_natCast, nI_get]
      generalize Chk.num (l.drop (j + 1)) = q at *
      rw [w64 (x := 2 * (q : Int)) (by omega) (by omega), w64 (x := ((l.getD j 0 : Nat) : Int)) (by omega) (by omega), w64 (by omega) (by omega), wi64 (by omega) (by omega)]
      rw [show (2 * (q : Int) + ((l.getD j 0 : Nat) : Int)) = ((2 * q + l.getD j 0 : Nat) : Int) by omega, ← en]
      exact ih j (by omega) (by omega)
theorem number_eq (m : Nat) (l : List Nat) (hl : ∀ b ∈ l, b < 2) (hn : l.length ≤ 60) (hm : 61 < m) : number_D m (nI l) = some (((Chk.num l : Nat) : Int), ()) := by
  have h := number_L0_eq m l hl hn m l.length (by omega) (by omega)
  rw [List.drop_length] at h
  unfold number_D
  rw [nI_len, wi64 (by omega) (by omega)]
  have e0 : ((Chk.num [] : Nat) : Int) = 0 := rfl
  rw [e0] at h
  rw [h, bnd_some]

theorem refStep_len (p r : List Nat) (b : Nat) : (Chk.refStep p r b).length = r.length := by simp [Chk.refStep]
theorem refStep_lt (p r : List Nat) (b : Nat) (hp : ∀ x ∈ p, x < 2) : ∀ x ∈ Chk.refStep p r b, x < 2 := by
  intro x hx
  obtain ⟨j, _, rfl⟩ := List.mem_map.1 hx
  have hp0 : p.getD 0 0 < 2 := by
    rw [List.getD_eq_getElem?_getD]
    cases h : p[0]? with
    | none => simp
    | some y => exact hp y (List.mem_of_getElem? h)
  split
  · have h1 : (r.getD (r.length - 1) 0 + b) % 2 < 2 := Nat.mod_lt _ (by omega)
    have h2 : (r.getD (r.length - 1) 0 + b) % 2 * p.getD 0 0 ≤ 1 * 1 := Nat.mul_le_mul (by omega) (by omega)
    omega
  · exact Nat.mod_lt _ (by omega)
def half (old new : List Nat) (j : Nat) : List Nat := old.take (j + 1) ++ new.drop (j + 1)
theorem half_len {old new : List Nat} (h : old.length = new.length) (j : Nat) : (half old new j).length = old.length := by simp [half]; omega
theorem half_get_le {old new : List Nat} {j i : Nat} (hi : i ≤ j) (hj : j < old.length) : (half old new j)[i]? = old[i]? := by
  unfold half
  rw [List.getElem?_append_left (by simp; omega), List.getElem?_take, if_pos (by omega)]
theorem half_get_gt {old new : List Nat} {j i : Nat} (h : old.length = new.length) (hi : j < i) (hj : j < old.length) : (half old new j)[i]? = new[i]? := by
  unfold half
  rw [List.getElem?_append_right (by simp; omega)]
  simp only [List.length_take, List.getElem?_drop]
  congr 1; omega
theorem half_set {old new : List Nat} {j x : Nat} (h : old.length = new.length) (hj : j + 1 < old.length) (hx : new[j + 1]? = some x) : (half old new (j + 1)).set (j + 1) x = half old new j := by
  apply List.ext_getElem?
  intro i
  rw [List.getElem?_set, half_len h]
  by_cases h1 : j + 1 = i
  · subst h1
    rw [if_pos rfl, if_pos hj, half_get_gt h (by omega) (by omega), hx]
  · rw [if_neg h1]
    rcases Nat.lt_or_ge i (j + 1) with h2 | h2
    · rw [half_get_le (by omega) (by omega), half_get_le (by omega) (by omega)]
    · rw [half_get_gt h (by omega) (by omega), half_get_gt h (by omega) (by omega)]
theorem half_last {old new : List Nat} (h : old.length = new.length) (d : Nat) (hd : d + 1 = old.length) : half old new d = old := by
  unfold half
  rw [List.take_of_length_le (by omega), List.drop_eq_nil_of_le (by omega), List.append_nil]
theorem half_first {old new : List Nat} {x : Nat} (h : old.length = new.length) (h0 : 0 < old.length) (hx : new[0]? = some x) : (half old new 0).set 0 x = new := by
  apply List.ext_getElem?
  intro i
  rw [List.getElem?_set, half_len h]
  by_cases h1 : 0 = i
  · subst h1; rw [if_pos rfl, if_pos h0, hx]
  · rw [if_neg h1, half_get_gt h (by omega) h0]
theorem refStep_get (p r : List Nat) (b j : Nat) (h : j < r.length) (h0 : j ≠ 0) : (Chk.refStep p r b)[j]? = some ((r.getD (j - 1) 0 + (r.getD (r.length - 1) 0 + b) % 2 * p.getD j 0) % 2) := by
  unfold Chk.refStep
  rw [List.getElem?_map, List.getElem?_range h]
  simp only [Option.map_some, if_neg h0]
theorem refStep_get0 (p r : List Nat) (b : Nat) (h : 0 < r.length) : (Chk.refStep p r b)[0]? = some ((r.getD (r.length - 1) 0 + b) % 2 * p.getD 0 0) := by
  unfold Chk.refStep
  rw [List.getElem?_map, List.getElem?_range h]
  simp
theorem getD_some {l : List Nat} {i x : Nat} (h : l[i]? = some x) : l.getD i 0 = x := by rw [List.getD_eq_getElem?_getD, h]; rfl
theorem getD_of {a b : List Nat} {i : Nat} (h : a[i]? = b[i]?) : a.getD i 0 = b.getD i 0 := by rw [List.getD_eq_getElem?_getD, List.getD_eq_getElem?_getD, h]
theorem getD_lt2 {l : List Nat} (h : ∀ x ∈ l, x < 2) (i : Nat) : l.getD i 0 < 2 := by
  rw [List.getD_eq_getElem?_getD]
  cases hx : l[i]? with
  | none => simp
  | some y => exact h y (List.mem_of_getElem? hx)
theorem behind_L2_eq (m : Nat) (l p r : List Nat) (b : Nat) (i : Int) (hp : ∀ x ∈ p, x < 2) (hr : ∀ x ∈ r, x < 2) (hd : r.length = p.length) (hd0 : r.length ≤ 1000) : ∀ (f j : Nat), j < r.length → j < f →
    behind_L2 m f (nI l) (nI p) (r.length : Int) i (((r.getD (r.length - 1) 0 + b) % 2 : Nat) : Int) (j : Int) (nI (half r (Chk.refStep p r b) j)) = some ((nI l, (nI p, ((r.length : Int), (i, ((((r.getD (r.length - 1) 0 + b) % 2 : Nat) : Int), ()))))), (nI (half r (Chk.refStep p r b) 0), ())) := by
  have hl := refStep_len p r b
  intro f
  induction f with
  | zero => intro j _ h; omega
  | succ f ih =>
    intro j hj hf
    rw [behind_L2]
    cases j with
    | zero => rw [dF (show ¬ (0 : Int) < ((0 : Nat) : Int) by omega), cond_false]
    | succ j =>
      have hs : (r.getD (r.length - 1) 0 + b) % 2 < 2 := Nat.mod_lt _ (by omega)
      have hx := getD_lt2 hr j
      have hy := getD_lt2 hp (j + 1)
      have eg : (half r (Chk.refStep p r b) (j + 1)).getD j 0 = r.getD j 0 := getD_of (half_get_le (by omega) hj)
      rw [dT (show (0 : Int) < ((j + 1 : Nat) : Int) by omega), cond_true, wi64 (x := ((j + 1 : Nat) : Int) - 1) (by omega) (by omega)]
      rw [show (((j + 1 : Nat) : Int) - 1) = (j : Int) by omega]
      simp only [nI_len, Int.toNat_natCast, nI_get, half_len hl.symm]
      rw [inT (by omega) (by omega), cond_true, dT (show j < r.length by omega), cond_true, inT (by omega) (by omega), cond_true, inT (by omega) (by omega), cond_true, dT (show j + 1 < r.length by omega), cond_true, eg]
      have hg := refStep_get p r b (j + 1) hj (by omega)
      rw [show j + 1 - 1 = j from rfl] at hg
      generalize (r.getD (r.length - 1) 0 + b) % 2 = s at hs hg ih ⊢
      have hm : s * p.getD (j + 1) 0 ≤ 1 * 1 := Nat.mul_le_mul (by omega) (by omega)
      have e : Int.tmod (Go.IntKind.wrap .u8 (((r.getD j 0 : Nat) : Int) + Go.IntKind.wrap .u8 ((s : Int) * ((p.getD (j + 1) 0 : Nat) : Int)))) (2 : Int) = (((r.getD j 0 + s * p.getD (j + 1) 0) % 2 : Nat) : Int) := by
        rw [← Int.natCast_mul]
        generalize s * p.getD (j + 1) 0 = q at hm ⊢
        rw [w8 (x := (q : Int)) (by omega) (by omega), w8 (by omega) (by omega), Int.tmod_eq_emod_of_nonneg (by omega)]
        omega
      rw [e, nI_set, half_set hl.symm hj hg]
      exact ih j (by omega) (by omega)
theorem behind_L1_eq (m : Nat) (l p : List Nat) (hl : ∀ x ∈ l, x < 2) (hp : ∀ x ∈ p, x < 2) (hd : p.length ≤ 1000) (h0 : 0 < p.length) (hm : p.length < m) (hn : l.length ≤ 1000000) : ∀ (f i : Nat) (r : List Nat), r.length = p.length → (∀ x ∈ r, x < 2) → i ≤ l.length → l.length - i < f →
    behind_L1 m f (nI l) (nI p) (p.length : Int) (i : Int) (nI r) = some ((), (nI ((l.drop i).foldl (Chk.refStep p) r), ())) := by
  intro f
  induction f with
  | zero => intro i r _ _ _ h; omega
  | succ f ih =>
    intro i r hr hr2 hi hf
    rw [behind_L1]
    by_cases hlt : i < l.length
    · have ed : l.drop i = l.getD i 0 :: l.drop (i + 1) := by rw [getD_lt hlt]; exact drop_get hlt
      have hb := getD_lt2 hl i
      have hx := getD_lt2 hr2 (p.length - 1)
      have hpl : Go.IntKind.wrap .i64 ((p.length : Int) - 1) = ((p.length - 1 : Nat) : Int) := by rw [wi64 (by omega) (by omega)]; omega
      simp only [nI_len, hpl, Int.toNat_natCast, nI_get]
      rw [dT (show (i : Int) < (l.length : Int) by omega), cond_true, inT (by omega) (by omega), cond_true, dT (show p.length - 1 < r.length by omega), cond_true, inT (by omega) (by omega), cond_true]
      have e : Int.tmod (Go.IntKind.wrap .u8 (((r.getD (p.length - 1) 0 : Nat) : Int) + ((l.getD i 0 : Nat) : Int))) (2 : Int) = (((r.getD (r.length - 1) 0 + l.getD i 0) % 2 : Nat) : Int) := by
        rw [hr, w8 (by omega) (by omega), Int.tmod_eq_emod_of_nonneg (by omega)]; omega
      have hs2 := behind_L2_eq m l p r (l.getD i 0) (i : Int) hp hr2 hr (by omega) m (p.length - 1) (by omega) (by omega)
      rw [half_last (refStep_len p r _).symm (p.length - 1) (by omega), hr] at hs2
      rw [e, hr, hs2, bnd_some]
      have hr0 := refStep_get0 p r (l.getD i 0) (by omega)
      rw [hr] at hr0
      have hs : (r.getD (p.length - 1) 0 + l.getD i 0) % 2 < 2 := Nat.mod_lt _ (by omega)
      have hp0 := getD_lt2 hp 0
      have hq : (r.getD (p.length - 1) 0 + l.getD i 0) % 2 * p.getD 0 0 ≤ 1 * 1 := Nat.mul_le_mul (by omega) (by omega)
      simp only [nI_len, half_len (refStep_len p r _).symm, nI_get, Int.toNat_zero]
      rw [inT (by omega) (by omega), cond_true, inT (by omega) (by omega), cond_true, dT (show 0 < r.length by omega), cond_true, ← Int.natCast_mul, w8 (by omega) (by omega), nI_set, half_first (refStep_len p r _).symm (by omega) hr0, wi64 (by omega) (by omega), ed, List.foldl_cons]
      rw [show ((i : Int) + 1) = ((i + 1 : Nat) : Int) by omega]
      exact ih (i + 1) _ (by rw [refStep_len, hr]) (refStep_lt p r _ hp) (by omega) (by omega)
    · have : i = l.length := by omega
      subst this
      rw [nI_len, dF (show ¬ ((l.length : Nat) : Int) < (l.length : Int) by omega), cond_false, List.drop_length]
      rfl
theorem behind_L0_eq (m : Nat) (a p : List Int) (d : Nat) (hd : d ≤ 1000) : ∀ (f i : Nat), i ≤ d → d - i < f → behind_L0 m f a p (d : Int) (i : Int) (nI (List.replicate i 1 ++ List.replicate (d - i) 0)) = some ((a, (p, ((d : Int), ()))), (nI (List.replicate d 1), ())) := by
  intro f
  induction f with
  | zero => intro i _ h; omega
  | succ f ih =>
    intro i hi hf
    rw [behind_L0]
    by_cases hlt : i < d
    · simp only [nI_len, List.length_append, List.length_replicate, Int.toNat_natCast]
      rw [dT (show (i : Int) < (d : Int) by omega), cond_true, inT (by omega) (by omega), cond_true, dT (show i < i + (d - i) by omega), cond_true, wi64 (by omega) (by omega)]
      have e : (nI (List.replicate i 1 ++ List.replicate (d - i) 0)).set i 1 = nI (List.replicate (i + 1) 1 ++ List.replicate (d - (i + 1)) 0) := by
        rw [show (1 : Int) = ((1 : Nat) : Int) from rfl, nI_set]
        congr 1
        rw [List.set_append_right _ _ (by simp)]
        simp only [List.length_replicate, Nat.sub_self]
        rw [show d - i = (d - (i + 1)) + 1 by omega, List.replicate_succ, List.set_cons_zero, List.replicate_succ', List.append_assoc]
        rfl
      rw [e, show ((i : Int) + 1) = ((i + 1 : Nat) : Int) by omega]
      exact ih (i + 1) (by omega) (by omega)
    · have : i = d := by omega
      subst this
      rw [dF (show ¬ (i : Int) < (i : Int) by omega), cond_false, Nat.sub_self, List.replicate_zero, List.append_nil]
theorem behind_eq (m : Nat) (l p : List Nat) (hl : ∀ x ∈ l, x < 2) (hp : ∀ x ∈ p, x < 2) (hd : p.length ≤ 1000) (h0 : 0 < p.length) (hn : l.length ≤ 1000000) (hm : p.length < m) (hm2 : l.length < m) :
    behind_D m (nI l) (nI p) = some (nI (l.foldl (Chk.refStep p) (List.replicate p.length 1)), ()) := by
  have h1 := behind_L0_eq m (nI l) (nI p) p.length hd m 0 (by omega) (by omega)
  have h2 := behind_L1_eq m l p hl hp hd h0 hm hn m 0 (List.replicate p.length 1) (by simp) (by intro x hx; rw [(List.mem_replicate.1 hx).2]; omega) (by omega) (by omega)
  have hmk : makeOb 1 (p.length : Int) (p.length : Int) true = true := by
    unfold makeOb
    simp [maxLen]
    omega
  unfold behind_D
  rw [nI_len, hmk, cond_true, Int.toNat_natCast]
  have e0 : List.replicate p.length (0 : Int) = nI (List.replicate 0 1 ++ List.replicate (p.length - 0) 0) := by simp [nI]
  rw [e0, show (0 : Int) = ((0 : Nat) : Int) from rfl, h1, bnd_some]
  simp only
  rw [h2, bnd_some, List.drop_zero]
end Go.Proofs.YtpdbekbobkjfgaaDoor

