/-
  The statement ChecksLong: plain laws of the check of sixteen bits.
  Conditions: none.
-/
import Derived.Test.YtmjocalgekfodaaC9b
import Derived.Test.YtmjocalgekfodaaKF
import Derived.Test.YtmjocalgekfodaaChkD
import Derived.Lib.EndianBits
namespace Go.Proofs.Ytmjocalgekfodaa
set_option linter.unusedVariables false
set_option linter.unusedSimpArgs false
set_option maxRecDepth 100000
set_option maxHeartbeats 2000000

def nI (l : List Nat) : List Int := l.map fun (n : Nat) => (n : Int)
theorem nI_len (l : List Nat) : (nI l).length = l.length := by simp [nI]
theorem nI_app (a b : List Nat) : nI a ++ nI b = nI (a ++ b) := by simp [nI]
theorem nI_get (l : List Nat) (i : Nat) : (nI l).getD i 0 = ((l.getD i 0 : Nat) : Int) := by
  simp only [nI, List.getD_eq_getElem?_getD, List.getElem?_map]
  cases l[i]? <;> rfl
theorem nI_take (l : List Nat) (i : Nat) : (nI l).take i = nI (l.take i) := by simp [nI]
theorem nI_set (l : List Nat) (i x : Nat) : (nI l).set i (x : Int) = nI (l.set i x) := by simp [nI]
theorem nI_of (xs : List Int) (h : ∀ x ∈ xs, 0 ≤ x ∧ x ≤ 255) : ∃ l : List Nat, xs = nI l ∧ ∀ x ∈ l, x < 256 := by
  refine ⟨xs.map Int.toNat, ?_, ?_⟩
  · unfold nI
    rw [List.map_map]
    conv => lhs; rw [← List.map_id xs]
    apply List.map_congr_left
    intro x hx
    have := (h x hx).1
    simp only [id, Function.comp]; omega
  · intro x hx
    obtain ⟨y, hy, rfl⟩ := List.mem_map.1 hx
    have := h y hy
    omega
theorem bw (n : Nat) (a b : Nat) (ha : a < 2 ^ n) (hb : b < 2 ^ n) : (BitVec.ofInt n (a : Int) ^^^ BitVec.ofInt n (b : Int)).toNat = a ^^^ b := by
  rw [BitVec.toNat_xor, BitVec.ofInt_natCast, BitVec.ofInt_natCast, BitVec.toNat_ofNat, BitVec.toNat_ofNat, Nat.mod_eq_of_lt ha, Nat.mod_eq_of_lt hb]
theorem ba (n : Nat) (a b : Nat) (ha : a < 2 ^ n) (hb : b < 2 ^ n) : (BitVec.ofInt n (a : Int) &&& BitVec.ofInt n (b : Int)).toNat = a &&& b := by
  rw [BitVec.toNat_and, BitVec.ofInt_natCast, BitVec.ofInt_natCast, BitVec.toNat_ofNat, BitVec.toNat_ofNat, Nat.mod_eq_of_lt ha, Nat.mod_eq_of_lt hb]
theorem w8 {x : Int} (h0 : 0 ≤ x) (h1 : x < 256) : Go.IntKind.wrap .u8 x = x := by simp [Go.IntKind.wrap, Go.IntKind.bits, Go.IntKind.signed]; omega
theorem w8m (x : Int) : Go.IntKind.wrap .u8 x = x % 256 := by simp [Go.IntKind.wrap, Go.IntKind.bits, Go.IntKind.signed]
theorem w16 {x : Int} (h0 : 0 ≤ x) (h1 : x < 65536) : Go.IntKind.wrap .u16 x = x := wraps_u16 x h0 (by omega)
theorem w64 {x : Int} (h0 : 0 ≤ x) (h1 : x < 18446744073709551616) : Go.IntKind.wrap .u64 x = x := wraps_u64 x h0 (by omega)
theorem wi64 {x : Int} (h0 : -9223372036854775808 ≤ x) (h1 : x < 9223372036854775808) : Go.IntKind.wrap .i64 x = x := by simp [Go.IntKind.wrap, Go.IntKind.bits, Go.IntKind.signed]; omega
theorem xor8 (a b : Nat) (ha : a < 256) (hb : b < 256) : Go.bits Go.BinOp.xor Go.IntKind.u8 (a : Int) (b : Int) = ((a ^^^ b : Nat) : Int) := by
  show Go.IntKind.wrap .u8 ((BitVec.ofInt 8 (a : Int) ^^^ BitVec.ofInt 8 (b : Int)).toNat : Int) = _
  have : a ^^^ b < 2 ^ 8 := Nat.xor_lt_two_pow (by omega) (by omega)
  rw [bw 8 a b (by omega) (by omega), w8 (by omega) (by omega)]
theorem xor16 (a b : Nat) (ha : a < 65536) (hb : b < 65536) : Go.bits Go.BinOp.xor Go.IntKind.u16 (a : Int) (b : Int) = ((a ^^^ b : Nat) : Int) := by
  show Go.IntKind.wrap .u16 ((BitVec.ofInt 16 (a : Int) ^^^ BitVec.ofInt 16 (b : Int)).toNat : Int) = _
  have : a ^^^ b < 2 ^ 16 := Nat.xor_lt_two_pow (by omega) (by omega)
  rw [bw 16 a b (by omega) (by omega), w16 (by omega) (by omega)]
theorem and_mask (a i : Nat) : a &&& (2 ^ i - 1) = a % 2 ^ i := Nat.and_two_pow_sub_one_eq_mod a i
theorem and8_1 (a : Nat) (ha : a < 256) : Go.bits Go.BinOp.and Go.IntKind.u8 (a : Int) (1 : Int) = ((a % 2 : Nat) : Int) := by
  show Go.IntKind.wrap .u8 ((BitVec.ofInt 8 (a : Int) &&& BitVec.ofInt 8 ((1 : Nat) : Int)).toNat : Int) = _
  rw [ba 8 a 1 (by omega) (by omega), and_mask a 1, w8 (by omega) (by omega)]
theorem and8_15 (a : Nat) (ha : a < 256) : Go.bits Go.BinOp.and Go.IntKind.u8 (a : Int) (15 : Int) = ((a % 16 : Nat) : Int) := by
  show Go.IntKind.wrap .u8 ((BitVec.ofInt 8 (a : Int) &&& BitVec.ofInt 8 ((15 : Nat) : Int)).toNat : Int) = _
  rw [ba 8 a 15 (by omega) (by omega), and_mask a 4, w8 (by omega) (by omega)]
theorem and16_15 (a : Nat) (ha : a < 65536) : Go.bits Go.BinOp.and Go.IntKind.u16 (a : Int) (15 : Int) = ((a % 16 : Nat) : Int) := by
  show Go.IntKind.wrap .u16 ((BitVec.ofInt 16 (a : Int) &&& BitVec.ofInt 16 ((15 : Nat) : Int)).toNat : Int) = _
  rw [ba 16 a 15 (by omega) (by omega), and_mask a 4, w16 (by omega) (by omega)]
theorem fd (a b : Nat) : Int.fdiv (a : Int) (b : Int) = ((a / b : Nat) : Int) := by
  rw [Int.fdiv_eq_ediv_of_nonneg _ (by omega)]; rfl
theorem pw (i n : Nat) (h : i ≤ n) : (2 : Int) ^ Min.min (Int.toNat (i : Int)) n = ((2 ^ i : Nat) : Int) := by
  rw [Int.toNat_natCast, Nat.min_eq_left h, Int.natCast_pow]; rfl

def T16 : Int × Int × Int × Int × Int × Int × Int × Int × Int × Int × Int × Int × Int × Int × Int × Int × Unit := (0, 52225, 55297, 5120, 61441, 15360, 10240, 58369, 40961, 27648, 30720, 46081, 20480, 39937, 34817, 17408, ())
def TBL : List Int := [0, 52225, 55297, 5120, 61441, 15360, 10240, 58369, 40961, 27648, 30720, 46081, 20480, 39937, 34817, 17408]
theorem tb_eq : [T16.fst, T16.snd.fst, T16.snd.snd.fst, T16.snd.snd.snd.fst, T16.snd.snd.snd.snd.fst, T16.snd.snd.snd.snd.snd.fst, T16.snd.snd.snd.snd.snd.snd.fst, T16.snd.snd.snd.snd.snd.snd.snd.fst, T16.snd.snd.snd.snd.snd.snd.snd.snd.fst, T16.snd.snd.snd.snd.snd.snd.snd.snd.snd.fst, T16.snd.snd.snd.snd.snd.snd.snd.snd.snd.snd.fst, T16.snd.snd.snd.snd.snd.snd.snd.snd.snd.snd.snd.fst, T16.snd.snd.snd.snd.snd.snd.snd.snd.snd.snd.snd.snd.fst, T16.snd.snd.snd.snd.snd.snd.snd.snd.snd.snd.snd.snd.snd.fst, T16.snd.snd.snd.snd.snd.snd.snd.snd.snd.snd.snd.snd.snd.snd.fst, T16.snd.snd.snd.snd.snd.snd.snd.snd.snd.snd.snd.snd.snd.snd.snd.fst] = TBL := rfl
theorem tb_get (i : Nat) (h : i < 16) : TBL.getD i 0 = ((Chk.T4 40961 i : Nat) : Int) := by
  have : ∀ i : Fin 16, TBL.getD (i : Nat) 0 = ((Chk.T4 40961 (i : Nat) : Nat) : Int) := by decide
  exact this ⟨i, h⟩
theorem sixteen_D_eq (m : Nat) (xs : List Int) : ksix_D m xs = bnd (ksix_L0 m m 65535 xs (xs.length : Int) 0 T16) (fun y => some (Go.bits Go.BinOp.xor Go.IntKind.u16 65535 y.fst.fst, ())) := by kernel_rfl
theorem nib (r x : Nat) : (r ^^^ x) % 16 = (r ^^^ x % 16) % 16 := by
  have h1 := Nat.xor_mod_two_pow (a := r) (b := x) (n := 4)
  have h2 := Nat.xor_mod_two_pow (a := r) (b := x % 16) (n := 4)
  simp only [Nat.reducePow] at h1 h2
  rw [h1, h2, Nat.mod_mod]
theorem T4_lt9 (i : Nat) (h : i < 65536) : Chk.T4 40961 i < 65536 := by
  unfold Chk.T4
  exact Chk.T_lt 40961 16 _ (by decide) (Chk.T_lt 40961 16 _ (by decide) (Chk.T_lt 40961 16 _ (by decide) (Chk.T_lt 40961 16 _ (by decide) h)))
theorem natlit0 (n : Nat) : nat_lit 0 + n = n := Nat.zero_add n
theorem sixteen_L0_eq (m : Nat) (l : List Nat) (hl : ∀ x ∈ l, x < 256) (hlen : l.length ≤ 1000000) : ∀ (f i r : Nat), i ≤ l.length → l.length - i < f → r < 65536 → ksix_L0 m f (r : Int) (nI l) (l.length : Int) (i : Int) T16 = some (((((l.drop i).foldl (Chk.byteStep 40961) r : Nat) : Int), ()), ()) := by
  intro f
  induction f with
  | zero => intro i r _ h; omega
  | succ f ih =>
    intro i r hi hf hr
    rw [ksix_L0]
    by_cases hlt : i < l.length
    · have hx : l.getD i 0 < 256 := by rw [getD_lt hlt]; exact hl _ (List.getElem_mem _)
      have ed : l.drop i = l.getD i 0 :: l.drop (i + 1) := by rw [getD_lt hlt]; exact drop_get hlt
      rw [dT (show (i : Int) < (l.length : Int) by omega), cond_true]
      simp only [nI_len, Int.toNat_natCast, nI_get, tb_eq, natlit0]
      rw [ed, List.foldl_cons]
      generalize l.getD i 0 = x at hx ⊢
      have a1 : Go.bits Go.BinOp.and Go.IntKind.u16 (Go.bits Go.BinOp.xor Go.IntKind.u16 (r : Int) (Go.IntKind.wrap .u16 (x : Int))) (15 : Int) = (((r ^^^ x % 16) % 16 : Nat) : Int) := by
        have := Nat.xor_lt_two_pow (x := r) (y := x) (n := 16) (by omega) (by omega)
        rw [w16 (by omega) (by omega), xor16 _ _ hr (by omega), and16_15 _ (by omega), nib]
      have h4 : Int.fdiv (r : Int) ((2 : Int) ^ Min.min (Int.toNat (4 : Int)) (Go.IntKind.bits Go.IntKind.u16)) = ((r / 16 : Nat) : Int) := fd r 16
      have h5 : Int.fdiv (x : Int) ((2 : Int) ^ Min.min (Int.toNat (4 : Int)) (Go.IntKind.bits Go.IntKind.u8)) = ((x / 16 : Nat) : Int) := fd x 16
      have hn1 : (r ^^^ x % 16) % 16 < 16 := Nat.mod_lt _ (by omega)
      have ht1 := T4_lt9 ((r ^^^ x % 16) % 16) (by omega)
      have hr1 : r / 16 ^^^ Chk.T4 40961 ((r ^^^ x % 16) % 16) < 2 ^ 16 := Nat.xor_lt_two_pow (by omega) (by omega)
      rw [a1, h4, h5, Int.toNat_natCast, tb_get _ hn1, xor16 _ _ (by omega) ht1]
      have e : Chk.byteStep 40961 r x = (r / 16 ^^^ Chk.T4 40961 ((r ^^^ x % 16) % 16)) / 16 ^^^ Chk.T4 40961 (((r / 16 ^^^ Chk.T4 40961 ((r ^^^ x % 16) % 16)) ^^^ x / 16) % 16) := rfl
      rw [e]
      generalize r / 16 ^^^ Chk.T4 40961 ((r ^^^ x % 16) % 16) = r1 at hr1 ⊢
      have a2 : Go.bits Go.BinOp.and Go.IntKind.u16 (Go.bits Go.BinOp.xor Go.IntKind.u16 (r1 : Int) (Go.IntKind.wrap .u16 ((x / 16 : Nat) : Int))) (15 : Int) = (((r1 ^^^ x / 16) % 16 : Nat) : Int) := by
        have := Nat.xor_lt_two_pow (x := r1) (y := x / 16) (n := 16) (by omega) (by omega)
        rw [w16 (by omega) (by omega), xor16 _ _ (by omega) (by omega), and16_15 _ (by omega)]
      have h6 : Int.fdiv (r1 : Int) ((2 : Int) ^ Min.min (Int.toNat (4 : Int)) (Go.IntKind.bits Go.IntKind.u16)) = ((r1 / 16 : Nat) : Int) := fd r1 16
      have hn2 : (r1 ^^^ x / 16) % 16 < 16 := Nat.mod_lt _ (by omega)
      have ht2 := T4_lt9 ((r1 ^^^ x / 16) % 16) (by omega)
      have hr2 : r1 / 16 ^^^ Chk.T4 40961 ((r1 ^^^ x / 16) % 16) < 2 ^ 16 := Nat.xor_lt_two_pow (by omega) (by omega)
      rw [a2, h6, Int.toNat_natCast, tb_get _ hn2, xor16 _ _ (by omega) ht2]
      have hTL : TBL.length = 16 := rfl
      rw [hTL, inT (by omega) (by omega), cond_true, inT (by omega) (by omega), cond_true, dT hn1, cond_true, inT (by omega) (by omega), cond_true, dT hn2, cond_true, wi64 (by omega) (by omega)]
      rw [show ((i : Int) + 1) = ((i + 1 : Nat) : Int) by omega]
      exact ih (i + 1) _ (by omega) (by omega) (by omega)
    · have : i = l.length := by omega
      subst this
      rw [dF (show ¬ ((l.length : Nat) : Int) < (l.length : Int) by omega), cond_false, List.drop_length]
      rfl
theorem sixteen_lt (l : List Nat) : Chk.sixteen l < 65536 := Nat.xor_lt_two_pow (n := 16) (Chk.run16_lt _) (by decide)
theorem sixteen_eq (m : Nat) (l : List Nat) (hl : ∀ x ∈ l, x < 256) (hlen : l.length ≤ 1000000) (hm : l.length < m) : ksix_D m (nI l) = some (((Chk.sixteen l : Nat) : Int), ()) := by
  have h := sixteen_L0_eq m l hl hlen m 0 65535 (by omega) (by omega) (by omega)
  have hr := Chk.run16_lt (Chk.allBits l)
  rw [sixteen_D_eq, nI_len, show (65535 : Int) = ((65535 : Nat) : Int) from rfl, show (0 : Int) = ((0 : Nat) : Int) from rfl, h, List.drop_zero, bnd_some, ← Chk.run_bytes _ _ _ hl]
  simp only
  rw [xor16 _ _ (by omega) hr, Nat.xor_comm]
  rfl
theorem gr1 (n : Nat) (h : n ≤ 1000000000) : growOb 1 n = true := growT (by omega) (by omega)
theorem mk0 (c : Int) (h0 : 0 ≤ c) (h : c ≤ 1000000) : makeOb 1 0 c true = true := by
  unfold makeOb
  simp [maxLen]
  omega
theorem add_nI (m : Nat) (l : List Nat) (hl : ∀ x ∈ l, x < 256) (hn : l.length ≤ 2000) (hm : 2000 < m) : kadd_D m (nI l) = some ((), nI (l ++ [Chk.sixteen l % 256, Chk.sixteen l / 256]), ()) := by
  have hs := sixteen_lt l
  unfold kadd_D
  rw [sixteen_eq m l hl (by omega) (by omega), bnd_some]
  have e : List.replicate (Int.toNat (0 : Int)) (0 : Int) = [] := rfl
  have p8 : (2 : Int) ^ Min.min (Int.toNat (8 : Int)) (Go.IntKind.bits Go.IntKind.u16) = 256 := by decide
  have d8 : Int.fdiv ((Chk.sixteen l : Nat) : Int) 256 = ((Chk.sixteen l / 256 : Nat) : Int) := fd (Chk.sixteen l) 256
  simp only [nI_len, e, List.nil_append, List.length_nil, Nat.zero_add, List.length_cons, p8, d8]
  rw [mk0 _ (by rw [wi64 (by omega) (by omega)]; omega) (by rw [wi64 (by omega) (by omega)]; omega), cond_true, gr1 _ (by omega), cond_true, gr1 _ (by omega), cond_true, w8m, w8 (x := ((Chk.sixteen l / 256 : Nat) : Int)) (by omega) (by omega)]
  rw [show (((Chk.sixteen l : Nat) : Int) % 256) = ((Chk.sixteen l % 256 : Nat) : Int) by omega, ← nI_app]
  rfl
theorem pq8 : (2 : Int) ^ Min.min (Int.toNat (8 : Int)) (Go.IntKind.bits Go.IntKind.u16) = 256 := by decide
theorem or16b (a b : Nat) (ha : a < 256) (hb : b < 256) : Go.bits Go.BinOp.or Go.IntKind.u16 (Go.IntKind.wrap .u16 (a : Int)) (Go.IntKind.wrap .u16 (Go.IntKind.wrap .u16 (b : Int) * 256)) = ((a + 256 * b : Nat) : Int) := by
  rw [w16 (x := (a : Int)) (by omega) (by omega), w16 (x := (b : Int)) (by omega) (by omega), w16 (by omega) (by omega), show Go.bits Go.BinOp.or Go.IntKind.u16 (a : Int) ((b : Int) * 256) = (a : Int) + (b : Int) * 256 from u16_or8 _ _ (by omega) (by omega) (by omega) (by omega) (by omega)]; omega
theorem cloneB_eq (m : Nat) (xs : List Int) (h : xs.length ≤ 1000000) : cloneB_D m xs = some ((), xs, ()) := by
  unfold cloneB_D
  rw [dT h, cond_true]
theorem byte_at {l : List Nat} (hl : ∀ x ∈ l, x < 256) (i : Nat) : l.getD i 0 < 256 := by
  rw [List.getD_eq_getElem?_getD]
  cases hx : l[i]? with
  | none => simp
  | some y => exact hl y (List.mem_of_getElem? hx)
theorem bif_ifn {α : Type} (p : Prop) [Decidable p] (a b : α) : (bif !decide p then a else b) = if p then b else a := by by_cases h : p <;> simp [h]
theorem ckE_eq (m : Nat) (l : List Nat) (hl : ∀ x ∈ l, x < 256) (h2 : 2 ≤ l.length) (hn : l.length ≤ 2000) (hm : 2000 < m) :
    ckcheckE_D m (nI l) = if Chk.sixteen (l.take (l.length - 2)) = l.getD (l.length - 2) 0 + 256 * l.getD (l.length - 1) 0 then some ((0, ()), ()) else some ((10, ()), ()) := by
  have ht : ∀ x ∈ l.take (l.length - 2), x < 256 := fun x hx => hl x (List.mem_of_mem_take hx)
  have hw : Go.IntKind.wrap .i64 ((l.length : Int) - 2) = ((l.length - 2 : Nat) : Int) := by rw [wi64 (by omega) (by omega)]; omega
  have hw1 : Go.IntKind.wrap .i64 (((l.length - 2 : Nat) : Int) + 1) = ((l.length - 1 : Nat) : Int) := by rw [wi64 (by omega) (by omega)]; omega
  have hs := sixteen_eq m (l.take (l.length - 2)) ht (by simp; omega) (by simp; omega)
  unfold ckcheckE_D
  simp only [nI_len, hw, hw1, Int.toNat_natCast, nI_take, nI_get, hs, bnd_some, pq8, or16b _ _ (byte_at hl _) (byte_at hl _)]
  rw [dF (by omega), cond_false, dT (by omega), dT (show l.length - 2 ≤ l.length by omega), Bool.and_self, cond_true, inT (by omega) (by omega), cond_true, inT (by omega) (by omega), cond_true, cloneB_eq m _ (by rw [nI_len]; simp; omega), bnd_some]
  simp only [nI_len, dT (show (0 : Int) ≤ ((l.take (l.length - 2)).length : Int) by omega), dT (Int.le_refl _), Int.toNat_natCast, dT (Nat.le_refl _), Bool.and_self, cond_true, bif_ifn]
  by_cases h : Chk.sixteen (l.take (l.length - 2)) = l.getD (l.length - 2) 0 + 256 * l.getD (l.length - 1) 0
  · rw [if_pos h, if_pos (by omega)]
  · rw [if_neg h, if_neg (by omega)]
end Go.Proofs.Ytmjocalgekfodaa

