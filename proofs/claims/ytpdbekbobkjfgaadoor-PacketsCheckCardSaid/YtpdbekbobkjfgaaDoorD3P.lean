/-
  Plain laws: the checks of the program and of the reference, as the code reckons them out, are those of plain arithmetic.
  Conditions: none.
-/
import Derived.Test.YtpdbekbobkjfgaaDoorD3a
import Derived.Test.YtpdbekbobkjfgaaDoorD3r
import Derived.Test.YtpdbekbobkjfgaaDoorKF
import Derived.Test.YtpdbekbobkjfgaaDoorChkP
import Derived.Lib.EndianBits
namespace Go.Proofs.YtpdbekbobkjfgaaDoor
set_option linter.unusedVariables false
set_option maxRecDepth 100000
set_option maxHeartbeats 1000000

def nI (l : List Nat) : List Int := l.map fun (n : Nat) => (n : Int)
theorem nI_len (l : List Nat) : (nI l).length = l.length := by simp [nI]
theorem nI_app (a b : List Nat) : nI a ++ nI b = nI (a ++ b) := by simp [nI]
theorem nI_one (a : Nat) : [(a : Int)] = nI [a] := rfl
theorem nI_get (l : List Nat) (i : Nat) : (nI l).getD i 0 = ((l.getD i 0 : Nat) : Int) := by
  simp only [nI, List.getD_eq_getElem?_getD, List.getElem?_map]
  cases l[i]? <;> rfl
theorem nI_take (l : List Nat) (i : Nat) : (nI l).take i = nI (l.take i) := by simp [nI]
theorem nI_drop (l : List Nat) (i : Nat) : (nI l).drop i = nI (l.drop i) := by simp [nI]
theorem nI_set (l : List Nat) (i x : Nat) : (nI l).set i (x : Int) = nI (l.set i x) := by simp [nI]
theorem nI_of (xs : List Int) (h : ∀ x ∈ xs, 0 ≤ x ∧ x ≤ 255) : ∃ l : List Nat, xs = nI l ∧ ∀ x ∈ l, x < 256 := by
  refine ⟨xs.map Int.toNat, ?_, ?_⟩
  · unfold nI
    rw [List.map_map]
    conv => lhs; rw [← List.map_id xs]
    apply List.map_congr_left
    intro x hx
    have := (h x hx).1
    simp only [id, Function.comp]; omega
  · intro x hx
    obtain ⟨y, hy, rfl⟩ := List.mem_map.1 hx
    have := h y hy
    omega
theorem bw (n : Nat) (a b : Nat) (ha : a < 2 ^ n) (hb : b < 2 ^ n) : (BitVec.ofInt n (a : Int) ^^^ BitVec.ofInt n (b : Int)).toNat = a ^^^ b := by
  rw [BitVec.toNat_xor, BitVec.ofInt_natCast, BitVec.ofInt_natCast, BitVec.toNat_ofNat, BitVec.toNat_ofNat, Nat.mod_eq_of_lt ha, Nat.mod_eq_of_lt hb]
theorem ba (n : Nat) (a b : Nat) (ha : a < 2 ^ n) (hb : b < 2 ^ n) : (BitVec.ofInt n (a : Int) &&& BitVec.ofInt n (b : Int)).toNat = a &&& b := by
  rw [BitVec.toNat_and, BitVec.ofInt_natCast, BitVec.ofInt_natCast, BitVec.toNat_ofNat, BitVec.toNat_ofNat, Nat.mod_eq_of_lt ha, Nat.mod_eq_of_lt hb]
theorem w8 {x : Int} (h0 : 0 ≤ x) (h1 : x < 256) : Go.IntKind.wrap .u8 x = x := by simp [Go.IntKind.wrap, Go.IntKind.bits, Go.IntKind.signed]; omega
theorem w8m (x : Int) : Go.IntKind.wrap .u8 x = x % 256 := by simp [Go.IntKind.wrap, Go.IntKind.bits, Go.IntKind.signed]
theorem w16 {x : Int} (h0 : 0 ≤ x) (h1 : x < 65536) : Go.IntKind.wrap .u16 x = x := wraps_u16 x h0 (by omega)
theorem w32 {x : Int} (h0 : 0 ≤ x) (h1 : x < 4294967296) : Go.IntKind.wrap .u32 x = x := wraps_u32 x h0 (by omega)
theorem w64 {x : Int} (h0 : 0 ≤ x) (h1 : x < 18446744073709551616) : Go.IntKind.wrap .u64 x = x := wraps_u64 x h0 (by omega)
theorem wi64 {x : Int} (h0 : -9223372036854775808 ≤ x) (h1 : x < 9223372036854775808) : Go.IntKind.wrap .i64 x = x := by simp [Go.IntKind.wrap, Go.IntKind.bits, Go.IntKind.signed]; omega
theorem xor8 (a b : Nat) (ha : a < 256) (hb : b < 256) : Go.bits Go.BinOp.xor Go.IntKind.u8 (a : Int) (b : Int) = ((a ^^^ b : Nat) : Int) := by
  show Go.IntKind.wrap .u8 ((BitVec.ofInt 8 (a : Int) ^^^ BitVec.ofInt 8 (b : Int)).toNat : Int) = _
  have : a ^^^ b < 2 ^ 8 := Nat.xor_lt_two_pow (by omega) (by omega)
  rw [bw 8 a b (by omega) (by omega), w8 (by omega) (by omega)]
theorem xor16 (a b : Nat) (ha : a < 65536) (hb : b < 65536) : Go.bits Go.BinOp.xor Go.IntKind.u16 (a : Int) (b : Int) = ((a ^^^ b : Nat) : Int) := by
  show Go.IntKind.wrap .u16 ((BitVec.ofInt 16 (a : Int) ^^^ BitVec.ofInt 16 (b : Int)).toNat : Int) = _
  have : a ^^^ b < 2 ^ 16 := Nat.xor_lt_two_pow (by omega) (by omega)
  rw [bw 16 a b (by omega) (by omega), w16 (by omega) (by omega)]
theorem and_mask (a i : Nat) : a &&& (2 ^ i - 1) = a % 2 ^ i := Nat.and_two_pow_sub_one_eq_mod a i
theorem and8_1 (a : Nat) (ha : a < 256) : Go.bits Go.BinOp.and Go.IntKind.u8 (a : Int) (1 : Int) = ((a % 2 : Nat) : Int) := by
  show Go.IntKind.wrap .u8 ((BitVec.ofInt 8 (a : Int) &&& BitVec.ofInt 8 ((1 : Nat) : Int)).toNat : Int) = _
  rw [ba 8 a 1 (by omega) (by omega), and_mask a 1, w8 (by omega) (by omega)]
theorem and8_15 (a : Nat) (ha : a < 256) : Go.bits Go.BinOp.and Go.IntKind.u8 (a : Int) (15 : Int) = ((a % 16 : Nat) : Int) := by
  show Go.IntKind.wrap .u8 ((BitVec.ofInt 8 (a : Int) &&& BitVec.ofInt 8 ((15 : Nat) : Int)).toNat : Int) = _
  rw [ba 8 a 15 (by omega) (by omega), and_mask a 4, w8 (by omega) (by omega)]
theorem and16_15 (a : Nat) (ha : a < 65536) : Go.bits Go.BinOp.and Go.IntKind.u16 (a : Int) (15 : Int) = ((a % 16 : Nat) : Int) := by
  show Go.IntKind.wrap .u16 ((BitVec.ofInt 16 (a : Int) &&& BitVec.ofInt 16 ((15 : Nat) : Int)).toNat : Int) = _
  rw [ba 16 a 15 (by omega) (by omega), and_mask a 4, w16 (by omega) (by omega)]
theorem and32_1 (a : Nat) (ha : a < 4294967296) : Go.bits Go.BinOp.and Go.IntKind.u32 (a : Int) (1 : Int) = ((a % 2 : Nat) : Int) := by
  show Go.IntKind.wrap .u32 ((BitVec.ofInt 32 (a : Int) &&& BitVec.ofInt 32 ((1 : Nat) : Int)).toNat : Int) = _
  rw [ba 32 a 1 (by omega) (by omega), and_mask a 1, w32 (by omega) (by omega)]
theorem and32_m (a i : Nat) (ha : a < 4294967296) (hi : i ≤ 31) : Go.bits Go.BinOp.and Go.IntKind.u32 (a : Int) ((2 ^ i - 1 : Nat) : Int) = ((a % 2 ^ i : Nat) : Int) := by
  have h1 : (2 : Nat) ^ i ≤ 2 ^ 31 := Nat.pow_le_pow_right (by omega) hi
  have h2 : a % 2 ^ i ≤ a := Nat.mod_le _ _
  show Go.IntKind.wrap .u32 ((BitVec.ofInt 32 (a : Int) &&& BitVec.ofInt 32 ((2 ^ i - 1 : Nat) : Int)).toNat : Int) = _
  rw [ba 32 a _ (by omega) (by omega), and_mask a i, w32 (by omega) (by omega)]
theorem fd (a b : Nat) : Int.fdiv (a : Int) (b : Int) = ((a / b : Nat) : Int) := by
  rw [Int.fdiv_eq_ediv_of_nonneg _ (by omega)]; rfl
theorem pw (i n : Nat) (h : i ≤ n) : (2 : Int) ^ Min.min (Int.toNat (i : Int)) n = ((2 ^ i : Nat) : Int) := by
  rw [Int.toNat_natCast, Nat.min_eq_left h, Int.natCast_pow]; rfl

theorem step8_eq (m r b : Nat) (hr : r < 32) (hb : b < 2) : step8_D m (r : Int) (20 : Int) (b : Int) = some (((Chk.stp 20 r b : Nat) : Int), ()) := by
  have hx : r ^^^ b < 2 ^ 5 := Nat.xor_lt_two_pow (by omega) (by omega)
  have h2 : r / 2 ^^^ 20 < 2 ^ 5 := Nat.xor_lt_two_pow (by omega) (by omega)
  have e1 : Go.bits Go.BinOp.and Go.IntKind.u8 (Go.bits Go.BinOp.xor Go.IntKind.u8 (r : Int) (b : Int)) (1 : Int) = (((r ^^^ b) % 2 : Nat) : Int) := by
    rw [xor8 _ _ (by omega) (by omega), and8_1 _ (by omega)]
  have e2 : Int.fdiv (r : Int) ((2 : Int) ^ Min.min (Int.toNat (1 : Int)) (Go.IntKind.bits Go.IntKind.u8)) = ((r / 2 : Nat) : Int) := fd r 2
  have e3 : Go.bits Go.BinOp.xor Go.IntKind.u8 ((r / 2 : Nat) : Int) (20 : Int) = ((r / 2 ^^^ 20 : Nat) : Int) := xor8 _ 20 (by omega) (by omega)
  unfold step8_D Chk.stp
  rw [e1, e2, e3, Nat.shiftRight_eq_div_pow, Nat.pow_one]
  by_cases h : (r ^^^ b) % 2 = 1
  · rw [dT (show (((r ^^^ b) % 2 : Nat) : Int) = 1 by omega), if_pos h]; rfl
  · rw [dF (show ¬ (((r ^^^ b) % 2 : Nat) : Int) = 1 by omega), if_neg h]; rfl
theorem run5_lt (v n : Nat) : Chk.run 20 31 (Chk.bitsN v n) < 32 := Chk.run_lt 20 5 (by decide) _ _ (by decide)
theorem ckbits_L0_eq (m v n : Nat) (hv : v < 4294967296) (hn : n ≤ 32) : ∀ (f i : Nat), i ≤ n → n - i < f → ckbits_L0 m f (v : Int) (n : Int) (i : Int) ((Chk.run 20 31 (Chk.bitsN v i) : Nat) : Int) = some ((), ((((Chk.run 20 31 (Chk.bitsN v n) : Nat) : Int), ()), ())) := by
  intro f
  induction f with
  | zero => intro i _ h; omega
  | succ f ih =>
    intro i hi hf
    rw [ckbits_L0]
    by_cases hlt : i < n
    · have hdv : v / 2 ^ i < 4294967296 := Nat.lt_of_le_of_lt (Nat.div_le_self _ _) hv
      have hb : v / 2 ^ i % 2 < 2 := Nat.mod_lt _ (by omega)
      rw [dT (show (i : Int) < (n : Int) by omega), cond_true, dT (show (0 : Int) ≤ (i : Int) by omega), cond_true]
      rw [show Go.IntKind.bits Go.IntKind.u32 = 32 from rfl, pw i 32 (by omega), fd, and32_1 _ hdv, w8 (by omega) (by omega), step8_eq m _ _ (run5_lt v i) hb, bnd_some, wi64 (by omega) (by omega)]
      have e : Chk.stp 20 (Chk.run 20 31 (Chk.bitsN v i)) (v / 2 ^ i % 2) = Chk.run 20 31 (Chk.bitsN v (i + 1)) := by rw [Chk.bitsN_succ, Chk.run_snoc]
      simp only [e]
      rw [show ((i : Int) + 1) = ((i + 1 : Nat) : Int) by omega]
      exact ih (i + 1) (by omega) (by omega)
    · have : i = n := by omega
      subst this
      rw [dF (show ¬ (i : Int) < (i : Int) by omega), cond_false]
theorem five_eq (m v n : Nat) (hm : 33 ≤ m) (hv : v < 4294967296) (hn : n ≤ 32) : five_D m (v : Int) (n : Int) = some (((Chk.five v n : Nat) : Int), ()) := by
  have := ckbits_L0_eq m v n hv hn m 0 (by omega) (by omega)
  have e0 : Chk.run 20 31 (Chk.bitsN v 0) = 31 := rfl
  rw [e0] at this
  have hr := run5_lt v n
  unfold five_D ckbits_D
  rw [show (31 : Int) = ((31 : Nat) : Int) from rfl, show (0 : Int) = ((0 : Nat) : Int) from rfl, this]
  simp only [bnd_some]
  rw [xor8 _ 31 (by omega) (by omega)]
  rfl

def T16 : Int × Int × Int × Int × Int × Int × Int × Int × Int × Int × Int × Int × Int × Int × Int × Int × Unit := (0, 52225, 55297, 5120, 61441, 15360, 10240, 58369, 40961, 27648, 30720, 46081, 20480, 39937, 34817, 17408, ())
def TBL : List Int := [0, 52225, 55297, 5120, 61441, 15360, 10240, 58369, 40961, 27648, 30720, 46081, 20480, 39937, 34817, 17408]
theorem tb_eq : [T16.fst, T16.snd.fst, T16.snd.snd.fst, T16.snd.snd.snd.fst, T16.snd.snd.snd.snd.fst, T16.snd.snd.snd.snd.snd.fst, T16.snd.snd.snd.snd.snd.snd.fst, T16.snd.snd.snd.snd.snd.snd.snd.fst, T16.snd.snd.snd.snd.snd.snd.snd.snd.fst, T16.snd.snd.snd.snd.snd.snd.snd.snd.snd.fst, T16.snd.snd.snd.snd.snd.snd.snd.snd.snd.snd.fst, T16.snd.snd.snd.snd.snd.snd.snd.snd.snd.snd.snd.fst, T16.snd.snd.snd.snd.snd.snd.snd.snd.snd.snd.snd.snd.fst, T16.snd.snd.snd.snd.snd.snd.snd.snd.snd.snd.snd.snd.snd.fst, T16.snd.snd.snd.snd.snd.snd.snd.snd.snd.snd.snd.snd.snd.snd.fst, T16.snd.snd.snd.snd.snd.snd.snd.snd.snd.snd.snd.snd.snd.snd.snd.fst] = TBL := rfl
theorem tb_get (i : Nat) (h : i < 16) : TBL.getD i 0 = ((Chk.T4 40961 i : Nat) : Int) := by
  have : ∀ i : Fin 16, TBL.getD (i : Nat) 0 = ((Chk.T4 40961 (i : Nat) : Nat) : Int) := by decide
  exact this ⟨i, h⟩
theorem sixteen_D_eq (m : Nat) (xs : List Int) : sixteen_D m xs = bnd (sixteen_L0 m m 65535 xs (xs.length : Int) 0 T16) (fun y => some (Go.bits Go.BinOp.xor Go.IntKind.u16 65535 y.fst.fst, ())) := by kernel_rfl
theorem nib (r x : Nat) : (r ^^^ x) % 16 = (r ^^^ x % 16) % 16 := by
  have h1 := Nat.xor_mod_two_pow (a := r) (b := x) (n := 4)
  have h2 := Nat.xor_mod_two_pow (a := r) (b := x % 16) (n := 4)
  simp only [Nat.reducePow] at h1 h2
  rw [h1, h2, Nat.mod_mod]
theorem T4_lt (i : Nat) (h : i < 65536) : Chk.T4 40961 i < 65536 := by
  unfold Chk.T4
  exact Chk.T_lt 40961 16 _ (by decide) (Chk.T_lt 40961 16 _ (by decide) (Chk.T_lt 40961 16 _ (by decide) (Chk.T_lt 40961 16 _ (by decide) h)))
theorem natlit0 (n : Nat) : nat_lit 0 + n = n := Nat.zero_add n
theorem sixteen_L0_eq (m : Nat) (l : List Nat) (hl : ∀ x ∈ l, x < 256) (hlen : l.length ≤ 1000000) : ∀ (f i r : Nat), i ≤ l.length → l.length - i < f → r < 65536 → sixteen_L0 m f (r : Int) (nI l) (l.length : Int) (i : Int) T16 = some (((((l.drop i).foldl (Chk.byteStep 40961) r : Nat) : Int), ()), ()) := by
  intro f
  induction f with
  | zero => intro i r _ h; omega
  | succ f ih =>
    intro i r hi hf hr
    rw [sixteen_L0]
    by_cases hlt : i < l.length
    · have hx : l.getD i 0 < 256 := by rw [getD_lt hlt]; exact hl _ (List.getElem_mem _)
      have ed : l.drop i = l.getD i 0 :: l.drop (i + 1) := by rw [getD_lt hlt]; exact drop_get hlt
      rw [dT (show (i : Int) < (l.length : Int) by omega), cond_true]
      simp only [nI_len, Int.toNat_natCast, nI_get, tb_eq, natlit0]
      rw [ed, List.foldl_cons]
      generalize l.getD i 0 = x at hx ⊢
      have a1 : Go.bits Go.BinOp.and Go.IntKind.u16 (Go.bits Go.BinOp.xor Go.IntKind.u16 (r : Int) (Go.IntKind.wrap .u16 (x : Int))) (15 : Int) = (((r ^^^ x % 16) % 16 : Nat) : Int) := by
        have := Nat.xor_lt_two_pow (x := r) (y := x) (n := 16) (by omega) (by omega)
        rw [w16 (by omega) (by omega), xor16 _ _ hr (by omega), and16_15 _ (by omega), nib]
      have h4 : Int.fdiv (r : Int) ((2 : Int) ^ Min.min (Int.toNat (4 : Int)) (Go.IntKind.bits Go.IntKind.u16)) = ((r / 16 : Nat) : Int) := fd r 16
      have h5 : Int.fdiv (x : Int) ((2 : Int) ^ Min.min (Int.toNat (4 : Int)) (Go.IntKind.bits Go.IntKind.u8)) = ((x / 16 : Nat) : Int) := fd x 16
      have hn1 : (r ^^^ x % 16) % 16 < 16 := Nat.mod_lt _ (by omega)
      have ht1 := T4_lt ((r ^^^ x % 16) % 16) (by omega)
      have hr1 : r / 16 ^^^ Chk.T4 40961 ((r ^^^ x % 16) % 16) < 2 ^ 16 := Nat.xor_lt_two_pow (by omega) (by omega)
      rw [a1, h4, h5, Int.toNat_natCast, tb_get _ hn1, xor16 _ _ (by omega) ht1]
      have e : Chk.byteStep 40961 r x = (r / 16 ^^^ Chk.T4 40961 ((r ^^^ x % 16) % 16)) / 16 ^^^ Chk.T4 40961 (((r / 16 ^^^ Chk.T4 40961 ((r ^^^ x % 16) % 16)) ^^^ x / 16) % 16) := rfl
      rw [e]
      generalize r / 16 ^^^ Chk.T4 40961 ((r ^^^ x % 16) % 16) = r1 at hr1 ⊢
      have a2 : Go.bits Go.BinOp.and Go.IntKind.u16 (Go.bits Go.BinOp.xor Go.IntKind.u16 (r1 : Int) (Go.IntKind.wrap .u16 ((x / 16 : Nat) : Int))) (15 : Int) = (((r1 ^^^ x / 16) % 16 : Nat) : Int) := by
        have := Nat.xor_lt_two_pow (x := r1) (y := x / 16) (n := 16) (by omega) (by omega)
        rw [w16 (by omega) (by omega), xor16 _ _ (by omega) (by omega), and16_15 _ (by omega)]
      have h6 : Int.fdiv (r1 : Int) ((2 : Int) ^ Min.min (Int.toNat (4 : Int)) (Go.IntKind.bits Go.IntKind.u16)) = ((r1 / 16 : Nat) : Int) := fd r1 16
      have hn2 : (r1 ^^^ x / 16) % 16 < 16 := Nat.mod_lt _ (by omega)
      have ht2 := T4_lt ((r1 ^^^ x / 16) % 16) (by omega)
      have hr2 : r1 / 16 ^^^ Chk.T4 40961 ((r1 ^^^ x / 16) % 16) < 2 ^ 16 := Nat.xor_lt_two_pow (by omega) (by omega)
      rw [a2, h6, Int.toNat_natCast, tb_get _ hn2, xor16 _ _ (by omega) ht2]
      have hTL : TBL.length = 16 := rfl
      rw [hTL, inT (by omega) (by omega), cond_true, inT (by omega) (by omega), cond_true, dT hn1, cond_true, inT (by omega) (by omega), cond_true, dT hn2, cond_true, wi64 (by omega) (by omega)]
      rw [show ((i : Int) + 1) = ((i + 1 : Nat) : Int) by omega]
      exact ih (i + 1) _ (by omega) (by omega) (by omega)
    · have : i = l.length := by omega
      subst this
      rw [dF (show ¬ ((l.length : Nat) : Int) < (l.length : Int) by omega), cond_false, List.drop_length]
      rfl
theorem sixteen_lt (l : List Nat) : Chk.sixteen l < 65536 := Nat.xor_lt_two_pow (n := 16) (Chk.run16_lt _) (by decide)
theorem sixteen_eq (m : Nat) (l : List Nat) (hl : ∀ x ∈ l, x < 256) (hlen : l.length ≤ 1000000) (hm : l.length < m) : sixteen_D m (nI l) = some (((Chk.sixteen l : Nat) : Int), ()) := by
  have h := sixteen_L0_eq m l hl hlen m 0 65535 (by omega) (by omega) (by omega)
  have hr := Chk.run16_lt (Chk.allBits l)
  rw [sixteen_D_eq, nI_len, show (65535 : Int) = ((65535 : Nat) : Int) from rfl, show (0 : Int) = ((0 : Nat) : Int) from rfl, h, List.drop_zero, bnd_some, ← Chk.run_bytes _ _ _ hl]
  simp only
  rw [xor16 _ _ (by omega) hr, Nat.xor_comm]
  rfl
end Go.Proofs.YtpdbekbobkjfgaaDoor

