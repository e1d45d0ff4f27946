/-
  A plain law: the program's check of a packet is the reference's.
  Conditions: none.
-/
import Derived.Test.YtpdbekbobkjfgaaDoorD3k
import Derived.Test.YtpdbekbobkjfgaaDoorKF
import Derived.Lib.EndianBits
namespace Go.Proofs.YtpdbekbobkjfgaaDoor
set_option linter.unusedVariables false
set_option maxRecDepth 100000
set_option maxHeartbeats 1000000

theorem pw_one : (2 : Int) ^ Min.min (Int.toNat (1 : Int)) (Go.IntKind.bits Go.IntKind.u32) = 2 := by decide
theorem pw_0 : (2 : Int) ^ Min.min (Int.toNat (0 : Int)) (Go.IntKind.bits Go.IntKind.u32) = 1 := by decide
theorem pw_2 : (2 : Int) ^ Min.min (Int.toNat (2 : Int)) (Go.IntKind.bits Go.IntKind.u32) = 4 := by decide
theorem pw_4 : (2 : Int) ^ Min.min (Int.toNat (4 : Int)) (Go.IntKind.bits Go.IntKind.u32) = 16 := by decide
theorem pw_7 : (2 : Int) ^ Min.min (Int.toNat (7 : Int)) (Go.IntKind.bits Go.IntKind.u32) = 128 := by decide
theorem pw_11 : (2 : Int) ^ Min.min (Int.toNat (11 : Int)) (Go.IntKind.bits Go.IntKind.u32) = 2048 := by decide
theorem wi7 : Go.IntKind.wrap .i64 ((0 : Int) + (7 : Int)) = 7 := by decide
theorem wi8 : Go.IntKind.wrap .i64 ((7 : Int) + (1 : Int)) = 8 := by decide
theorem wi15 : Go.IntKind.wrap .i64 ((8 : Int) + (7 : Int)) = 15 := by decide
theorem wi16 : Go.IntKind.wrap .i64 ((15 : Int) + (1 : Int)) = 16 := by decide
theorem wi17 : Go.IntKind.wrap .i64 ((16 : Int) + (1 : Int)) = 17 := by decide
theorem pw_8 : (2 : Int) ^ Min.min (Int.toNat (8 : Int)) (Go.IntKind.bits Go.IntKind.u32) = 256 := by decide
theorem pw_15 : (2 : Int) ^ Min.min (Int.toNat (15 : Int)) (Go.IntKind.bits Go.IntKind.u32) = 32768 := by decide
theorem pw_16 : (2 : Int) ^ Min.min (Int.toNat (16 : Int)) (Go.IntKind.bits Go.IntKind.u32) = 65536 := by decide
theorem pw_17 : (2 : Int) ^ Min.min (Int.toNat (17 : Int)) (Go.IntKind.bits Go.IntKind.u32) = 131072 := by decide
theorem mk_128 : Go.IntKind.wrap .u32 (Go.IntKind.wrap .u32 ((1 : Int) * (128 : Int)) - (1 : Int)) = 127 := by decide
theorem mk_16 : Go.IntKind.wrap .u32 (Go.IntKind.wrap .u32 ((1 : Int) * (16 : Int)) - (1 : Int)) = 15 := by decide
theorem mk_2048 : Go.IntKind.wrap .u32 (Go.IntKind.wrap .u32 ((1 : Int) * (2048 : Int)) - (1 : Int)) = 2047 := by decide
theorem mk_2 : Go.IntKind.wrap .u32 (Go.IntKind.wrap .u32 ((1 : Int) * (2 : Int)) - (1 : Int)) = 1 := by decide
theorem mk_4 : Go.IntKind.wrap .u32 (Go.IntKind.wrap .u32 ((1 : Int) * (4 : Int)) - (1 : Int)) = 3 := by decide
theorem low_bits (i : Nat) (hi : i ≤ 31) (x : Int) (h0 : 0 ≤ x) (h1 : x < 4294967296) : Go.bits Go.BinOp.and Go.IntKind.u32 x (2 ^ i - 1 : Int) = x % 2 ^ i := by
  obtain ⟨a, rfl⟩ := Int.eq_ofNat_of_zero_le h0
  have hp : (2 : Nat) ^ i ≤ 2 ^ 31 := Nat.pow_le_pow_right (by omega) hi
  have hpos : 0 < (2 : Nat) ^ i := Nat.two_pow_pos i
  have e : ((2 : Int) ^ i - 1) = ((2 ^ i - 1 : Nat) : Int) := by
    rw [Int.ofNat_sub hpos, Int.natCast_pow]; rfl
  rw [e]
  show IntKind.u32.wrap ((BitVec.ofInt 32 (a : Int) &&& BitVec.ofInt 32 ((2 ^ i - 1 : Nat) : Int)).toNat : Int) = _
  rw [BitVec.toNat_and, BitVec.ofInt_natCast, BitVec.ofInt_natCast, BitVec.toNat_ofNat, BitVec.toNat_ofNat, Nat.mod_eq_of_lt (show a < 2 ^ 32 by omega), Nat.mod_eq_of_lt (show 2 ^ i - 1 < 2 ^ 32 by omega), Nat.and_two_pow_sub_one_eq_mod]
  have hm : a % 2 ^ i < 2 ^ i := Nat.mod_lt _ hpos
  rw [wraps_u32 _ (by omega) (by omega)]
  rw [Int.natCast_emod, Int.natCast_pow]; rfl
theorem and127 {x : Int} (h0 : 0 ≤ x) (h1 : x < 4294967296) : Go.bits Go.BinOp.and Go.IntKind.u32 x 127 = x % 128 := low_bits 7 (by omega) x h0 h1
theorem and15 {x : Int} (h0 : 0 ≤ x) (h1 : x < 4294967296) : Go.bits Go.BinOp.and Go.IntKind.u32 x 15 = x % 16 := low_bits 4 (by omega) x h0 h1
theorem and2047 {x : Int} (h0 : 0 ≤ x) (h1 : x < 4294967296) : Go.bits Go.BinOp.and Go.IntKind.u32 x 2047 = x % 2048 := low_bits 11 (by omega) x h0 h1
theorem and1 {x : Int} (h0 : 0 ≤ x) (h1 : x < 4294967296) : Go.bits Go.BinOp.and Go.IntKind.u32 x 1 = x % 2 := low_bits 1 (by omega) x h0 h1
theorem and3 {x : Int} (h0 : 0 ≤ x) (h1 : x < 4294967296) : Go.bits Go.BinOp.and Go.IntKind.u32 x 3 = x % 4 := low_bits 2 (by omega) x h0 h1
theorem or_parts (i : Nat) {y x : Int} (hy₀ : 0 ≤ y) (hy : y < 2 ^ i) (hy1 : y < 4294967296) (hx₀ : 0 ≤ x) (hx : x % 2 ^ i = 0) (hx₁ : x < 4294967296) : Go.bits Go.BinOp.or Go.IntKind.u32 y x = y + x :=
  bits_join_low .u32 32 (by decide) wraps_u32 i y x hy₀ hy (by omega) hx₀ hx (by omega)
theorem w32 {x : Int} (h0 : 0 ≤ x) (h1 : x < 4294967296) : Go.IntKind.wrap .u32 x = x := wraps_u32 x h0 (by omega)

theorem strs_nil (d : List Int) : decide (ByteArray.toList (Go.strOfNums d) = ByteArray.toList (Go.strOfNums [])) = decide (d = []) := by
  have hl : ∀ l : List Int, (ByteArray.toList (Go.strOfNums l)).length = l.length := by
    intro l
    simp [Go.strOfNums]
  by_cases h : d = []
  · subst h; simp
  · have : ByteArray.toList (Go.strOfNums d) ≠ ByteArray.toList (Go.strOfNums []) := by
      intro e
      have := congrArg List.length e
      rw [hl, hl] at this
      exact h (List.eq_nil_of_length_eq_zero this)
    rw [decide_eq_false this, decide_eq_false h]
theorem tok_num {a e : Int} (ha0 : 0 ≤ a) (ha : a ≤ 127) (he0 : 0 ≤ e) (he : e ≤ 15) :
    Go.bits Go.BinOp.or Go.IntKind.u32 (Go.bits Go.BinOp.or Go.IntKind.u32 (0 : Int) (Go.IntKind.wrap .u32 (Go.IntKind.wrap .u32 a * 1))) (Go.IntKind.wrap .u32 (Go.IntKind.wrap .u32 e * 128)) = a + e * 128 := by
  rw [w32 ha0 (by omega), w32 he0 (by omega), w32 (x := a * 1) (by omega) (by omega), w32 (x := e * 128) (by omega) (by omega)]
  rw [or_parts 0 (y := 0) (x := a * 1) (by omega) (by omega) (by omega) (by omega) (by omega) (by omega), or_parts 7 (y := 0 + a * 1) (x := e * 128) (by omega) (by omega) (by omega) (by omega) (by omega) (by omega)]
  omega
theorem chk_token (m : Nat) (p a e f h pt k : Int) (c l : Bool) (d : List Int) (hp : p = 1 ∨ p = 9 ∨ p = 13) (ha0 : 0 ≤ a) (ha : a ≤ 255) (he0 : 0 ≤ e) (he : e ≤ 255) :
    pkCheck_D m (p, a, e, f, h, pt, c, l, k, d, ()) = rfCheck_D m (p, a, e, f, h, pt, c, l, k, d, ()) := by
  have hs : shapeOf_D m p = some (2, ()) := by rcases hp with rfl | rfl | rfl <;> rfl
  have hkn : known_D m p = some (true, ()) := by rcases hp with rfl | rfl | rfl <;> rfl
  have htk : token3_D m p = some (true, ()) := by rcases hp with rfl | rfl | rfl <;> rfl
  have hd3 : hasData_D m p = some (false, ()) := by rcases hp with rfl | rfl | rfl <;> rfl
  have h5 : decide (p = (5 : Int)) = false := by rcases hp with rfl | rfl | rfl <;> rfl
  have h8 : decide (p = (8 : Int)) = false := by rcases hp with rfl | rfl | rfl <;> rfl
  unfold pkCheck_D rfCheck_D
  simp only [same_D, same_J0, rfCheck_J0, rfCheck_J1, rfCheck_J2, rfCheck_J3]
  simp only [hs, hkn, htk, hd3, h5, h8, bnd_some, decide_true, cond_true, cond_false, Bool.not_true, Bool.not_false, show decide ((2 : Int) = 2) = true from rfl, show decide ((2 : Int) = 5) = false from rfl, show decide ((2 : Int) = 0) = false from rfl,
    pw_7, pw_4, pw_0, wi7, mk_128, mk_16]
  by_cases ha1 : a ≤ 127
  · by_cases he1 : e ≤ 15
    · rw [tok_num ha0 ha1 he0 he1, and127 (x := a + e * 128) (by omega) (by omega), Int.fdiv_eq_ediv_of_nonneg (a + e * 128) (show (0 : Int) ≤ 128 by omega), and15 (x := (a + e * 128) / 128) (by omega) (by omega)]
      have e1 : Go.IntKind.wrap .u8 ((a + e * 128) % 128) = a := by
        rw [show (a + e * 128) % 128 = a by omega]; simp [Go.IntKind.wrap, Go.IntKind.bits, Go.IntKind.signed]; omega
      have e2 : Go.IntKind.wrap .u8 ((a + e * 128) / 128 % 16) = e := by
        rw [show (a + e * 128) / 128 % 16 = e by omega]; simp [Go.IntKind.wrap, Go.IntKind.bits, Go.IntKind.signed]; omega
      have e3 : Int.fdiv (Go.IntKind.wrap .u32 a) 128 = 0 := by rw [w32 ha0 (by omega), Int.fdiv_eq_ediv_of_nonneg _ (by omega)]; omega
      have e4 : Int.fdiv (Go.IntKind.wrap .u32 e) 16 = 0 := by rw [w32 he0 (by omega), Int.fdiv_eq_ediv_of_nonneg _ (by omega)]; omega
      simp only [e1, e2, e3, e4, strs_nil, decide_true, Bool.not_true, cond_true, cond_false, dF (show ¬ (127 : Int) < a by omega), dF (show ¬ (15 : Int) < e by omega)]
      by_cases hf : f = 0
      · by_cases hh : h = 0
        · by_cases hpt : pt = 0
          · by_cases hk : k = 0
            · subst hf hh hpt hk
              cases c <;> cases l <;> by_cases hdd : d = [] <;> simp [hdd, bnd_some]
            · subst hf hh hpt
              cases c <;> cases l <;> simp [hk, bnd_some]
          · subst hf hh; simp [hpt, bnd_some]
        · subst hf; simp [hh, bnd_some]
      · simp [hf, bnd_some]
    · have e3 : Int.fdiv (Go.IntKind.wrap .u32 a) 128 = 0 := by rw [w32 ha0 (by omega), Int.fdiv_eq_ediv_of_nonneg _ (by omega)]; omega
      have e4 : ¬ Int.fdiv (Go.IntKind.wrap .u32 e) 16 = 0 := by rw [w32 he0 (by omega), Int.fdiv_eq_ediv_of_nonneg _ (by omega)]; omega
      simp [e3, e4, show ¬ (127 : Int) < a by omega, show (15 : Int) < e by omega]
  · have e3 : ¬ Int.fdiv (Go.IntKind.wrap .u32 a) 128 = 0 := by rw [w32 ha0 (by omega), Int.fdiv_eq_ediv_of_nonneg _ (by omega)]; omega
    simp [e3, show (127 : Int) < a by omega]
theorem chk_plain (m : Nat) (p a e f h pt k : Int) (c l : Bool) (d : List Int) (hp : p = 2 ∨ p = 10 ∨ p = 14 ∨ p = 6) :
    pkCheck_D m (p, a, e, f, h, pt, c, l, k, d, ()) = rfCheck_D m (p, a, e, f, h, pt, c, l, k, d, ()) := by
  have hs : shapeOf_D m p = some (1, ()) := by rcases hp with rfl | rfl | rfl | rfl <;> rfl
  have hkn : known_D m p = some (true, ()) := by rcases hp with rfl | rfl | rfl | rfl <;> rfl
  have htk : token3_D m p = some (false, ()) := by rcases hp with rfl | rfl | rfl | rfl <;> rfl
  have hd3 : hasData_D m p = some (false, ()) := by rcases hp with rfl | rfl | rfl | rfl <;> rfl
  have h5 : decide (p = (5 : Int)) = false := by rcases hp with rfl | rfl | rfl | rfl <;> rfl
  have h8 : decide (p = (8 : Int)) = false := by rcases hp with rfl | rfl | rfl | rfl <;> rfl
  unfold pkCheck_D rfCheck_D
  simp only [same_D, same_J0, rfCheck_J0, rfCheck_J1, rfCheck_J2, rfCheck_J3]
  simp only [hs, hkn, htk, hd3, h5, h8, bnd_some, decide_true, cond_true, cond_false, Bool.not_true, Bool.not_false, strs_nil, show decide ((1 : Int) = 2) = false from rfl, show decide ((1 : Int) = 5) = false from rfl, show decide ((1 : Int) = 0) = false from rfl, show decide ((1 : Int) = 3) = false from rfl, show decide ((1 : Int) = 4) = false from rfl]
  by_cases ha : a = 0
  · by_cases he : e = 0
    · by_cases hf : f = 0
      · by_cases hh : h = 0
        · by_cases hpt : pt = 0
          · by_cases hk : k = 0
            · subst ha he hf hh hpt hk
              cases c <;> cases l <;> by_cases hdd : d = [] <;> simp [hdd, bnd_some]
            · subst ha he hf hh hpt
              cases c <;> cases l <;> simp [hk, bnd_some]
          · subst ha he hf hh; simp [hpt, bnd_some]
        · subst ha he hf; simp [hh, bnd_some]
      · subst ha he; simp [hf, bnd_some]
    · subst ha; simp [he, bnd_some]
  · simp [ha, bnd_some]
theorem chk_data (m : Nat) (p a e f h pt k : Int) (c l : Bool) (d : List Int) (hp : p = 3 ∨ p = 11) :
    pkCheck_D m (p, a, e, f, h, pt, c, l, k, d, ()) = rfCheck_D m (p, a, e, f, h, pt, c, l, k, d, ()) := by
  have hs : shapeOf_D m p = some (5, ()) := by rcases hp with rfl | rfl <;> rfl
  have hkn : known_D m p = some (true, ()) := by rcases hp with rfl | rfl <;> rfl
  have htk : token3_D m p = some (false, ()) := by rcases hp with rfl | rfl <;> rfl
  have hd3 : hasData_D m p = some (true, ()) := by rcases hp with rfl | rfl <;> rfl
  have h5 : decide (p = (5 : Int)) = false := by rcases hp with rfl | rfl <;> rfl
  have h8 : decide (p = (8 : Int)) = false := by rcases hp with rfl | rfl <;> rfl
  unfold pkCheck_D rfCheck_D
  simp only [same_D, same_J0, rfCheck_J0, rfCheck_J1, rfCheck_J2, rfCheck_J3]
  simp only [hs, hkn, htk, hd3, h5, h8, bnd_some, decide_true, cond_true, cond_false, Bool.not_true, Bool.not_false, show decide ((5 : Int) = 2) = false from rfl, show decide ((5 : Int) = 5) = true from rfl, show decide ((5 : Int) = 0) = false from rfl, show decide ((5 : Int) = 3) = false from rfl, show decide ((5 : Int) = 4) = false from rfl]
  by_cases ha : a = 0
  · by_cases he : e = 0
    · by_cases hf : f = 0
      · by_cases hh : h = 0
        · by_cases hpt : pt = 0
          · by_cases hk : k = 0
            · subst ha he hf hh hpt hk
              cases c <;> cases l <;> simp [bnd_some]
            · subst ha he hf hh hpt
              cases c <;> cases l <;> simp [hk, bnd_some]
          · subst ha he hf hh; simp [hpt, bnd_some]
        · subst ha he hf; simp [hh, bnd_some]
      · subst ha he; simp [hf, bnd_some]
    · subst ha; simp [he, bnd_some]
  · simp [ha, bnd_some]
theorem chk_frame (m : Nat) (a e f h pt k : Int) (c l : Bool) (d : List Int) (hf0 : 0 ≤ f) (hf1 : f ≤ 65535) :
    pkCheck_D m (5, a, e, f, h, pt, c, l, k, d, ()) = rfCheck_D m (5, a, e, f, h, pt, c, l, k, d, ()) := by
  have hs : shapeOf_D m 5 = some (3, ()) := rfl
  have hkn : known_D m 5 = some (true, ()) := rfl
  have htk : token3_D m 5 = some (false, ()) := rfl
  have hd3 : hasData_D m 5 = some (false, ()) := rfl
  unfold pkCheck_D rfCheck_D
  simp only [same_D, same_J0, rfCheck_J0, rfCheck_J1, rfCheck_J2, rfCheck_J3]
  simp only [hs, hkn, htk, hd3, bnd_some, decide_true, cond_true, cond_false, Bool.not_true, Bool.not_false, strs_nil, show decide ((3 : Int) = 2) = false from rfl, show decide ((3 : Int) = 5) = false from rfl, show decide ((3 : Int) = 0) = false from rfl, show decide ((3 : Int) = 3) = true from rfl, show decide ((3 : Int) = 4) = false from rfl, show decide ((5 : Int) = 5) = true from rfl, show decide ((5 : Int) = 8) = false from rfl, pw_11, pw_0, mk_2048]
  by_cases hf : f ≤ 2047
  · have e3 : Int.fdiv (Go.IntKind.wrap .u32 f) 2048 = 0 := by rw [w32 hf0 (by omega), Int.fdiv_eq_ediv_of_nonneg _ (by omega)]; omega
    have e1 : Go.IntKind.wrap .u16 (Go.bits Go.BinOp.and Go.IntKind.u32 (Go.bits Go.BinOp.or Go.IntKind.u32 (0 : Int) (Go.IntKind.wrap .u32 (Go.IntKind.wrap .u32 f * 1))) 2047) = f := by
      rw [w32 hf0 (by omega), w32 (x := f * 1) (by omega) (by omega), or_parts 0 (y := 0) (x := f * 1) (by omega) (by omega) (by omega) (by omega) (by omega) (by omega), and2047 (x := 0 + f * 1) (by omega) (by omega), wraps_u16 _ (by omega) (by omega)]
      omega
    simp only [e3, e1, decide_true, Bool.not_true, cond_true, cond_false, dF (show ¬ (2047 : Int) < f by omega)]
    by_cases ha : a = 0
    · by_cases he : e = 0
      · by_cases hh : h = 0
        · by_cases hpt : pt = 0
          · by_cases hk : k = 0
            · subst ha he hh hpt hk
              cases c <;> cases l <;> by_cases hdd : d = [] <;> simp [hdd, bnd_some]
            · subst ha he hh hpt
              cases c <;> cases l <;> simp [hk, bnd_some]
          · subst ha he hh; simp [hpt, bnd_some]
        · subst ha he; simp [hh, bnd_some]
      · subst ha; simp [he, bnd_some]
    · simp [ha, bnd_some]
  · have e3 : ¬ Int.fdiv (Go.IntKind.wrap .u32 f) 2048 = 0 := by rw [w32 hf0 (by omega), Int.fdiv_eq_ediv_of_nonneg _ (by omega)]; omega
    simp [e3, show (2047 : Int) < f by omega]
theorem chk_none (m : Nat) (p a e f h pt k : Int) (c l : Bool) (d : List Int) (hp : p ≠ 1 ∧ p ≠ 2 ∧ p ≠ 3 ∧ p ≠ 5 ∧ p ≠ 6 ∧ p ≠ 8 ∧ p ≠ 9 ∧ p ≠ 10 ∧ p ≠ 11 ∧ p ≠ 13 ∧ p ≠ 14) :
    pkCheck_D m (p, a, e, f, h, pt, c, l, k, d, ()) = rfCheck_D m (p, a, e, f, h, pt, c, l, k, d, ()) := by
  obtain ⟨h1, h2, h3, h5, h6, h8, h9, h10, h11, h13, h14⟩ := hp
  have hs : shapeOf_D m p = some (0, ()) := by simp [shapeOf_D, h1, h2, h3, h5, h6, h8, h9, h10, h11, h13, h14]
  have hkn : known_D m p = some (false, ()) := by simp [known_D, known_J0, h1, h2, h3, h5, h6, h8, h9, h10, h11, h13, h14]
  unfold pkCheck_D rfCheck_D
  simp only [same_D, same_J0, rfCheck_J0, rfCheck_J1, rfCheck_J2, rfCheck_J3]
  simp only [hs, hkn, bnd_some, decide_true, cond_true, cond_false, Bool.not_false, show decide ((0 : Int) = 2) = false from rfl, show decide ((0 : Int) = 5) = false from rfl, show decide ((0 : Int) = 0) = true from rfl, show decide ((0 : Int) = 3) = false from rfl, show decide ((0 : Int) = 4) = false from rfl]
theorem split_num {h o pt w k : Int} (hh0 : 0 ≤ h) (hh : h ≤ 127) (ho0 : 0 ≤ o) (ho : o ≤ 1) (hp0 : 0 ≤ pt) (hp : pt ≤ 127) (hw0 : 0 ≤ w) (hw : w ≤ 1) (hk0 : 0 ≤ k) (hk : k ≤ 3) :
    Go.bits Go.BinOp.or Go.IntKind.u32 (Go.bits Go.BinOp.or Go.IntKind.u32 (Go.bits Go.BinOp.or Go.IntKind.u32 (Go.bits Go.BinOp.or Go.IntKind.u32 (Go.bits Go.BinOp.or Go.IntKind.u32 (Go.bits Go.BinOp.or Go.IntKind.u32 (0 : Int) (Go.IntKind.wrap .u32 (Go.IntKind.wrap .u32 h * 1))) (Go.IntKind.wrap .u32 (o * 128))) (Go.IntKind.wrap .u32 (Go.IntKind.wrap .u32 pt * 256))) (Go.IntKind.wrap .u32 (w * 32768))) (Go.IntKind.wrap .u32 ((0 : Int) * 65536))) (Go.IntKind.wrap .u32 (Go.IntKind.wrap .u32 k * 131072)) = h + o * 128 + pt * 256 + w * 32768 + k * 131072 := by
  rw [w32 hh0 (by omega), w32 hp0 (by omega), w32 hk0 (by omega), w32 (x := h * 1) (by omega) (by omega), w32 (x := o * 128) (by omega) (by omega), w32 (x := pt * 256) (by omega) (by omega), w32 (x := w * 32768) (by omega) (by omega), w32 (x := 0 * 65536) (by omega) (by omega), w32 (x := k * 131072) (by omega) (by omega)]
  rw [or_parts 0 (y := 0) (x := h * 1) (by omega) (by omega) (by omega) (by omega) (by omega) (by omega), or_parts 7 (y := 0 + h * 1) (x := o * 128) (by omega) (by omega) (by omega) (by omega) (by omega) (by omega),
    or_parts 8 (y := 0 + h * 1 + o * 128) (x := pt * 256) (by omega) (by omega) (by omega) (by omega) (by omega) (by omega), or_parts 15 (y := 0 + h * 1 + o * 128 + pt * 256) (x := w * 32768) (by omega) (by omega) (by omega) (by omega) (by omega) (by omega),
    or_parts 16 (y := 0 + h * 1 + o * 128 + pt * 256 + w * 32768) (x := 0 * 65536) (by omega) (by omega) (by omega) (by omega) (by omega) (by omega), or_parts 17 (y := 0 + h * 1 + o * 128 + pt * 256 + w * 32768 + 0 * 65536) (x := k * 131072) (by omega) (by omega) (by omega) (by omega) (by omega) (by omega)]
  omega
def bitI (b : Bool) : Int := if b then 1 else 0
theorem one3_eq (m : Nat) (b : Bool) : one3_D m b = some (bitI b, ()) := by cases b <;> rfl
theorem bitI_lo (b : Bool) : 0 ≤ bitI b := by cases b <;> decide
theorem bitI_hi (b : Bool) : bitI b ≤ 1 := by cases b <;> decide
theorem bitI_one (b : Bool) : decide (bitI b = 1) = b := by cases b <;> rfl
theorem chk_split (m : Nat) (a e f h pt k : Int) (c l : Bool) (d : List Int) (hh0 : 0 ≤ h) (hh1 : h ≤ 255) (hp0 : 0 ≤ pt) (hp1 : pt ≤ 255) (hk0 : 0 ≤ k) (hk1 : k ≤ 255) :
    pkCheck_D m (8, a, e, f, h, pt, c, l, k, d, ()) = rfCheck_D m (8, a, e, f, h, pt, c, l, k, d, ()) := by
  have hs : shapeOf_D m 8 = some (4, ()) := rfl
  have hkn : known_D m 8 = some (true, ()) := rfl
  have htk : token3_D m 8 = some (false, ()) := rfl
  have hd3 : hasData_D m 8 = some (false, ()) := rfl
  unfold pkCheck_D rfCheck_D
  simp only [same_D, same_J0, rfCheck_J0, rfCheck_J1, rfCheck_J2, rfCheck_J3]
  simp only [hs, hkn, htk, hd3, one3_eq, bnd_some, decide_true, cond_true, cond_false, Bool.not_true, Bool.not_false, strs_nil, show decide ((4 : Int) = 2) = false from rfl, show decide ((4 : Int) = 5) = false from rfl, show decide ((4 : Int) = 0) = false from rfl, show decide ((4 : Int) = 3) = false from rfl, show decide ((4 : Int) = 4) = true from rfl, show decide ((8 : Int) = 5) = false from rfl, show decide ((8 : Int) = 8) = true from rfl, pw_0, pw_one, pw_2, pw_7, wi7, wi8, wi15, wi16, wi17, pw_8, pw_15, pw_16, pw_17, mk_128, mk_2, mk_4]
  have hc0 := bitI_lo c
  have hc1 := bitI_hi c
  have hl0 := bitI_lo l
  have hl1 := bitI_hi l
  have fd : ∀ (x y : Int), 0 ≤ y → Int.fdiv x y = x / y := fun x y hy => Int.fdiv_eq_ediv_of_nonneg x hy
  have ec : Int.fdiv (bitI c) 2 = 0 := by rw [fd _ _ (by omega)]; omega
  have el : Int.fdiv (bitI l) 2 = 0 := by rw [fd _ _ (by omega)]; omega
  by_cases hh : h ≤ 127
  · have eh : Int.fdiv (Go.IntKind.wrap .u32 h) 128 = 0 := by rw [w32 hh0 (by omega), fd _ _ (by omega)]; omega
    by_cases hp : pt ≤ 127
    · have ep : Int.fdiv (Go.IntKind.wrap .u32 pt) 128 = 0 := by rw [w32 hp0 (by omega), fd _ _ (by omega)]; omega
      by_cases hk : k ≤ 3
      · have ek : Int.fdiv (Go.IntKind.wrap .u32 k) 4 = 0 := by rw [w32 hk0 (by omega), fd _ _ (by omega)]; omega
        have w8 : ∀ x : Int, 0 ≤ x → x ≤ 255 → Go.IntKind.wrap .u8 x = x := by
          intro x h0 h1
          simp [Go.IntKind.wrap, Go.IntKind.bits, Go.IntKind.signed]; omega
        rw [split_num hh0 hh hc0 hc1 hp0 hp hl0 hl1 hk0 hk]
        generalize hn : h + bitI c * 128 + pt * 256 + bitI l * 32768 + k * 131072 = n
        simp only [fd n 128 (by omega), fd (n / 128) 2 (by omega), fd (n / 128 / 2) 128 (by omega), fd (n / 128 / 2 / 128) 2 (by omega), fd (n / 128 / 2 / 128 / 2) 2 (by omega)]
        have b1 : Go.IntKind.wrap .u8 (Go.bits Go.BinOp.and Go.IntKind.u32 n 127) = h := by rw [and127 (by omega) (by omega), w8 _ (by omega) (by omega)]; omega
        have b2 : Go.IntKind.wrap .u8 (Go.bits Go.BinOp.and Go.IntKind.u32 (n / 128 / 2) 127) = pt := by rw [and127 (by omega) (by omega), w8 _ (by omega) (by omega)]; omega
        have b3 : Go.bits Go.BinOp.and Go.IntKind.u32 (n / 128) 1 = bitI c := by rw [and1 (by omega) (by omega)]; omega
        have b4 : Go.bits Go.BinOp.and Go.IntKind.u32 (n / 128 / 2 / 128) 1 = bitI l := by rw [and1 (by omega) (by omega)]; omega
        have b5 : Go.IntKind.wrap .u8 (Go.bits Go.BinOp.and Go.IntKind.u32 (n / 128 / 2 / 128 / 2 / 2) 3) = k := by rw [and3 (by omega) (by omega), w8 _ (by omega) (by omega)]; omega
        simp only [b1, b2, b3, b4, b5, bitI_one, ec, el, eh, ep, ek, decide_true, Bool.not_true, cond_true, cond_false, Bool.and_true, dF (show ¬ (127 : Int) < h by omega), dF (show ¬ (127 : Int) < pt by omega), dF (show ¬ (3 : Int) < k by omega)]
        by_cases ha : a = 0
        · by_cases he : e = 0
          · by_cases hf : f = 0
            · subst ha he hf
              by_cases hdd : d = [] <;> simp [hdd, bnd_some]
            · subst ha he; simp [hf, bnd_some]
          · subst ha; simp [he, bnd_some]
        · simp [ha, bnd_some]
      · have ek : ¬ Int.fdiv (Go.IntKind.wrap .u32 k) 4 = 0 := by rw [w32 hk0 (by omega), fd _ _ (by omega)]; omega
        simp [ek, eh, ep, ec, el, show (3 : Int) < k by omega]
    · have ep : ¬ Int.fdiv (Go.IntKind.wrap .u32 pt) 128 = 0 := by rw [w32 hp0 (by omega), fd _ _ (by omega)]; omega
      simp [ep, eh, ec, show (127 : Int) < pt by omega]
  · have eh : ¬ Int.fdiv (Go.IntKind.wrap .u32 h) 128 = 0 := by rw [w32 hh0 (by omega), fd _ _ (by omega)]; omega
    simp [eh, show (127 : Int) < h by omega]
theorem chk_same (m : Nat) (p a e f h pt k : Int) (c l : Bool) (d : List Int) (ha0 : 0 ≤ a) (ha : a ≤ 255) (he0 : 0 ≤ e) (he : e ≤ 255) (hf0 : 0 ≤ f) (hf : f ≤ 65535) (hh0 : 0 ≤ h) (hh1 : h ≤ 255) (hp0 : 0 ≤ pt) (hp1 : pt ≤ 255) (hk0 : 0 ≤ k) (hk1 : k ≤ 255) :
    pkCheck_D m (p, a, e, f, h, pt, c, l, k, d, ()) = rfCheck_D m (p, a, e, f, h, pt, c, l, k, d, ()) := by
  by_cases h1 : p = 1 ∨ p = 9 ∨ p = 13
  · exact chk_token m p a e f h pt k c l d h1 ha0 ha he0 he
  by_cases h2 : p = 2 ∨ p = 10 ∨ p = 14 ∨ p = 6
  · exact chk_plain m p a e f h pt k c l d h2
  by_cases h3 : p = 3 ∨ p = 11
  · exact chk_data m p a e f h pt k c l d h3
  by_cases h5 : p = 5
  · subst h5; exact chk_frame m a e f h pt k c l d hf0 hf
  by_cases h8 : p = 8
  · subst h8; exact chk_split m a e f h pt k c l d hh0 hh1 hp0 hp1 hk0 hk1
  exact chk_none m p a e f h pt k c l d (by omega)
end Go.Proofs.YtpdbekbobkjfgaaDoor

