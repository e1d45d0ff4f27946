/-
  The contracts of checks.Five, Join and Part.
-/
import Derived.Test.YtmjocalgekfodaaChk1
import Derived.Deep.DeepCutAuto
namespace Go.Proofs.Ytmjocalgekfodaa
open Go.RowKit
set_option linter.unusedVariables false

theorem fitsB_mk {v k most : Nat} (h1 : k ≤ most) (h2 : v < 2 ^ k) : fitsB v k most = true := by
  unfold fitsB
  rw [decide_eq_true_iff]
  exact ⟨by omega, by omega, by rw [Int.toNat_natCast]; exact Nat.div_eq_of_lt h2⟩

set_option maxRecDepth 100000 in
set_option maxHeartbeats 400000 in
theorem Five_yes (v n : Nat) (w : World) (hv : v < 4294967296) (hn : n ≤ 24) (hf : v < 2 ^ n) :
    Calls Try.prog 52 #[.int .u32 v, .int .i64 n] w fun e w' => e = .returned (.tuple #[.int .u8 (Chk.five v n : Nat), .int .i64 0]) ∧ Below w.heap.size w w' := by
  have HF := Lib.hid (fitsB_mk hn hf)
  clear hf
  go_enter Try.func52, Try.ntmps52
  go_wp2_with (first
    | (go_at_call 75; refine (fits_ok v n 24 _ hv (by decide)).mono ?_; rw [HF.out]; rintro e w1 ⟨rfl, rfl⟩)
    | (go_at_call 76; refine (five_ok v n _ hv (by omega)).mono ?_; rintro e w2 ⟨rfl, hb⟩))
  go_returns
  exact ⟨rfl, hb⟩

set_option maxRecDepth 100000 in
set_option maxHeartbeats 400000 in
theorem Five_no (v : Nat) (n : Int) (w : World) (hv : v < 4294967296) (hf : fitsB v n 24 = false) :
    Calls Try.prog 52 #[.int .u32 v, .int .i64 n] w fun e w' => e = .returned (.tuple #[.int .u8 0, .int .i64 1]) ∧ w = w' := by
  have HF := Lib.hid hf
  clear hf
  go_enter Try.func52, Try.ntmps52
  go_wp2_with (go_at_call 75; refine (fits_ok v n 24 _ hv (by decide)).mono ?_; rw [HF.out]; rintro e w1 ⟨rfl, rfl⟩)
  go_returns
  exact ⟨rfl, rfl⟩

def joined (v n : Nat) : Nat := v + Chk.five v n * 2 ^ n
theorem five_lt (v n : Nat) : Chk.five v n < 32 := Nat.xor_lt_two_pow (n := 5) (Chk.run_lt 20 5 (by decide) _ _ (by decide)) (by decide)

theorem joined_eq (v n : Nat) (hn : n ≤ 24) (hf : v < 2 ^ n) : bits .or .u32 (v : Int) (((Chk.five v n : Nat) : Int) * 2 ^ n % 4294967296) = ((joined v n : Nat) : Int) := by
  have h5 := five_lt v n
  have hp : (2 : Nat) ^ n ≤ 2 ^ 24 := Nat.pow_le_pow_right (by decide) hn
  have hm : Chk.five v n * 2 ^ n < 32 * 2 ^ 24 := Nat.lt_of_lt_of_le (Nat.mul_lt_mul_of_pos_right h5 (Nat.two_pow_pos n)) (Nat.mul_le_mul_left _ hp)
  have hmI : ((Chk.five v n : Nat) : Int) * 2 ^ n < 536870912 := by
    have := Int.ofNat_lt.2 hm; simpa using this
  have h0 : (0 : Int) ≤ ((Chk.five v n : Nat) : Int) * 2 ^ n := Int.mul_nonneg (by omega) (Int.pow_nonneg (by decide))
  rw [Int.emod_eq_of_lt h0 (by omega)]
  have hfI : (v : Int) < 2 ^ n := by have := Int.ofNat_lt.2 hf; simpa using this
  have hvI : (v : Int) < 4294967296 := by
    have := Int.ofNat_lt.2 (Nat.lt_of_lt_of_le hf hp); simp at this; omega
  rw [or_u32 _ _ n (by omega) hfI (by omega) (by omega) hvI]
  simp [joined]

set_option maxRecDepth 100000 in
set_option maxHeartbeats 400000 in
theorem Join_yes (v n : Nat) (w : World) (hv : v < 4294967296) (hn : n ≤ 24) (hf : v < 2 ^ n) :
    Calls Try.prog 53 #[.int .u32 v, .int .i64 n] w fun e w' => e = .returned (.tuple #[.int .u32 (joined v n : Nat), .int .i64 0]) ∧ Below w.heap.size w w' := by
  have HF := Lib.hid (fitsB_mk hn hf)
  have Hlt := Lib.hid hf
  clear hf
  have h5 := five_lt v n
  have hk : (n : Int) < 32 := by omega
  have hor := joined_eq v n hn Hlt.out
  go_enter Try.func53, Try.ntmps53
  go_wp2_with (first
    | (go_at_call 75; refine (fits_ok v n 24 _ hv (by decide)).mono ?_; rw [HF.out]; rintro e w1 ⟨rfl, rfl⟩)
    | (go_at_call 76; refine (five_ok v n _ hv (by omega)).mono ?_; rintro e w2 ⟨rfl, hb⟩))
  go_returns
  exact ⟨by first | rfl | rw [hor], hb⟩

set_option maxRecDepth 100000 in
set_option maxHeartbeats 400000 in

set_option maxRecDepth 100000 in
set_option maxHeartbeats 400000 in

set_option maxRecDepth 100000 in
set_option maxHeartbeats 400000 in
theorem Part_width (v n : Nat) (w : World) (hv : v < 4294967296) (hn : n < 5) (hf : v < 2 ^ n) :
    Calls Try.prog 54 #[.int .u32 v, .int .i64 n] w fun e w' => e = .returned (.tuple #[.int .u32 0, .int .i64 5]) ∧ w = w' := by
  have HF := Lib.hid (fitsB_mk (most := 29) (by omega) hf)
  clear hf
  go_enter Try.func54, Try.ntmps54
  go_wp2_with (go_at_call 75; refine (fits_ok v n 29 _ hv (by decide)).mono ?_; rw [HF.out]; rintro e w1 ⟨rfl, rfl⟩)
  go_returns
  exact ⟨rfl, rfl⟩

def partV (f n q : Nat) : Value := if Chk.five f n = q then .tuple #[.int .u32 f, .int .i64 0] else .tuple #[.int .u32 0, .int .i64 10]
def neB (a b : Nat) : Bool := decide (a ≠ b)

set_option maxRecDepth 100000 in
set_option maxHeartbeats 4000000 in
theorem Part_ok (v n : Nat) (w : World) (hv : v < 4294967296) (hn : n ≤ 24) (hf : v < 2 ^ (n + 5)) :
    Calls Try.prog 54 #[.int .u32 v, .int .i64 (n + 5 : Nat)] w fun e w' => e = .returned (partV (v % 2 ^ n) n (v / 2 ^ n)) ∧ Below w.heap.size w w' := by
  have HF := Lib.hid (fitsB_mk (v := v) (k := n + 5) (most := 29) (by omega) hf)
  clear hf
  obtain ⟨f, hf0⟩ : ∃ f, v % 2 ^ n = f := ⟨_, rfl⟩
  obtain ⟨q, hq0⟩ : ∃ q, v / 2 ^ n = q := ⟨_, rfl⟩
  rw [hf0, hq0]
  have hand : bits .and .u32 (v : Int) ((2 ^ n - 1) % 4294967296) = (f : Int) := by
    have hp : (2 : Nat) ^ n ≤ 2 ^ 24 := Nat.pow_le_pow_right (by decide) hn
    have hp1 := Nat.one_le_two_pow (n := n)
    have e : ((2 : Int) ^ n - 1) % 4294967296 = ((2 ^ n - 1 : Nat) : Int) := by
      have e1 : ((2 : Int) ^ n - 1) = ((2 ^ n - 1 : Nat) : Int) := by rw [Int.natCast_sub hp1]; simp
      rw [e1]; omega
    rw [e, u32_and_nat v _ hv (by omega), Nat.and_two_pow_sub_one_eq_mod, hf0]
  have hshr : (v : Int) / 2 ^ n = (q : Int) := by rw [← hq0]; simp
  have hfv : f < 4294967296 := by rw [← hf0]; exact Nat.lt_of_le_of_lt (Nat.mod_le _ _) hv
  have hqv : q < 4294967296 := by rw [← hq0]; exact Nat.lt_of_le_of_lt (Nat.div_le_self _ _) hv
  clear hf0 hq0
  have h5 := five_lt f n
  have hk : (n : Int) < 32 := by omega
  go_enter Try.func54, Try.ntmps54
  go_upto_region 6 with (go_at_call 75; refine (fits_ok v (n + 5 : Nat) 29 _ hv (by decide)).mono ?_; rw [HF.out]; rintro e w1 ⟨rfl, rfl⟩)
  go_cut [28] (fun s28 wx => ∃ b : Bool, s28 = .bool b ∧ Hid (b = neB (Chk.five f n) q) ∧ Below w.heap.size w wx)
  case first =>
    by_cases he : Chk.five f n = q
    · have he' : (((Chk.five f n : Nat) : Int) != (q : Int)) = false := by rw [he]; simp
      have He := Lib.hid he
      clear he
      have hw : IntKind.i64.wrap (n : Int) = (n : Int) := by rw [IntKind.wrap_i64]; omega
      have hw2 : IntKind.u32.wrap ((Chk.five f n : Nat) : Int) = ((Chk.five f n : Nat) : Int) := by rw [IntKind.wrap_u32]; omega
      have n32 : n ≤ 32 := Nat.le_trans hn (by decide)
      go_region_with (go_at_call 76; (with_reducible refine (five_ok f n _ hfv n32).mono ?_); rintro e w2 ⟨rfl, hb⟩)
      all_goals
        go_wp2_with fail
        go_meet
        exact ⟨_, rfl, Lib.hid (by simp [neB, He.out]), by first | exact hb | exact Below.trans (by go_grown) (hb.mono (by go_size)) | go_grown⟩
    · have he' : (((Chk.five f n : Nat) : Int) != (q : Int)) = true := by rw [bne_iff_ne]; omega
      have He := Lib.hid he
      clear he
      have hw : IntKind.i64.wrap (n : Int) = (n : Int) := by rw [IntKind.wrap_i64]; omega
      have hw2 : IntKind.u32.wrap ((Chk.five f n : Nat) : Int) = ((Chk.five f n : Nat) : Int) := by rw [IntKind.wrap_u32]; omega
      have n32 : n ≤ 32 := Nat.le_trans hn (by decide)
      go_region_with (go_at_call 76; (with_reducible refine (five_ok f n _ hfv n32).mono ?_); rintro e w2 ⟨rfl, hb⟩)
      all_goals
        go_wp2_with fail
        go_meet
        exact ⟨_, rfl, Lib.hid (by simp [neB, He.out]), by first | exact hb | exact Below.trans (by go_grown) (hb.mono (by go_size)) | go_grown⟩
  case rest =>
    obtain ⟨b, rfl, Hb, hB⟩ := hcut
    have HR : Hid (partV f n q = if b = true then .tuple #[.int .u32 0, .int .i64 10] else .tuple #[.int .u32 f, .int .i64 0]) := Lib.hid (by
      rw [Hb.out]; unfold neB partV
      by_cases he : Chk.five f n = q <;> simp [he])
    clear Hb
    cases b with
    | false =>
      go_wp2_with fail
      go_returns
      exact ⟨by rw [HR.out]; rfl, hB⟩
    | true =>
      go_wp2_with fail
      go_returns
      exact ⟨by rw [HR.out]; rfl, hB⟩
end Go.Proofs.Ytmjocalgekfodaa

