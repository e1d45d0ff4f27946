/-
  plugboardlaw02.ChecksFive, ChecksPart: the walks.
-/
import Derived.Test.YtolmhlikmjkkfaaChk8
namespace Go.Proofs.Ytolmhlikmjkkfaa
open Go.RowKit
set_option linter.unusedVariables false

theorem joined_lt (v n : Nat) (hf : v < 2 ^ n) : joined v n < 2 ^ (n + 5) := by
  unfold joined
  have h5 := five_lt v n
  have : (Chk.five v n + 1) * 2 ^ n ≤ 32 * 2 ^ n := Nat.mul_le_mul_right _ h5
  rw [Nat.add_mul, Nat.one_mul] at this
  rw [Nat.pow_add]; omega
theorem joined_mod (v n : Nat) (hf : v < 2 ^ n) : joined v n % 2 ^ n = v := by
  unfold joined
  rw [Nat.add_mul_mod_self_right, Nat.mod_eq_of_lt hf]
theorem joined_div (v n : Nat) (hf : v < 2 ^ n) : joined v n / 2 ^ n = Chk.five v n := by
  unfold joined
  rw [Nat.add_mul_div_right _ _ (Nat.two_pow_pos n), Nat.div_eq_of_lt hf, Nat.zero_add]

set_option maxRecDepth 100000 in
set_option maxHeartbeats 1000000 in
theorem five_good (v n : Nat) (w : World) (hv : v < 4294967296) (hn : n ≤ 24) (hf : v < 2 ^ n) :
    Calls Try.prog 3 #[.int .u32 v, .int .i64 n] w fun e w' => e = .returned (.bool true) ∧ Below w.heap.size w w' := by
  have Hf := Lib.hid hf
  have hj := joined_lt v n hf
  have hp : 2 ^ (n + 5) ≤ 2 ^ 29 := Nat.pow_le_pow_right (by decide) (by omega)
  have hj32 : joined v n < 4294967296 := by omega
  have HP : Hid (partV (joined v n % 2 ^ n) n (joined v n / 2 ^ n) = .tuple #[.int .u32 v, .int .i64 0]) := Lib.hid (by
    rw [joined_mod v n hf, joined_div v n hf]; unfold partV; rw [if_pos rfl])
  have HJ := Lib.hid hj
  have h5 := five_lt v n
  obtain ⟨t, ht, ht2⟩ : ∃ t : Nat, Chk.five v n * 2 ^ n = t ∧ t < 4294967296 := ⟨_, rfl, by unfold joined at hj; omega⟩
  have htI : ((Chk.five v n : Nat) : Int) * 2 ^ n = (t : Int) := by rw [← ht]; simp
  have hjt : Hid (joined v n = v + t) := Lib.hid (by unfold joined; rw [ht])
  have hk : (n : Int) < 64 := by omega
  have hz : ((v : Int) / 2 ^ n) = 0 := by have := Nat.div_eq_of_lt hf; have := congrArg (fun x : Nat => (x : Int)) this; simpa using this
  clear hf hj hp ht
  go_enter Try.func3, Try.ntmps3
  go_wp2_with fail
  refine (Five_yes v n _ hv hn Hf.out).mono ?_
  rintro e w1 ⟨rfl, hb1⟩
  have z1 := hb1.size
  go_wp2_with fail
  refine (Join_yes v n _ hv hn Hf.out).mono ?_
  rintro e w2 ⟨rfl, hb2⟩
  replace hb2 := hb1.trans (hb2.mono z1)
  replace z1 := hb2.size
  clear hb1
  go_wp2_with fail
  refine (refFive_ok v n _ hv (by omega)).mono ?_
  rintro e w3 ⟨rfl, hb3⟩
  replace hb3 := hb2.trans (hb3.mono z1)
  replace z1 := hb3.size
  clear hb2
  go_wp2_with fail
  refine (Part_ok (joined v n) n _ hj32 hn HJ.out).mono ?_
  rw [HP.out]
  rintro e w4 ⟨rfl, hb4⟩
  replace hb4 := hb3.trans (hb4.mono z1)
  replace z1 := hb4.size
  clear hb3
  rw [hjt.out]
  go_wp2_with fail
  refine (lives_ok _).mono ?_
  rintro e w5 ⟨rfl, hb5⟩
  go_wp2_with fail
  go_returns
  exact ⟨rfl, hb4.trans (hb5.mono z1)⟩

theorem fitsB_no {v : Nat} {n : Int} {most : Nat} (h : fitsB v n most = false) : n < 0 ∨ (most : Int) < n ∨ ∃ k : Nat, n = k ∧ k ≤ most ∧ v / 2 ^ k ≠ 0 := by
  unfold fitsB at h
  rw [decide_eq_false_iff_not] at h
  by_cases h0 : n < 0
  · exact .inl h0
  · by_cases h1 : (most : Int) < n
    · exact .inr (.inl h1)
    · obtain ⟨k, rfl⟩ := Int.eq_ofNat_of_zero_le (show 0 ≤ n by omega)
      exact .inr (.inr ⟨k, rfl, by omega, fun h2 => h ⟨by omega, by omega, by rw [Int.toNat_natCast]; exact h2⟩⟩)

set_option maxRecDepth 100000 in
set_option maxHeartbeats 1000000 in
theorem five_walk (v : Nat) (n : Int) (w : World) (hv : v < 4294967296) :
    Calls Try.prog 3 #[.int .u32 v, .int .i64 n] w fun e w' => e = .returned (.bool true) ∧ Below w.heap.size w w' := by
  cases hb : fitsB v n 24 with
  | true =>
    obtain ⟨k, rfl, hk, hf⟩ := fitsB_nat hb
    exact five_good v k w hv hk hf
  | false =>
    have HB := Lib.hid hb
    rcases fitsB_no hb with h | h | ⟨k, rfl, hk, hz⟩
    · clear hb
      go_enter Try.func3, Try.ntmps3
      go_wp2_with (first
        | (go_at_call 15; refine (Five_no v n _ hv HB.out).mono ?_; rintro e w1 ⟨rfl, rfl⟩)
        | (go_at_call 16; refine (Join_no v n _ hv HB.out).mono ?_; rintro e w1 ⟨rfl, rfl⟩)
        | (go_at_call 17; refine (lives_ok _).mono ?_; rintro e w5 ⟨rfl, hb5⟩))
      go_returns
      exact ⟨rfl, hb5⟩
    · clear hb
      go_enter Try.func3, Try.ntmps3
      go_wp2_with (first
        | (go_at_call 15; refine (Five_no v n _ hv HB.out).mono ?_; rintro e w1 ⟨rfl, rfl⟩)
        | (go_at_call 16; refine (Join_no v n _ hv HB.out).mono ?_; rintro e w1 ⟨rfl, rfl⟩)
        | (go_at_call 17; refine (lives_ok _).mono ?_; rintro e w5 ⟨rfl, hb5⟩))
      go_returns
      exact ⟨rfl, hb5⟩
    · have hk64 : (k : Int) < 64 := by omega
      have hz' : ((v : Int) / 2 ^ k != 0) = true := by
        rw [bne_iff_ne]; intro h
        apply hz
        have : ((v / 2 ^ k : Nat) : Int) = 0 := by simpa using h
        omega
      have hz2 : ((v : Int) / 2 ^ k == 0) = false := by
        rw [beq_eq_false_iff_ne]; exact bne_iff_ne.1 hz'
      clear hb hz
      go_enter Try.func3, Try.ntmps3
      go_wp2_with (first
        | (go_at_call 15; refine (Five_no v k _ hv HB.out).mono ?_; rintro e w1 ⟨rfl, rfl⟩)
        | (go_at_call 16; refine (Join_no v k _ hv HB.out).mono ?_; rintro e w1 ⟨rfl, rfl⟩)
        | (go_at_call 17; refine (lives_ok _).mono ?_; rintro e w5 ⟨rfl, hb5⟩))
      go_returns
      exact ⟨rfl, hb5⟩

set_option maxRecDepth 100000 in
set_option maxHeartbeats 1000000 in
theorem part_good (v m : Nat) (w : World) (hv : v < 4294967296) (hn : m ≤ 24) (hf : v < 2 ^ (m + 5)) :
    Calls Try.prog 4 #[.int .u32 v, .int .i64 (m + 5 : Nat)] w fun e w' => e = .returned (.bool true) ∧ Below w.heap.size w w' := by
  have Hf := Lib.hid hf
  obtain ⟨f, hf0⟩ : ∃ f, v % 2 ^ m = f := ⟨_, rfl⟩
  obtain ⟨q, hq0⟩ : ∃ q, v / 2 ^ m = q := ⟨_, rfl⟩
  have hfv : f < 4294967296 := by rw [← hf0]; exact Nat.lt_of_le_of_lt (Nat.mod_le _ _) hv
  have hqv : q < 4294967296 := by rw [← hq0]; exact Nat.lt_of_le_of_lt (Nat.div_le_self _ _) hv
  have hshr : (v : Int) / 2 ^ m = (q : Int) := by rw [← hq0]; simp
  have hrem : (v : Int) % 2 ^ m = (f : Int) := by rw [← hf0]; simp
  have hp : (2 : Nat) ^ m ≤ 2 ^ 24 := Nat.pow_le_pow_right (by decide) hn
  have hp1 := Nat.one_le_two_pow (n := m)
  have hpw : ((2 : Int) ^ m % 4294967296) = 2 ^ m := by
    have e : ((2 : Int) ^ m) = ((2 ^ m : Nat) : Int) := by simp
    rw [e]; omega
  have hpne : ((2 : Int) ^ m == 0) = false := by
    rw [beq_eq_false_iff_ne]
    have e : ((2 : Int) ^ m) = ((2 ^ m : Nat) : Int) := by simp
    rw [e]; omega
  have hpne2 : ¬ ((2 : Int) ^ m = 0) := beq_eq_false_iff_ne.1 hpne
  have hk : (m : Int) < 64 := by omega
  have h5 := five_lt f m
  have hPart := Part_ok v m w hv hn hf
  rw [hf0, hq0] at hPart
  obtain ⟨k, hkm⟩ : ∃ k, m + 5 = k := ⟨_, rfl⟩
  rw [hkm] at hPart hf ⊢
  have hsub : (k : Int) - 5 = (m : Int) := by omega
  have hk2 : (k : Int) ≤ 29 := by omega
  have hk3 : (5 : Int) ≤ (k : Int) := by omega
  have hz : (v : Int) / 2 ^ k = 0 := by have := congrArg (fun x : Nat => (x : Int)) (Nat.div_eq_of_lt hf); simpa using this
  clear hf hf0 hq0 hp hp1 hkm
  by_cases he : Chk.five f m = q
  · have HV : Hid (partV f m q = .tuple #[.int .u32 f, .int .i64 0]) := Lib.hid (by unfold partV; rw [if_pos he])
    have he' : (((Chk.five f m : Nat) : Int) != (q : Int)) = false := by rw [he]; simp
    rw [HV.out] at hPart
    have HPart := Lib.hid hPart
    clear he hPart
    go_enter Try.func4, Try.ntmps4
    go_wp2_with (first
      | (go_at_call 19; refine HPart.out.mono ?_; rintro e w1 ⟨rfl, hb1⟩; have z1 := hb1.size)
      | (go_at_call 18; refine (refFive_ok f m _ hfv (by omega)).mono ?_; rintro e w2 ⟨rfl, hb2⟩; have hB2 := hb1.trans (hb2.mono z1); have z2 := hB2.size)
      | (go_at_call 17; refine (lives_ok _).mono ?_; rintro e w5 ⟨rfl, hb5⟩; have hB5 := hB2.trans (hb5.mono z2)))
    go_returns
    exact ⟨rfl, hB5⟩
  · have HV : Hid (partV f m q = .tuple #[.int .u32 0, .int .i64 10]) := Lib.hid (by unfold partV; rw [if_neg he])
    have he' : (((Chk.five f m : Nat) : Int) != (q : Int)) = true := by rw [bne_iff_ne]; omega
    rw [HV.out] at hPart
    have HPart := Lib.hid hPart
    clear he hPart
    go_enter Try.func4, Try.ntmps4
    go_wp2_with (first
      | (go_at_call 19; refine HPart.out.mono ?_; rintro e w1 ⟨rfl, hb1⟩; have z1 := hb1.size)
      | (go_at_call 18; refine (refFive_ok f m _ hfv (by omega)).mono ?_; rintro e w2 ⟨rfl, hb2⟩; have hB2 := hb1.trans (hb2.mono z1); have z2 := hB2.size)
      | (go_at_call 17; refine (lives_ok _).mono ?_; rintro e w5 ⟨rfl, hb5⟩; have hB5 := hB2.trans (hb5.mono z2)))
    go_returns
    exact ⟨rfl, hB5⟩

set_option maxRecDepth 100000 in
set_option maxHeartbeats 1000000 in
theorem part_walk (v : Nat) (n : Int) (w : World) (hv : v < 4294967296) :
    Calls Try.prog 4 #[.int .u32 v, .int .i64 n] w fun e w' => e = .returned (.bool true) ∧ Below w.heap.size w w' := by
  cases hb : fitsB v n 29 with
  | true =>
    obtain ⟨k, rfl, hk, hf⟩ := fitsB_nat hb
    by_cases h5 : 5 ≤ k
    · obtain ⟨m, rfl⟩ : ∃ m, k = m + 5 := ⟨k - 5, by omega⟩
      exact part_good v m w hv (by omega) hf
    · have Hf := Lib.hid hf
      have hk64 : (k : Int) < 5 := by omega
      have hz : (v : Int) / 2 ^ k = 0 := by have := congrArg (fun x : Nat => (x : Int)) (Nat.div_eq_of_lt hf); simpa using this
      clear hb hf
      go_enter Try.func4, Try.ntmps4
      go_wp2_with (first
        | (go_at_call 19; refine (Part_width v k _ hv (by omega) Hf.out).mono ?_; rintro e w1 ⟨rfl, rfl⟩)
        | (go_at_call 17; refine (lives_ok _).mono ?_; rintro e w5 ⟨rfl, hb5⟩))
      go_returns
      exact ⟨rfl, hb5⟩
  | false =>
    have HB := Lib.hid hb
    rcases fitsB_no hb with h | h | ⟨k, rfl, hk, hz⟩
    · clear hb
      go_enter Try.func4, Try.ntmps4
      go_wp2_with (first
        | (go_at_call 19; refine (Part_no v n _ hv HB.out).mono ?_; rintro e w1 ⟨rfl, rfl⟩)
        | (go_at_call 17; refine (lives_ok _).mono ?_; rintro e w5 ⟨rfl, hb5⟩))
      go_returns
      exact ⟨rfl, hb5⟩
    · clear hb
      go_enter Try.func4, Try.ntmps4
      go_wp2_with (first
        | (go_at_call 19; refine (Part_no v n _ hv HB.out).mono ?_; rintro e w1 ⟨rfl, rfl⟩)
        | (go_at_call 17; refine (lives_ok _).mono ?_; rintro e w5 ⟨rfl, hb5⟩))
      go_returns
      exact ⟨rfl, hb5⟩
    · have hk64 : (k : Int) < 64 := by omega
      have hz' : ((v : Int) / 2 ^ k != 0) = true := by
        rw [bne_iff_ne]; intro h
        apply hz
        have : ((v / 2 ^ k : Nat) : Int) = 0 := by simpa using h
        omega
      have hz2 : ((v : Int) / 2 ^ k == 0) = false := by
        rw [beq_eq_false_iff_ne]; exact bne_iff_ne.1 hz'
      clear hb hz
      go_enter Try.func4, Try.ntmps4
      go_wp2_with (first
        | (go_at_call 19; refine (Part_no v k _ hv HB.out).mono ?_; rintro e w1 ⟨rfl, rfl⟩)
        | (go_at_call 17; refine (lives_ok _).mono ?_; rintro e w5 ⟨rfl, hb5⟩))
      go_returns
      exact ⟨rfl, hb5⟩
end Go.Proofs.Ytolmhlikmjkkfaa
