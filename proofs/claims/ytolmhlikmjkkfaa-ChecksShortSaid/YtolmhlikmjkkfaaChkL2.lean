/-
  plugboardlaw02.ChecksShort: the walk.
-/
import Derived.Test.YtolmhlikmjkkfaaChkL1
namespace Go.Proofs.Ytolmhlikmjkkfaa
open Go.RowKit
set_option linter.unusedVariables false

theorem part_err (v k c : Nat) (hv : v < 2 ^ k) (h : Chk.z5 (c % 2 ^ k) k ≠ c / 2 ^ k) : partV ((joined v k ^^^ c) % 2 ^ k) k ((joined v k ^^^ c) / 2 ^ k) = .tuple #[.int .u32 0, .int .i64 10] := by
  have h1 : (joined v k ^^^ c) % 2 ^ k = v ^^^ (c % 2 ^ k) := by rw [Nat.xor_mod_two_pow, joined_mod v k hv]
  have h2 : (joined v k ^^^ c) / 2 ^ k = Chk.five v k ^^^ (c / 2 ^ k) := by
    have := Chk.shr_xor (joined v k) c k
    simp only [Nat.shiftRight_eq_div_pow] at this
    rw [this, joined_div v k hv]
  unfold partV
  rw [h1, h2, if_neg]
  rw [Chk.five_xor]
  intro e
  apply h
  have := congrArg (Chk.five v k ^^^ ·) e
  simp only [← Nat.xor_assoc, Nat.xor_self, Nat.zero_xor] at this
  exact this

/-- Part finds a change of a protected number. -/
def Finds (x K : Nat) : Prop := ∀ w : World, Calls Try.prog 19 #[.int .u32 x, .int .i64 K] w fun e w' => e = .returned (.tuple #[.int .u32 0, .int .i64 10]) ∧ Below w.heap.size w w'

theorem finds (v k c : Nat) (hk : k ≤ 24) (hv : v < 2 ^ k) (hc : c < 2 ^ (k + 5)) (h : Chk.z5 (c % 2 ^ k) k ≠ c / 2 ^ k) : Finds (joined v k ^^^ c) (k + 5) := by
  intro w
  have hx : joined v k ^^^ c < 2 ^ (k + 5) := Nat.xor_lt_two_pow (joined_lt v k hv) hc
  have hp : 2 ^ (k + 5) ≤ 2 ^ 29 := Nat.pow_le_pow_right (by decide) (by omega)
  have := Part_ok (joined v k ^^^ c) k w (by omega) hk hx
  rw [part_err v k c hv h] at this
  exact this

set_option maxRecDepth 100000 in
set_option maxHeartbeats 4000000 in
theorem short_walk (V N a0 a1 B : Nat) (w : World) (hV : V < 4294967296) (hN : N < 256) (h0 : a0 < 256) (h1 : a1 < 256) (hB : B < 256) :
    Calls Try.prog 6 #[.agg #[.int .u32 V, .int .u8 N, .int .u8 a0, .int .u8 a1, .int .u8 B]] w fun e w' => e = .returned (.bool true) ∧ Below w.heap.size w w' := by
  obtain ⟨k, hkN, hk⟩ : ∃ k : Nat, N % 25 = k ∧ k ≤ 24 := ⟨_, rfl, by omega⟩
  obtain ⟨K, hK⟩ : ∃ K, k + 5 = K := ⟨_, rfl⟩
  obtain ⟨v, hv0⟩ : ∃ v, V % 2 ^ k = v := ⟨_, rfl⟩
  have hv : v < 2 ^ k := by rw [← hv0]; exact Nat.mod_lt _ (Nat.two_pow_pos k)
  have hp : (2 : Nat) ^ k ≤ 2 ^ 24 := Nat.pow_le_pow_right (by decide) hk
  have hp1 := Nat.one_le_two_pow (n := k)
  obtain ⟨i, hi, hiK⟩ : ∃ i, a0 % K = i ∧ i < K := ⟨_, rfl, Nat.mod_lt _ (by omega)⟩
  obtain ⟨j, hj, hjK⟩ : ∃ j, a1 % K = j ∧ j < K := ⟨_, rfl, Nat.mod_lt _ (by omega)⟩
  obtain ⟨one, h1e⟩ : ∃ x, 2 ^ i = x := ⟨_, rfl⟩
  obtain ⟨two, h2e⟩ : ∃ x, 2 ^ j = x := ⟨_, rfl⟩
  obtain ⟨D, hD⟩ : ∃ x, 2 ^ K = x := ⟨_, rfl⟩
  have hDl : D ≤ 2 ^ 29 := by rw [← hD]; exact Nat.pow_le_pow_right (by decide) (by omega)
  have hD1 : 1 ≤ D := by rw [← hD]; exact Nat.one_le_two_pow
  have h1l : one < D := by rw [← h1e, ← hD]; exact Nat.pow_lt_pow_right (by decide) hiK
  have h2l : two < D := by rw [← h2e, ← hD]; exact Nat.pow_lt_pow_right (by decide) hjK
  have hol : one ||| two < D := by rw [← hD] at h1l h2l ⊢; exact Nat.or_lt_two_pow h1l h2l
  obtain ⟨c, hc⟩ : ∃ c, B % 32 * one % D = c := ⟨_, rfl⟩
  have HCI : Hid ((B : Int) % 32 * (one : Int) % 4294967296 % (D : Int) = (c : Int)) := Lib.hid (by
    have hd : D ∣ 4294967296 := by rw [← hD]; exact Nat.pow_dvd_pow 2 (show K ≤ 32 by omega)
    have h := Nat.mod_mod_of_dvd (B % 32 * one) hd
    rw [hc] at h
    have := congrArg (fun x : Nat => (x : Int)) h
    simpa using this)
  have hcl : c < D := by rw [← hc]; exact Nat.mod_lt _ (by omega)
  have hjd := joined_lt v k hv
  have F1 : Finds (joined v k ^^^ one) K := by
    have hs := Chk.short_two k (by omega) i (by omega) i (by omega)
    rw [Nat.or_self, h1e] at hs
    have := finds v k one hk hv (by rw [hK, hD]; exact h1l) hs
    rwa [hK] at this
  have F2 : Finds (joined v k ^^^ (one ||| two)) K := by
    have hs := Chk.short_two k (by omega) i (by omega) j (by omega)
    rw [h1e, h2e] at hs
    have := finds v k (one ||| two) hk hv (by rw [hK, hD]; exact hol) hs
    rwa [hK] at this
  have F3 : c ≠ 0 → Finds (joined v k ^^^ c) K := by
    intro hc0
    have hs := Chk.short_burst k (by omega) i (by omega) (B % 32) (by omega)
    rw [h1e, hK, hD, hc] at hs
    have := finds v k c hk hv (by rw [hK, hD]; exact hcl) (hs hc0)
    rwa [hK] at this
  rw [hK, hD] at hjd
  have HJ : ∀ w : World, Calls Try.prog 16 #[.int .u32 v, .int .i64 k] w fun e w' => e = .returned (.tuple #[.int .u32 (joined v k : Nat), .int .i64 0]) ∧ Below w.heap.size w w' := fun w => Join_yes v k w (by omega) hk hv
  generalize joined v k = p at *
  have r1 : (N : Int) % 25 = (k : Int) := by omega
  have r2 : (k : Int) + 5 = (K : Int) := by omega
  have r3 : (V : Int) % ((2 : Int) ^ k % 4294967296) = (v : Int) := by
    have e : ((2 : Int) ^ k) = ((2 ^ k : Nat) : Int) := by simp
    have e2 : (((2 ^ k : Nat) : Int) % 4294967296) = ((2 ^ k : Nat) : Int) := by omega
    rw [e, e2, ← hv0]; simp
  have h0z : ¬ ((2 : Int) ^ k % 4294967296 = 0) := by
    have e : ((2 : Int) ^ k) = ((2 ^ k : Nat) : Int) := by simp
    rw [e]; omega
  have hK0 : ¬ ((K : Int) = 0) := by omega
  have r4 : (a0 : Int) % (K : Int) = (i : Int) := by rw [← hi]; simp
  have r5 : (a1 : Int) % (K : Int) = (j : Int) := by rw [← hj]; simp
  have r6 : (2 : Int) ^ i = (one : Int) := by rw [← h1e]; simp
  have r7 : (2 : Int) ^ j = (two : Int) := by rw [← h2e]; simp
  have r8 : (2 : Int) ^ K = (D : Int) := by rw [← hD]; simp
  have x1 := u32_xor_nat p one (by omega) (by omega)
  have x2 := u32_or_nat one two (by omega) (by omega)
  have x3 := u32_xor_nat p (one ||| two) (by omega) (by omega)
  have x4 := u32_xor_nat p c (by omega) (by omega)
  have HF1 := Lib.hid F1; have HF2 := Lib.hid F2; have HF3 := Lib.hid F3; have HJ' := Lib.hid HJ
  clear F1 F2 F3 HJ hi hj h1e h2e hD hkN hv0 hp hp1 hv hjd hK
  go_enter Try.func6, Try.ntmps6
  have KB := blk_new w (Obj.cells #[Value.int IntKind.u32 V, Value.int IntKind.u8 N, Value.int IntKind.u8 a0, Value.int IntKind.u8 a1, Value.int IntKind.u8 B] 43)
  have HK := Lib.hid KB; clear KB
  go_upto_region 1 with fail
  go_cut [3] (fun s3 wx => s3 = .int .i64 (k : Int) ∧ wx = w.alloc (Obj.cells #[Value.int IntKind.u32 V, Value.int IntKind.u8 N, Value.int IntKind.u8 a0, Value.int IntKind.u8 a1, Value.int IntKind.u8 B] 43))
  case first =>
    go_wp2_with fail
    go_meet
    exact ⟨by rw [← r1], rfl⟩
  case rest =>
    obtain ⟨rfl, rfl⟩ := hcut
    go_wp2_with (go_at_call 16; refine (HJ'.out _).mono ?_; rintro e w1 ⟨rfl, hb1⟩; have hB1 : Below w.heap.size w w1 := Below.trans (by go_grown) (hb1.mono (by go_size)); have K1 := kb hb1 HK.out; obtain ⟨c0, c1, c2, c3, c4, cf, cl⟩ := blk5 K1; have HK1 := Lib.hid K1; clear K1)
    go_quiet (fail)
    go_wp2_with (go_at_call_of 19 (Value.int .u32 ((p ^^^ one : Nat) : Int)); refine (HF1.out _).mono ?_; rintro e w2 ⟨rfl, hb2⟩; have hB2 : Below w.heap.size w w2 := hB1.trans (Below.trans (drewN_below (Below.refl _ _)) (hb2.mono hB1.size)); have K2 := kb hb2 (show (w1.drewN nq).heap[w.heap.size]? = _ from HK1.out); have HK2 := Lib.hid K2; clear K2)
    refine (HF2.out _).mono ?_
    rintro e w3 ⟨rfl, hb3⟩
    have hB3 : Below w.heap.size w w3 := hB2.trans (hb3.mono hB2.size)
    have K3 := kb hb3 HK2.out
    obtain ⟨d0, d1, d2, d3, d4, df, dl⟩ := blk5 K3
    clear c0 c1 c2 c3 c4 cf cl hb2 hb3 K3 HK1 HK2 hB1 hB2
    have z3 := hB3.size
    go_upto_region 11 with fail
    go_cut [10] (fun s10 wx => s10 = .int .u32 (c : Int) ∧ Below w.heap.size w wx)
    case first =>
      have hz : ¬ ((D : Int) % 4294967296 = 0) := by omega
      go_quiet (fail)
      go_wp2_with fail
      go_meet
      refine ⟨?_, drewN_below hB3⟩
      exact congrArg (Value.int .u32) HCI.out
    case rest =>
      obtain ⟨rfl, hB⟩ := hcut
      have zB := hB.size
      by_cases hc0 : c = 0
      · subst hc0
        go_wp2_with (go_at_call 17; refine (lives_ok _).mono ?_; rintro e w5 ⟨rfl, hb5⟩)
        go_returns
        exact ⟨rfl, hB.trans (hb5.mono zB)⟩
      · have hcz : ((c : Int) == 0) = false := by rw [beq_eq_false_iff_ne]; omega
        have HF4 := Lib.hid (HF3.out hc0)
        clear hc0
        go_wp2_with (first
          | (go_at_call 19; refine (HF4.out _).mono ?_; rintro e w4 ⟨rfl, hb4⟩; have hB4 := hB.trans (hb4.mono zB); have z4 := hB4.size)
          | (go_at_call 17; refine (lives_ok _).mono ?_; rintro e w5 ⟨rfl, hb5⟩))
        go_returns
        exact ⟨rfl, hB4.trans (hb5.mono z4)⟩
end Go.Proofs.Ytolmhlikmjkkfaa
