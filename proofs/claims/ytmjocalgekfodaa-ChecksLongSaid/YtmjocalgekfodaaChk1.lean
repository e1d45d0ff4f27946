/-
  The contracts of package checks' shorter check (plugboardlaw02).
-/
import Derived.Test.YtmjocalgekfodaaProg
import Derived.Test.YtmjocalgekfodaaKA
import Derived.Test.YtmjocalgekfodaaChkD
import Derived.Laws.BitsAllLaws
namespace Go.Proofs.Ytmjocalgekfodaa
open Go.RowKit
set_option linter.unusedVariables false

theorem and1_u8 (n : Nat) (h : n < 256) : bits .and .u8 (n : Int) 1 = ((n % 2 : Nat) : Int) := by
  have := u8_and_nat n 1 h (by decide)
  rw [Nat.and_one_is_mod] at this
  exact this

theorem and1_u32 (v k : Nat) (h : v < 4294967296) : bits .and .u32 ((v : Int) / 2 ^ k) 1 = ((v / 2 ^ k % 2 : Nat) : Int) := by
  have h1 : v / 2 ^ k < 4294967296 := Nat.lt_of_le_of_lt (Nat.div_le_self _ _) h
  have := u32_and_nat (v / 2 ^ k) 1 h1 (by decide)
  rw [Nat.and_one_is_mod] at this
  rw [← this]
  simp

theorem ret_int {k : IntKind} {a b : Int} (h : a = b) : Ending.returned (.int k a) = .returned (.int k b) := by rw [h]

set_option maxRecDepth 100000 in
set_option maxHeartbeats 400000 in
theorem step8_ok (P r b : Nat) (hP : P < 256) (hr : r < 256) (hb : b < 2) (w : World) :
    Calls Try.prog 84 #[.int .u8 r, .int .u8 P, .int .u8 b] w fun e w' => e = .returned (.int .u8 (Chk.stp P r b : Nat)) ∧ w = w' := by
  have hx := u8_xor_nat r b hr (by omega)
  have hlt : r ^^^ b < 256 := Nat.xor_lt_two_pow (n := 8) hr (by omega)
  have hy := and1_u8 (r ^^^ b) hlt
  have hs : (r : Int) / 2 = ((r >>> 1 : Nat) : Int) := by rw [Nat.shiftRight_eq_div_pow]; omega
  have hz := u8_xor_nat (r >>> 1) P (by rw [Nat.shiftRight_eq_div_pow]; omega) hP
  rw [← hs] at hz
  have Hs := Lib.hid hs; clear hs
  by_cases h : (r ^^^ b) % 2 = 1
  · have HS : Hid (Chk.stp P r b = r >>> 1 ^^^ P) := Lib.hid (by unfold Chk.stp; rw [if_pos h])
    rw [h] at hy
    clear h hlt
    go_enter Try.func84, Try.ntmps84
    go_wp2_with fail
    go_returns
    exact ⟨ret_int (by rw [HS.out]; first | rfl | exact hz), rfl⟩
  · have HS : Hid (Chk.stp P r b = r >>> 1) := Lib.hid (by unfold Chk.stp; rw [if_neg h])
    have h0 : (r ^^^ b) % 2 = 0 := by omega
    rw [h0] at hy
    clear h h0 hlt
    go_enter Try.func84, Try.ntmps84
    go_wp2_with fail
    go_returns
    exact ⟨ret_int (by rw [HS.out]; exact Hs.out), rfl⟩

set_option maxRecDepth 100000 in
set_option maxHeartbeats 400000 in
theorem five1_ok (g r b : Nat) (e : TypeId) (w : World) (hg : w.heap[g]? = some (.cells #[.int .u8 r] e (0, 0))) (hr : r < 256) (hb : b < 2) :
    Calls Try.prog 83 #[.int .u8 b, .pointer (some ⟨g, 0, none⟩)] w fun e w' => e = .returned (.tuple #[]) ∧ w' = w.setCell ⟨g, 0, none⟩ (.int .u8 (Chk.stp 20 r b : Nat)) := by
  have e0 := blk_cell hg 0
  have ff := blk_frozen hg
  have hlt := (Array.getElem?_eq_some_iff.1 hg).1
  simp at e0
  clear hg
  go_enter Try.func83, Try.ntmps83
  go_wp2_with (go_at_call 84; refine (step8_ok 20 r b (by decide) hr hb _).mono ?_; rintro e w1 ⟨rfl, rfl⟩)
  go_returns
  exact ⟨rfl, rfl⟩

set_option maxRecDepth 100000 in
set_option maxHeartbeats 400000 in
theorem bits_ok (v n g r : Nat) (e : TypeId) (w : World) (hv : v < 4294967296) (hn : n ≤ 32) (hg : w.heap[g]? = some (.cells #[.int .u8 r] e (0, 0))) (hr : r < 32) :
    Calls Try.prog 82 #[.int .u32 v, .int .i64 n, .func (.func 83) #[] #[.pointer (some ⟨g, 0, none⟩)]] w fun e' w' => e' = .returned (.tuple #[]) ∧ w'.heap[g]? = some (.cells #[.int .u8 (Chk.run 20 r (Chk.bitsN v n) : Nat)] e (0, 0)) ∧ Fr (fun k => k = g) w w' := by
  go_enter Try.func82, Try.ntmps82
  go_wp2_with fail
  go_loopw [8] (fun i wr => ∃ k : Nat, k ≤ n ∧ i = .int .i64 k ∧ Hid (wr.heap[g]? = some (.cells #[.int .u8 (Chk.run 20 r (Chk.bitsN v k) : Nat)] e (0, 0))) ∧ Hid (Fr (fun k => k = g) w wr)) (fun i _ => n - (intOf i).toNat)
  case atStart => exact ⟨0, by omega, rfl, Lib.hid hg, Lib.hid (Fr.refl _ _)⟩
  case round =>
    obtain ⟨k, hk, rfl, HG, HF⟩ := hrel
    by_cases hlt : k < n
    · have hk32 : (k : Int) < 32 := by omega
      obtain ⟨b, hb, hb2⟩ : ∃ b : Nat, v / 2 ^ k % 2 = b ∧ b < 2 := ⟨_, rfl, Nat.mod_lt _ (by decide)⟩
      have hbit := and1_u32 v k hv
      rw [hb] at hbit
      have hm : (b : Int) % 256 = b := by omega
      have HB : Hid (Chk.run 20 r (Chk.bitsN v (k + 1)) = Chk.stp 20 (Chk.run 20 r (Chk.bitsN v k)) b) := Lib.hid (by rw [Chk.bitsN_succ, Chk.run_snoc, hb])
      have hrk := Chk.run_lt 20 5 (by decide) (Chk.bitsN v k) r hr
      clear hb
      go_wp2_with (go_at_call 83; refine (five1_ok g (Chk.run 20 r (Chk.bitsN v k)) b e _ HG.out (by omega) hb2).mono ?_; rintro e w1 ⟨rfl, rfl⟩)
      go_roundw
      case rel =>
        refine ⟨k + 1, by omega, by go_num, Lib.hid ?_, Lib.hid ?_⟩
        · have := blk_set (o := 0) HG.out (.int .u8 (Chk.stp 20 (Chk.run 20 r (Chk.bitsN v k)) b : Nat))
          rw [HB.out]
          simpa using this
        · exact HF.out.trans (Fr.setCell _ _ _ rfl)
      case measure => simp [intOf]; omega
    · obtain rfl : k = n := by omega
      clear hlt hk
      go_wp2_with fail
      go_returns
      exact ⟨rfl, HG.out, HF.out⟩

set_option maxRecDepth 100000 in
set_option maxHeartbeats 400000 in
theorem five_ok (v n : Nat) (w : World) (hv : v < 4294967296) (hn : n ≤ 32) :
    Calls Try.prog 76 #[.int .u32 v, .int .i64 n] w fun e w' => e = .returned (.int .u8 (Chk.five v n : Nat)) ∧ Below w.heap.size w w' := by
  go_enter Try.func76, Try.ntmps76
  go_wp2_with (go_at_call 82; refine (bits_ok v n w.heap.size 31 5 _ hv hn (blk_new w _) (by decide)).mono ?_; rintro e w1 ⟨rfl, hg1, hF⟩; have e1 := blk_cell hg1 0; simp at e1; have f1 := blk_frozen hg1; have hB : Below w.heap.size w w1 := Below.trans (by go_grown) (hF.below (by simp) (fun k hk => by omega)); have hlt := Chk.run_lt 20 5 (by decide) (Chk.bitsN v n) 31 (by decide); have hx := u8_xor_nat (Chk.run 20 31 (Chk.bitsN v n)) 31 (by omega) (by decide))
  go_returns
  exact ⟨ret_int (by first | rfl | exact hx), hB⟩

def fitsB (v : Nat) (n : Int) (most : Nat) : Bool := decide (0 ≤ n ∧ n ≤ most ∧ v / 2 ^ n.toNat = 0)

set_option maxRecDepth 100000 in
set_option maxHeartbeats 400000 in
theorem fits_ok (v : Nat) (n : Int) (most : Nat) (w : World) (hv : v < 4294967296) (hm : most ≤ 32) :
    Calls Try.prog 75 #[.int .u32 v, .int .i64 n, .int .i64 most] w fun e w' => e = .returned (.bool (fitsB v n most)) ∧ w = w' := by
  by_cases h0 : 0 ≤ n
  · by_cases h1 : n ≤ most
    · obtain ⟨k, rfl⟩ := Int.eq_ofNat_of_zero_le h0
      have hk32 : (k : Int) < 32 ∨ (k : Int) = 32 := by omega
      by_cases h2 : v / 2 ^ k = 0
      · have HF : Hid (fitsB v k most = true) := Lib.hid (by unfold fitsB; rw [decide_eq_true_iff]; exact ⟨h0, h1, by simpa using h2⟩)
        have hz : (v : Int) / 2 ^ k = 0 := by have := congrArg (fun x : Nat => (x : Int)) h2; simpa using this
        have hk : (k : Int) ≤ 32 := by omega
        clear h2 hk32
        go_enter Try.func75, Try.ntmps75
        go_wp2_with fail
        go_returns
        exact ⟨by rw [HF.out]; rfl, rfl⟩
      · have HF : Hid (fitsB v k most = false) := Lib.hid (by unfold fitsB; rw [decide_eq_false_iff_not]; rintro ⟨-, -, h⟩; exact h2 (by simpa using h))
        have hz : ((v : Int) / 2 ^ k == 0) = false := by
          rw [beq_eq_false_iff_ne]; intro h
          apply h2
          have : ((v / 2 ^ k : Nat) : Int) = 0 := by simpa using h
          omega
        have hk : (k : Int) ≤ 32 := by omega
        clear h2 hk32
        go_enter Try.func75, Try.ntmps75
        go_wp2_with fail
        go_returns
        exact ⟨by rw [HF.out]; rfl, rfl⟩
    · have HF : Hid (fitsB v n most = false) := Lib.hid (by unfold fitsB; rw [decide_eq_false_iff_not]; rintro ⟨-, h, -⟩; exact h1 h)
      go_enter Try.func75, Try.ntmps75
      go_wp2_with fail
      go_returns
      exact ⟨by rw [HF.out]; rfl, rfl⟩
  · have HF : Hid (fitsB v n most = false) := Lib.hid (by unfold fitsB; rw [decide_eq_false_iff_not]; rintro ⟨h, -, -⟩; exact h0 h)
    go_enter Try.func75, Try.ntmps75
    go_wp2_with fail
    go_returns
    exact ⟨by rw [HF.out]; rfl, rfl⟩
end Go.Proofs.Ytmjocalgekfodaa

