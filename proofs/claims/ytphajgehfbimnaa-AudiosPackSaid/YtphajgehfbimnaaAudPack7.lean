/-
  plugboardlaw42.AudiosPack: the walk in four of the five other cases (gen_audpack.py prints this text).
-/
import Derived.Test.YtphajgehfbimnaaAudPack6
namespace Go.Proofs.Ytphajgehfbimnaa
open Go.RowKit
set_option linter.unusedVariables false

set_option maxRecDepth 100000 in
set_option maxHeartbeats 4000000 in
theorem audpack_AX (ch by_ : Nat) (a : Option Addr) (l : List Int) (cap : Nat) (a' : Option Addr) (b : List Int) (cap' m : Nat) (w : World) (a1 : 1 ≤ ch) (a2 : ch ≤ 8) (a3 : 1 ≤ by_) (a4 : by_ ≤ 4)
    (hlen : l.length ≤ 60) (hlen' : b.length ≤ 100) (hc : Cells w a (l.map (.int .i32))) (hc' : Cells w a' (b.map (.int .u8))) (hw : ∀ x ∈ l, -2147483648 ≤ x ∧ x ≤ 2147483647) (hz : ∀ x ∈ b, 0 ≤ x ∧ x ≤ 255)
    (hm : l.length % ch ≠ 0) (hd : b.length % (ch * by_) ≠ 0) :
    Calls Try.prog 5 #[.agg #[.int .i64 ch, .int .i64 by_], .slice a l.length cap, .slice a' b.length cap'] w fun e w' => e = .returned (.bool true) ∧ Below w.heap.size w w' := by
  have Hc := Lib.hid hc; clear hc
  have Hc' := Lib.hid hc'; clear hc'
  have Hw := Lib.hid hw; clear hw
  have Hz := Lib.hid hz; clear hz
  have Hm := Lib.hid hm; clear hm
  have Hd := Lib.hid hd; clear hd
  have i1 : (1 : Int) ≤ (ch : Int) := by omega
  have i2 : (ch : Int) ≤ 8 := by omega
  have i3 : (1 : Int) ≤ (by_ : Int) := by omega
  have i4 : (by_ : Int) ≤ 4 := by omega
  have hcb1 : (1 : Int) ≤ (ch : Int) * (by_ : Int) := by
    have h := Int.ofNat_le.2 (Nat.mul_le_mul a1 a3); simpa using h
  have hcb2 : (ch : Int) * (by_ : Int) ≤ 32 := by
    have h := Int.ofNat_le.2 (Nat.mul_le_mul a2 a4); simpa using h
  go_enter Try.func5, Try.ntmps5
  go_wp2_with fail
  refine (pack_width ch by_ a l.length cap _ ⟨by omega, by omega, by omega, by omega⟩ (by have := Hm.out; omega) (by omega)).mono ?_
  rintro e w1 ⟨rfl, hb1⟩
  have K0 := kb hb1 (blk_new w _)
  obtain ⟨e0, e1, ff, hlt⟩ := blk2 K0
  have hB1 : Below w.heap.size w w1 := Below.trans (by go_grown) (hb1.mono (by go_size))
  clear hb1
  go_wp2_with fail
  refine (unpack_width ch by_ a' b.length cap' _ ⟨by omega, by omega, by omega, by omega⟩ (by
    have h := Hd.out
    intro e; exact h (by
      have e' : ((b.length % (ch * by_) : Nat) : Int) = 0 := by simpa using e
      omega)) (by omega) ⟨hcb1, hcb2⟩).mono ?_
  rintro e w2 ⟨rfl, hb2⟩
  replace K0 := kb hb2 K0
  clear e0 e1 ff hlt
  obtain ⟨e0, e1, ff, hlt⟩ := blk2 K0
  replace hB1 := hB1.trans (hb2.mono hB1.size)
  clear hb2
  go_wp2_with fail
  go_loop [13, 14] (fun half i => ∃ k : Nat, k + 1 ≤ 8 * by_ ∧ i = .int .i64 ((k : Int) + 1) ∧ half = .int .i64 ((2 : Int) ^ k)) (fun _ i => 8 * by_ - (intOf i).toNat)
  case atStart => exact ⟨0, by omega, rfl, rfl⟩
  case round =>
    obtain ⟨k, hk, rfl, rfl⟩ := hrel
    have hp1 : (1 : Int) ≤ (2 : Int) ^ k := by have := pow_pos' k; omega
    have hp2 : (2 : Int) ^ k ≤ 2147483648 := by
      have h := Nat.pow_le_pow_right (n := 2) (by decide) (show k ≤ 31 by omega)
      have := Int.ofNat_le.2 h
      simpa using this
    by_cases hlt' : k + 1 < 8 * by_
    · go_wp2_with fail
      go_round
      case rel => exact ⟨k + 1, by omega, by go_num, by rw [Int.pow_succ]⟩
      case measure => simp [intOf]; omega
    · have hk8 : k = 8 * by_ - 1 := by omega
      subst hk8
      clear hlt' hk
      go_wp2_with fail
      go_loop [12, 15] (fun want i => ∃ (k : Nat) (wv : Int), k ≤ l.length ∧ i = .int .i64 k ∧ want = .int .i64 wv ∧ Hid (wv = wantOf (2 ^ (8 * by_ - 1)) (l.take k))) (fun _ i => l.length - (intOf i).toNat)
      case atStart => exact ⟨0, 0, by omega, rfl, rfl, Lib.hid (by simp [wantOf])⟩
      case round =>
        obtain ⟨k, wv, hk, rfl, rfl, HW⟩ := hrel
        by_cases hlt' : k < l.length
        · obtain ⟨bb, off, x, rfl, hx, hxm, hcx, hbx⟩ := (Hc.out.below hB1).get hlt'
          obtain ⟨hw1, hw2⟩ := Hw.out x hxm
          have HX := Lib.hid hx
          clear hx hxm
          rcases Classical.em (x < -(2 : Int) ^ (8 * by_ - 1)) with hlo | hlo
          · go_wp2_with fail
            go_round
            case rel => exact ⟨k + 1, 1, by omega, by go_num, rfl, Lib.hid (by rw [take_snoc HX.out, wantOf_snoc, if_neg (by simp [inr]; omega)])⟩
            case measure => simp [intOf]; omega
          · rcases Classical.em ((2 : Int) ^ (8 * by_ - 1) ≤ x) with hhi | hhi
            · go_wp2_with fail
              go_round
              case rel => exact ⟨k + 1, 1, by omega, by go_num, rfl, Lib.hid (by rw [take_snoc HX.out, wantOf_snoc, if_neg (by simp [inr]; omega)])⟩
              case measure => simp [intOf]; omega
            · go_wp2_with fail
              go_round
              case rel => exact ⟨k + 1, wv, by omega, by go_num, rfl, Lib.hid (by rw [take_snoc HX.out, wantOf_snoc, if_pos (by simp [inr]; omega)]; exact HW.out)⟩
              case measure => simp [intOf]; omega
        · have hkl : k = l.length := by omega
          subst hkl
          clear hlt' hk
          rw [take_all (Nat.le_refl _)] at HW
          have hmI : ((l.length : Int) % (ch : Int) == 0) = false := by have := Hm.out; simp; omega
          have hmI' : ((l.length : Int) % (ch : Int) != 0) = true := by have := Hm.out; simp; omega
          have hdI : ((b.length : Int) % ((ch : Int) * (by_ : Int)) == 0) = false := by
            have h := Hd.out
            simp only [beq_eq_false_iff_ne, ne_eq]
            intro e; exact h (by
              have e' : ((b.length % (ch * by_) : Nat) : Int) = 0 := by simpa using e
              omega)
          have hdI' : ((b.length : Int) % ((ch : Int) * (by_ : Int)) != 0) = true := by
            rw [bne, hdI]; rfl
          clear HW
          go_wp2_with fail
          refine (lives_ok _).mono ?_
          rintro e w6 ⟨rfl, hb6⟩
          go_wp2_with fail
          go_returns
          exact ⟨rfl, Below.trans hB1 (hb6.mono hB1.size)⟩

set_option maxRecDepth 100000 in
set_option maxHeartbeats 4000000 in
theorem audpack_AY (ch by_ : Nat) (a : Option Addr) (l : List Int) (cap : Nat) (a' : Option Addr) (b : List Int) (cap' m : Nat) (w : World) (a1 : 1 ≤ ch) (a2 : ch ≤ 8) (a3 : 1 ≤ by_) (a4 : by_ ≤ 4)
    (hlen : l.length ≤ 60) (hlen' : b.length ≤ 100) (hc : Cells w a (l.map (.int .i32))) (hc' : Cells w a' (b.map (.int .u8))) (hw : ∀ x ∈ l, -2147483648 ≤ x ∧ x ≤ 2147483647) (hz : ∀ x ∈ b, 0 ≤ x ∧ x ≤ 255)
    (hm : l.length % ch ≠ 0) (hd : b.length % (ch * by_) = 0) (hmb : b.length = m * by_) (hn' : a' = none → cap' = 0) :
    Calls Try.prog 5 #[.agg #[.int .i64 ch, .int .i64 by_], .slice a l.length cap, .slice a' b.length cap'] w fun e w' => e = .returned (.bool true) ∧ Below w.heap.size w w' := by
  have Hc := Lib.hid hc; clear hc
  have Hc' := Lib.hid hc'; clear hc'
  have Hw := Lib.hid hw; clear hw
  have Hz := Lib.hid hz; clear hz
  have Hm := Lib.hid hm; clear hm
  have Hd := Lib.hid hd; clear hd
  have Hmb := Lib.hid hmb
  have Hn' := Lib.hid hn'; clear hn'
  have hmle : m ≤ 100 := by
    have := Nat.mul_le_mul_left m a3
    omega
  clear hmb
  have i1 : (1 : Int) ≤ (ch : Int) := by omega
  have i2 : (ch : Int) ≤ 8 := by omega
  have i3 : (1 : Int) ≤ (by_ : Int) := by omega
  have i4 : (by_ : Int) ≤ 4 := by omega
  have hcb1 : (1 : Int) ≤ (ch : Int) * (by_ : Int) := by
    have h := Int.ofNat_le.2 (Nat.mul_le_mul a1 a3); simpa using h
  have hcb2 : (ch : Int) * (by_ : Int) ≤ 32 := by
    have h := Int.ofNat_le.2 (Nat.mul_le_mul a2 a4); simpa using h
  go_enter Try.func5, Try.ntmps5
  go_wp2_with fail
  refine (pack_width ch by_ a l.length cap _ ⟨by omega, by omega, by omega, by omega⟩ (by have := Hm.out; omega) (by omega)).mono ?_
  rintro e w1 ⟨rfl, hb1⟩
  have K0 := kb hb1 (blk_new w _)
  obtain ⟨e0, e1, ff, hlt⟩ := blk2 K0
  have hB1 : Below w.heap.size w w1 := Below.trans (by go_grown) (hb1.mono (by go_size))
  clear hb1
  go_wp2_with fail
  refine (unpack_ok ch by_ a' b cap' m _ a1 a2 a3 a4 Hmb.out (by omega) Hd.out ((Hc'.out.below hB1)) Hz.out).mono ?_
  rintro e w2 ⟨g2, rfl, own2, hb2⟩
  replace K0 := kb hb2 K0
  clear e0 e1 ff hlt
  obtain ⟨e0, e1, ff, hlt⟩ := blk2 K0
  replace hB1 := hB1.trans (hb2.mono hB1.size)
  have C2 := Lib.hid (own_cells own2); clear own2
  clear hb2
  go_wp2_with fail
  go_loop [13, 14] (fun half i => ∃ k : Nat, k + 1 ≤ 8 * by_ ∧ i = .int .i64 ((k : Int) + 1) ∧ half = .int .i64 ((2 : Int) ^ k)) (fun _ i => 8 * by_ - (intOf i).toNat)
  case atStart => exact ⟨0, by omega, rfl, rfl⟩
  case round =>
    obtain ⟨k, hk, rfl, rfl⟩ := hrel
    have hp1 : (1 : Int) ≤ (2 : Int) ^ k := by have := pow_pos' k; omega
    have hp2 : (2 : Int) ^ k ≤ 2147483648 := by
      have h := Nat.pow_le_pow_right (n := 2) (by decide) (show k ≤ 31 by omega)
      have := Int.ofNat_le.2 h
      simpa using this
    by_cases hlt' : k + 1 < 8 * by_
    · go_wp2_with fail
      go_round
      case rel => exact ⟨k + 1, by omega, by go_num, by rw [Int.pow_succ]⟩
      case measure => simp [intOf]; omega
    · have hk8 : k = 8 * by_ - 1 := by omega
      subst hk8
      clear hlt' hk
      go_wp2_with fail
      go_loop [12, 15] (fun want i => ∃ (k : Nat) (wv : Int), k ≤ l.length ∧ i = .int .i64 k ∧ want = .int .i64 wv ∧ Hid (wv = wantOf (2 ^ (8 * by_ - 1)) (l.take k))) (fun _ i => l.length - (intOf i).toNat)
      case atStart => exact ⟨0, 0, by omega, rfl, rfl, Lib.hid (by simp [wantOf])⟩
      case round =>
        obtain ⟨k, wv, hk, rfl, rfl, HW⟩ := hrel
        by_cases hlt' : k < l.length
        · obtain ⟨bb, off, x, rfl, hx, hxm, hcx, hbx⟩ := (Hc.out.below hB1).get hlt'
          obtain ⟨hw1, hw2⟩ := Hw.out x hxm
          have HX := Lib.hid hx
          clear hx hxm
          rcases Classical.em (x < -(2 : Int) ^ (8 * by_ - 1)) with hlo | hlo
          · go_wp2_with fail
            go_round
            case rel => exact ⟨k + 1, 1, by omega, by go_num, rfl, Lib.hid (by rw [take_snoc HX.out, wantOf_snoc, if_neg (by simp [inr]; omega)])⟩
            case measure => simp [intOf]; omega
          · rcases Classical.em ((2 : Int) ^ (8 * by_ - 1) ≤ x) with hhi | hhi
            · go_wp2_with fail
              go_round
              case rel => exact ⟨k + 1, 1, by omega, by go_num, rfl, Lib.hid (by rw [take_snoc HX.out, wantOf_snoc, if_neg (by simp [inr]; omega)])⟩
              case measure => simp [intOf]; omega
            · go_wp2_with fail
              go_round
              case rel => exact ⟨k + 1, wv, by omega, by go_num, rfl, Lib.hid (by rw [take_snoc HX.out, wantOf_snoc, if_pos (by simp [inr]; omega)]; exact HW.out)⟩
              case measure => simp [intOf]; omega
        · have hkl : k = l.length := by omega
          subst hkl
          clear hlt' hk
          rw [take_all (Nat.le_refl _)] at HW
          have hmI : ((l.length : Int) % (ch : Int) == 0) = false := by have := Hm.out; simp; omega
          have hmI' : ((l.length : Int) % (ch : Int) != 0) = true := by have := Hm.out; simp; omega
          have hdI : (b.length : Int) % ((ch : Int) * (by_ : Int)) = 0 := by
            have h := Int.ofNat_inj.2 Hd.out
            simpa using h
          have hmch : m % ch = 0 := by
            have h := Hd.out
            rw [Hmb.out, Nat.mul_mod_mul_right] at h
            rcases Nat.mul_eq_zero.1 h with h | h <;> omega
          clear HW
          go_wp2_with fail
          have hP := pack_ok ch by_ (some ⟨g2, 0, none⟩) (unpackAll by_ b m) m w2 a1 a2 a3 a4 (by rw [unpackAll_length]; omega) (by rw [unpackAll_length]; exact hmch) C2.out (unpack_range a3 Hmb.out Hz.out)
          rw [unpackAll_length, pack_unpack Hz.out m (by rw [Hmb.out]; exact Nat.le_refl _), ← Hmb.out, List.take_length] at hP
          refine hP.mono ?_
          clear hP
          rintro e w5 ⟨g5, rfl, own5, hb5⟩
          have hB5 := hB1.trans (hb5.mono hB1.size)
          have cb := (Hc'.out.below hB1).below hb5
          have s1 : (convert 32 9 (.slice (some ⟨g5, 0, none⟩) b.length b.length)).run Try.prog w5 = .ok (.string (strOfNums b)) w5 := run_str Try.underlying32 Try.underlying5 Try.underlying9 (own_cells own5) rfl (by simp)
          have s2 : (convert 32 9 (.slice a' b.length cap')).run Try.prog w5 = .ok (.string (strOfNums b)) w5 := run_str Try.underlying32 Try.underlying5 Try.underlying9 cb rfl Hn'.out
          have hs5 := hB5.size
          clear hb5 own5 cb
          go_wp2_with fail
          refine (lives_ok _).mono ?_
          rintro e w6 ⟨rfl, hb6⟩
          go_wp2_with fail
          go_returns
          exact ⟨rfl, Below.trans hB5 (hb6.mono hs5)⟩

set_option maxRecDepth 100000 in
set_option maxHeartbeats 4000000 in
theorem audpack_CX (ch by_ : Nat) (a : Option Addr) (l : List Int) (cap : Nat) (a' : Option Addr) (b : List Int) (cap' m : Nat) (w : World) (a1 : 1 ≤ ch) (a2 : ch ≤ 8) (a3 : 1 ≤ by_) (a4 : by_ ≤ 4)
    (hlen : l.length ≤ 60) (hlen' : b.length ≤ 100) (hc : Cells w a (l.map (.int .i32))) (hc' : Cells w a' (b.map (.int .u8))) (hw : ∀ x ∈ l, -2147483648 ≤ x ∧ x ≤ 2147483647) (hz : ∀ x ∈ b, 0 ≤ x ∧ x ≤ 255)
    (hm : l.length % ch = 0) (hr : ¬ ∀ x ∈ l, -(2 : Int) ^ (8 * by_ - 1) ≤ x ∧ x < (2 : Int) ^ (8 * by_ - 1)) (hd : b.length % (ch * by_) ≠ 0) :
    Calls Try.prog 5 #[.agg #[.int .i64 ch, .int .i64 by_], .slice a l.length cap, .slice a' b.length cap'] w fun e w' => e = .returned (.bool true) ∧ Below w.heap.size w w' := by
  have Hc := Lib.hid hc; clear hc
  have Hc' := Lib.hid hc'; clear hc'
  have Hw := Lib.hid hw; clear hw
  have Hz := Lib.hid hz; clear hz
  have Hm := Lib.hid hm; clear hm
  have Hd := Lib.hid hd; clear hd
  have Hr := Lib.hid hr; clear hr
  have i1 : (1 : Int) ≤ (ch : Int) := by omega
  have i2 : (ch : Int) ≤ 8 := by omega
  have i3 : (1 : Int) ≤ (by_ : Int) := by omega
  have i4 : (by_ : Int) ≤ 4 := by omega
  have hcb1 : (1 : Int) ≤ (ch : Int) * (by_ : Int) := by
    have h := Int.ofNat_le.2 (Nat.mul_le_mul a1 a3); simpa using h
  have hcb2 : (ch : Int) * (by_ : Int) ≤ 32 := by
    have h := Int.ofNat_le.2 (Nat.mul_le_mul a2 a4); simpa using h
  go_enter Try.func5, Try.ntmps5
  go_wp2_with fail
  refine (pack_range ch by_ a l cap _ a1 a2 a3 a4 (by omega) Hm.out (Hc.out.below (by go_grown)) Hw.out Hr.out).mono ?_
  rintro e w1 ⟨rfl, hb1⟩
  have K0 := kb hb1 (blk_new w _)
  obtain ⟨e0, e1, ff, hlt⟩ := blk2 K0
  have hB1 : Below w.heap.size w w1 := Below.trans (by go_grown) (hb1.mono (by go_size))
  clear hb1
  go_wp2_with fail
  refine (unpack_width ch by_ a' b.length cap' _ ⟨by omega, by omega, by omega, by omega⟩ (by
    have h := Hd.out
    intro e; exact h (by
      have e' : ((b.length % (ch * by_) : Nat) : Int) = 0 := by simpa using e
      omega)) (by omega) ⟨hcb1, hcb2⟩).mono ?_
  rintro e w2 ⟨rfl, hb2⟩
  replace K0 := kb hb2 K0
  clear e0 e1 ff hlt
  obtain ⟨e0, e1, ff, hlt⟩ := blk2 K0
  replace hB1 := hB1.trans (hb2.mono hB1.size)
  clear hb2
  go_wp2_with fail
  go_loop [13, 14] (fun half i => ∃ k : Nat, k + 1 ≤ 8 * by_ ∧ i = .int .i64 ((k : Int) + 1) ∧ half = .int .i64 ((2 : Int) ^ k)) (fun _ i => 8 * by_ - (intOf i).toNat)
  case atStart => exact ⟨0, by omega, rfl, rfl⟩
  case round =>
    obtain ⟨k, hk, rfl, rfl⟩ := hrel
    have hp1 : (1 : Int) ≤ (2 : Int) ^ k := by have := pow_pos' k; omega
    have hp2 : (2 : Int) ^ k ≤ 2147483648 := by
      have h := Nat.pow_le_pow_right (n := 2) (by decide) (show k ≤ 31 by omega)
      have := Int.ofNat_le.2 h
      simpa using this
    by_cases hlt' : k + 1 < 8 * by_
    · go_wp2_with fail
      go_round
      case rel => exact ⟨k + 1, by omega, by go_num, by rw [Int.pow_succ]⟩
      case measure => simp [intOf]; omega
    · have hk8 : k = 8 * by_ - 1 := by omega
      subst hk8
      clear hlt' hk
      go_wp2_with fail
      go_loop [12, 15] (fun want i => ∃ (k : Nat) (wv : Int), k ≤ l.length ∧ i = .int .i64 k ∧ want = .int .i64 wv ∧ Hid (wv = wantOf (2 ^ (8 * by_ - 1)) (l.take k))) (fun _ i => l.length - (intOf i).toNat)
      case atStart => exact ⟨0, 0, by omega, rfl, rfl, Lib.hid (by simp [wantOf])⟩
      case round =>
        obtain ⟨k, wv, hk, rfl, rfl, HW⟩ := hrel
        by_cases hlt' : k < l.length
        · obtain ⟨bb, off, x, rfl, hx, hxm, hcx, hbx⟩ := (Hc.out.below hB1).get hlt'
          obtain ⟨hw1, hw2⟩ := Hw.out x hxm
          have HX := Lib.hid hx
          clear hx hxm
          rcases Classical.em (x < -(2 : Int) ^ (8 * by_ - 1)) with hlo | hlo
          · go_wp2_with fail
            go_round
            case rel => exact ⟨k + 1, 1, by omega, by go_num, rfl, Lib.hid (by rw [take_snoc HX.out, wantOf_snoc, if_neg (by simp [inr]; omega)])⟩
            case measure => simp [intOf]; omega
          · rcases Classical.em ((2 : Int) ^ (8 * by_ - 1) ≤ x) with hhi | hhi
            · go_wp2_with fail
              go_round
              case rel => exact ⟨k + 1, 1, by omega, by go_num, rfl, Lib.hid (by rw [take_snoc HX.out, wantOf_snoc, if_neg (by simp [inr]; omega)])⟩
              case measure => simp [intOf]; omega
            · go_wp2_with fail
              go_round
              case rel => exact ⟨k + 1, wv, by omega, by go_num, rfl, Lib.hid (by rw [take_snoc HX.out, wantOf_snoc, if_pos (by simp [inr]; omega)]; exact HW.out)⟩
              case measure => simp [intOf]; omega
        · have hkl : k = l.length := by omega
          subst hkl
          clear hlt' hk
          rw [take_all (Nat.le_refl _)] at HW
          have hmI : (l.length : Int) % (ch : Int) = 0 := by have := Hm.out; omega
          have hw1 : wv = 1 := by
            rw [HW.out]; unfold wantOf; rw [if_neg]
            intro h; apply Hr.out; intro x hx
            have := List.all_eq_true.1 h x hx
            simp [inr] at this; omega
          subst hw1
          have hdI : ((b.length : Int) % ((ch : Int) * (by_ : Int)) == 0) = false := by
            have h := Hd.out
            simp only [beq_eq_false_iff_ne, ne_eq]
            intro e; exact h (by
              have e' : ((b.length % (ch * by_) : Nat) : Int) = 0 := by simpa using e
              omega)
          have hdI' : ((b.length : Int) % ((ch : Int) * (by_ : Int)) != 0) = true := by
            rw [bne, hdI]; rfl
          clear HW
          go_wp2_with fail
          refine (lives_ok _).mono ?_
          rintro e w6 ⟨rfl, hb6⟩
          go_wp2_with fail
          go_returns
          exact ⟨rfl, Below.trans hB1 (hb6.mono hB1.size)⟩

set_option maxRecDepth 100000 in
set_option maxHeartbeats 4000000 in
theorem audpack_CY (ch by_ : Nat) (a : Option Addr) (l : List Int) (cap : Nat) (a' : Option Addr) (b : List Int) (cap' m : Nat) (w : World) (a1 : 1 ≤ ch) (a2 : ch ≤ 8) (a3 : 1 ≤ by_) (a4 : by_ ≤ 4)
    (hlen : l.length ≤ 60) (hlen' : b.length ≤ 100) (hc : Cells w a (l.map (.int .i32))) (hc' : Cells w a' (b.map (.int .u8))) (hw : ∀ x ∈ l, -2147483648 ≤ x ∧ x ≤ 2147483647) (hz : ∀ x ∈ b, 0 ≤ x ∧ x ≤ 255)
    (hm : l.length % ch = 0) (hr : ¬ ∀ x ∈ l, -(2 : Int) ^ (8 * by_ - 1) ≤ x ∧ x < (2 : Int) ^ (8 * by_ - 1)) (hd : b.length % (ch * by_) = 0) (hmb : b.length = m * by_) (hn' : a' = none → cap' = 0) :
    Calls Try.prog 5 #[.agg #[.int .i64 ch, .int .i64 by_], .slice a l.length cap, .slice a' b.length cap'] w fun e w' => e = .returned (.bool true) ∧ Below w.heap.size w w' := by
  have Hc := Lib.hid hc; clear hc
  have Hc' := Lib.hid hc'; clear hc'
  have Hw := Lib.hid hw; clear hw
  have Hz := Lib.hid hz; clear hz
  have Hm := Lib.hid hm; clear hm
  have Hd := Lib.hid hd; clear hd
  have Hr := Lib.hid hr; clear hr
  have Hmb := Lib.hid hmb
  have Hn' := Lib.hid hn'; clear hn'
  have hmle : m ≤ 100 := by
    have := Nat.mul_le_mul_left m a3
    omega
  clear hmb
  have i1 : (1 : Int) ≤ (ch : Int) := by omega
  have i2 : (ch : Int) ≤ 8 := by omega
  have i3 : (1 : Int) ≤ (by_ : Int) := by omega
  have i4 : (by_ : Int) ≤ 4 := by omega
  have hcb1 : (1 : Int) ≤ (ch : Int) * (by_ : Int) := by
    have h := Int.ofNat_le.2 (Nat.mul_le_mul a1 a3); simpa using h
  have hcb2 : (ch : Int) * (by_ : Int) ≤ 32 := by
    have h := Int.ofNat_le.2 (Nat.mul_le_mul a2 a4); simpa using h
  go_enter Try.func5, Try.ntmps5
  go_wp2_with fail
  refine (pack_range ch by_ a l cap _ a1 a2 a3 a4 (by omega) Hm.out (Hc.out.below (by go_grown)) Hw.out Hr.out).mono ?_
  rintro e w1 ⟨rfl, hb1⟩
  have K0 := kb hb1 (blk_new w _)
  obtain ⟨e0, e1, ff, hlt⟩ := blk2 K0
  have hB1 : Below w.heap.size w w1 := Below.trans (by go_grown) (hb1.mono (by go_size))
  clear hb1
  go_wp2_with fail
  refine (unpack_ok ch by_ a' b cap' m _ a1 a2 a3 a4 Hmb.out (by omega) Hd.out ((Hc'.out.below hB1)) Hz.out).mono ?_
  rintro e w2 ⟨g2, rfl, own2, hb2⟩
  replace K0 := kb hb2 K0
  clear e0 e1 ff hlt
  obtain ⟨e0, e1, ff, hlt⟩ := blk2 K0
  replace hB1 := hB1.trans (hb2.mono hB1.size)
  have C2 := Lib.hid (own_cells own2); clear own2
  clear hb2
  go_wp2_with fail
  go_loop [13, 14] (fun half i => ∃ k : Nat, k + 1 ≤ 8 * by_ ∧ i = .int .i64 ((k : Int) + 1) ∧ half = .int .i64 ((2 : Int) ^ k)) (fun _ i => 8 * by_ - (intOf i).toNat)
  case atStart => exact ⟨0, by omega, rfl, rfl⟩
  case round =>
    obtain ⟨k, hk, rfl, rfl⟩ := hrel
    have hp1 : (1 : Int) ≤ (2 : Int) ^ k := by have := pow_pos' k; omega
    have hp2 : (2 : Int) ^ k ≤ 2147483648 := by
      have h := Nat.pow_le_pow_right (n := 2) (by decide) (show k ≤ 31 by omega)
      have := Int.ofNat_le.2 h
      simpa using this
    by_cases hlt' : k + 1 < 8 * by_
    · go_wp2_with fail
      go_round
      case rel => exact ⟨k + 1, by omega, by go_num, by rw [Int.pow_succ]⟩
      case measure => simp [intOf]; omega
    · have hk8 : k = 8 * by_ - 1 := by omega
      subst hk8
      clear hlt' hk
      go_wp2_with fail
      go_loop [12, 15] (fun want i => ∃ (k : Nat) (wv : Int), k ≤ l.length ∧ i = .int .i64 k ∧ want = .int .i64 wv ∧ Hid (wv = wantOf (2 ^ (8 * by_ - 1)) (l.take k))) (fun _ i => l.length - (intOf i).toNat)
      case atStart => exact ⟨0, 0, by omega, rfl, rfl, Lib.hid (by simp [wantOf])⟩
      case round =>
        obtain ⟨k, wv, hk, rfl, rfl, HW⟩ := hrel
        by_cases hlt' : k < l.length
        · obtain ⟨bb, off, x, rfl, hx, hxm, hcx, hbx⟩ := (Hc.out.below hB1).get hlt'
          obtain ⟨hw1, hw2⟩ := Hw.out x hxm
          have HX := Lib.hid hx
          clear hx hxm
          rcases Classical.em (x < -(2 : Int) ^ (8 * by_ - 1)) with hlo | hlo
          · go_wp2_with fail
            go_round
            case rel => exact ⟨k + 1, 1, by omega, by go_num, rfl, Lib.hid (by rw [take_snoc HX.out, wantOf_snoc, if_neg (by simp [inr]; omega)])⟩
            case measure => simp [intOf]; omega
          · rcases Classical.em ((2 : Int) ^ (8 * by_ - 1) ≤ x) with hhi | hhi
            · go_wp2_with fail
              go_round
              case rel => exact ⟨k + 1, 1, by omega, by go_num, rfl, Lib.hid (by rw [take_snoc HX.out, wantOf_snoc, if_neg (by simp [inr]; omega)])⟩
              case measure => simp [intOf]; omega
            · go_wp2_with fail
              go_round
              case rel => exact ⟨k + 1, wv, by omega, by go_num, rfl, Lib.hid (by rw [take_snoc HX.out, wantOf_snoc, if_pos (by simp [inr]; omega)]; exact HW.out)⟩
              case measure => simp [intOf]; omega
        · have hkl : k = l.length := by omega
          subst hkl
          clear hlt' hk
          rw [take_all (Nat.le_refl _)] at HW
          have hmI : (l.length : Int) % (ch : Int) = 0 := by have := Hm.out; omega
          have hw1 : wv = 1 := by
            rw [HW.out]; unfold wantOf; rw [if_neg]
            intro h; apply Hr.out; intro x hx
            have := List.all_eq_true.1 h x hx
            simp [inr] at this; omega
          subst hw1
          have hdI : (b.length : Int) % ((ch : Int) * (by_ : Int)) = 0 := by
            have h := Int.ofNat_inj.2 Hd.out
            simpa using h
          have hmch : m % ch = 0 := by
            have h := Hd.out
            rw [Hmb.out, Nat.mul_mod_mul_right] at h
            rcases Nat.mul_eq_zero.1 h with h | h <;> omega
          clear HW
          go_wp2_with fail
          have hP := pack_ok ch by_ (some ⟨g2, 0, none⟩) (unpackAll by_ b m) m w2 a1 a2 a3 a4 (by rw [unpackAll_length]; omega) (by rw [unpackAll_length]; exact hmch) C2.out (unpack_range a3 Hmb.out Hz.out)
          rw [unpackAll_length, pack_unpack Hz.out m (by rw [Hmb.out]; exact Nat.le_refl _), ← Hmb.out, List.take_length] at hP
          refine hP.mono ?_
          clear hP
          rintro e w5 ⟨g5, rfl, own5, hb5⟩
          have hB5 := hB1.trans (hb5.mono hB1.size)
          have cb := (Hc'.out.below hB1).below hb5
          have s1 : (convert 32 9 (.slice (some ⟨g5, 0, none⟩) b.length b.length)).run Try.prog w5 = .ok (.string (strOfNums b)) w5 := run_str Try.underlying32 Try.underlying5 Try.underlying9 (own_cells own5) rfl (by simp)
          have s2 : (convert 32 9 (.slice a' b.length cap')).run Try.prog w5 = .ok (.string (strOfNums b)) w5 := run_str Try.underlying32 Try.underlying5 Try.underlying9 cb rfl Hn'.out
          have hs5 := hB5.size
          clear hb5 own5 cb
          go_wp2_with fail
          refine (lives_ok _).mono ?_
          rintro e w6 ⟨rfl, hb6⟩
          go_wp2_with fail
          go_returns
          exact ⟨rfl, Below.trans hB5 (hb6.mono hs5)⟩

end Go.Proofs.Ytphajgehfbimnaa
