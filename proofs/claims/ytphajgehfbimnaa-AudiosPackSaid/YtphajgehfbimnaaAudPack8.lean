/-
  plugboardlaw42.AudiosPack: the walk in the last case (gen_audpack.py prints it), and the walk in all.
-/
import Derived.Test.YtphajgehfbimnaaAudPack7
namespace Go.Proofs.Ytphajgehfbimnaa
open Go.RowKit
set_option linter.unusedVariables false

set_option maxRecDepth 100000 in
set_option maxHeartbeats 4000000 in
theorem audpack_BX (ch by_ : Nat) (a : Option Addr) (l : List Int) (cap : Nat) (a' : Option Addr) (b : List Int) (cap' m : Nat) (w : World) (a1 : 1 ≤ ch) (a2 : ch ≤ 8) (a3 : 1 ≤ by_) (a4 : by_ ≤ 4)
    (hlen : l.length ≤ 60) (hlen' : b.length ≤ 100) (hc : Cells w a (l.map (.int .i32))) (hc' : Cells w a' (b.map (.int .u8))) (hw : ∀ x ∈ l, -2147483648 ≤ x ∧ x ≤ 2147483647) (hz : ∀ x ∈ b, 0 ≤ x ∧ x ≤ 255)
    (hm : l.length % ch = 0) (hr : ∀ x ∈ l, -(2 : Int) ^ (8 * by_ - 1) ≤ x ∧ x < (2 : Int) ^ (8 * by_ - 1)) (hd : b.length % (ch * by_) ≠ 0) :
    Calls Try.prog 5 #[.agg #[.int .i64 ch, .int .i64 by_], .slice a l.length cap, .slice a' b.length cap'] w fun e w' => e = .returned (.bool true) ∧ Below w.heap.size w w' := by
  have Hc := Lib.hid hc; clear hc
  have Hc' := Lib.hid hc'; clear hc'
  have Hw := Lib.hid hw; clear hw
  have Hz := Lib.hid hz; clear hz
  have Hm := Lib.hid hm
  have Hr := Lib.hid hr; clear hr
  have Hd := Lib.hid hd
  clear hm hd
  have i1 : (1 : Int) ≤ (ch : Int) := by omega
  have i2 : (ch : Int) ≤ 8 := by omega
  have i3 : (1 : Int) ≤ (by_ : Int) := by omega
  have i4 : (by_ : Int) ≤ 4 := by omega
  go_enter Try.func5, Try.ntmps5
  go_wp2_with fail
  refine (pack_ok ch by_ a l cap _ a1 a2 a3 a4 (by omega) Hm.out (Hc.out.below (by go_grown)) Hr.out).mono ?_
  rintro e w1 ⟨g, rfl, own1, hb1⟩
  have K0 := kb hb1 (blk_new w _)
  obtain ⟨e0, e1, ff, hlt⟩ := blk2 K0
  have hB1 : Below w.heap.size w w1 := Below.trans (by go_grown) (hb1.mono (by go_size))
  have hs1 := hb1.size
  simp only [World.size_alloc] at hs1
  replace own1 := own_base own1 (base' := w.heap.size + 1) (by simp)
  clear hb1
  go_wp2_with fail
  have hcb1 : (1 : Int) ≤ (ch : Int) * (by_ : Int) := by
    have h := Int.ofNat_le.2 (Nat.mul_le_mul a1 a3); simpa using h
  have hcb2 : (ch : Int) * (by_ : Int) ≤ 32 := by
    have h := Int.ofNat_le.2 (Nat.mul_le_mul a2 a4); simpa using h
  refine (unpack_width ch by_ a' b.length cap' _ ⟨by omega, by omega, by omega, by omega⟩ (by
    have h := Hd.out
    intro e; exact h (by
      have e' : ((b.length % (ch * by_) : Nat) : Int) = 0 := by simpa using e
      omega)) (by omega) ⟨hcb1, hcb2⟩).mono ?_
  rintro e w2 ⟨rfl, hb2⟩
  replace K0 := kb hb2 K0
  clear e0 e1 ff hlt
  obtain ⟨e0, e1, ff, hlt⟩ := blk2 K0
  replace hB1 := hB1.trans (hb2.mono hB1.size)
  have hs2 := hb2.size
  have c1 := (own_cells own1).below hb2
  clear hb2
  go_wp2_with fail
  go_loop [13, 14] (fun half i => ∃ k : Nat, k + 1 ≤ 8 * by_ ∧ i = .int .i64 ((k : Int) + 1) ∧ half = .int .i64 ((2 : Int) ^ k)) (fun _ i => 8 * by_ - (intOf i).toNat)
  case atStart => exact ⟨0, by omega, rfl, rfl⟩
  case round =>
    obtain ⟨k, hk, rfl, rfl⟩ := hrel
    have hp1 : (1 : Int) ≤ (2 : Int) ^ k := by have := pow_pos' k; omega
    have hp2 : (2 : Int) ^ k ≤ 2147483648 := by
      have h := Nat.pow_le_pow_right (n := 2) (by decide) (show k ≤ 31 by omega)
      have := Int.ofNat_le.2 h
      simpa using this
    by_cases hlt' : k + 1 < 8 * by_
    · go_wp2_with fail
      go_round
      case rel => exact ⟨k + 1, by omega, by go_num, by rw [Int.pow_succ]⟩
      case measure => simp [intOf]; omega
    · have hk8 : k = 8 * by_ - 1 := by omega
      subst hk8
      clear hlt' hk
      go_wp2_with fail
      go_loop [12, 15] (fun want i => ∃ k : Nat, k ≤ l.length ∧ i = .int .i64 k ∧ want = .int .i64 0) (fun _ i => l.length - (intOf i).toNat)
      case atStart => exact ⟨0, by omega, rfl, rfl⟩
      case round =>
        obtain ⟨k, hk, rfl, rfl⟩ := hrel
        by_cases hlt' : k < l.length
        · obtain ⟨bb, off, x, rfl, hx, hxm, hcx, hbx⟩ := (Hc.out.below hB1).get hlt'
          obtain ⟨hr1, hr2⟩ := Hr.out x hxm
          obtain ⟨hw1, hw2⟩ := Hw.out x hxm
          clear hx hxm
          go_wp2_with fail
          go_round
          case rel => exact ⟨k + 1, by omega, by go_num, rfl⟩
          case measure => simp [intOf]; omega
        · have hkl : k = l.length := by omega
          subst hkl
          clear hlt' hk
          have hmI : (l.length : Int) % (ch : Int) = 0 := by have := Hm.out; omega
          go_wp2_with fail
          have hU := unpack_ok ch by_ (some ⟨g, 0, none⟩) (packAll by_ l) (l.length * by_) l.length w2 a1 a2 a3 a4 (packAll_length _ _) (by omega) (by rw [packAll_length, Nat.mul_mod_mul_right, Hm.out, Nat.zero_mul]) c1 (packAll_bytes _ _)
          rw [packAll_length, unpack_pack a3 Hr.out] at hU
          refine hU.mono ?_
          clear hU
          rintro e w3 ⟨g3, rfl, own3, hb3⟩
          replace K0 := kb hb3 K0
          clear e0 e1 ff hlt
          obtain ⟨e0, e1, ff, hlt⟩ := blk2 K0
          replace hB1 := hB1.trans (hb3.mono hB1.size)
          have C1 := Lib.hid (c1.below hb3)
          have C3 := Lib.hid (own_cells own3)
          have hs3 := hb3.size
          clear hb3 c1
          have Own1 := Lib.hid own1; clear own1
          have Own3 := Lib.hid own3; clear own3
          have hpN : l.length * by_ ≤ 60 * 4 := Nat.mul_le_mul hlen a4
          have hp : 0 ≤ (l.length : Int) * (by_ : Int) := Int.mul_nonneg (by omega) (by omega)
          have hp2 : (l.length : Int) * (by_ : Int) ≤ 240 := by have h := Int.ofNat_le.2 hpN; simpa using h
          go_wp2_with fail
          go_loopw [18] (fun i wr => ∃ k : Nat, k ≤ l.length ∧ i = .int .i64 k ∧ Below w3.heap.size w3 wr) (fun i _ => l.length - (intOf i).toNat)
          case atStart => exact ⟨0, by omega, rfl, Below.refl _ _⟩
          case round =>
            obtain ⟨k, hk, rfl, hBr⟩ := hrel
            have HBr := Lib.hid hBr
            replace K0 := kb hBr K0
            clear e0 e1 ff hlt
            obtain ⟨e0, e1, ff, hlt⟩ := blk2 K0
            by_cases hlt' : k < l.length
            · obtain ⟨bb, off, x, rfl, hx, hxm, hcx, hbx⟩ := ((Hc.out.below hB1).below hBr).get hlt'
              obtain ⟨bb3, off3, x3, hh, hx3, _, hcx3, hbx3⟩ := (C3.out.below hBr).get hlt'
              simp only [Option.some.injEq, Addr.mk.injEq, and_true] at hh
              obtain ⟨rfl, rfl⟩ := hh
              obtain rfl : x = x3 := by rw [hx] at hx3; simpa using hx3
              obtain ⟨hr1, hr2⟩ := Hr.out x hxm
              obtain ⟨hw1, hw2⟩ := Hw.out x hxm
              have HX := Lib.hid hx
              clear hx hx3 hxm hBr
              simp only [Nat.zero_add] at hcx3
              go_wp2_with fail
              go_quiet (fail)
              go_wp2_with fail
              obtain ⟨X, hX⟩ : ∃ X, X = x % (2 : Int) ^ (8 * by_) := ⟨_, rfl⟩
              have hX0 : 0 ≤ X := by rw [hX]; exact Int.emod_nonneg _ (by have := pow_pos' (8 * by_); omega)
              have hX1 : X < 2 ^ (8 * by_) := by rw [hX]; exact Int.emod_lt_of_pos _ (pow_pos' _)
              have hX2 : X < 4294967296 := by have := pow_split a3; omega
              have HXX := Lib.hid hX; clear hX
              have HX1 := Lib.hid hX1; clear hX1
              have hq1 : 0 ≤ (k : Int) * (by_ : Int) := Int.mul_nonneg (by omega) (by omega)
              have hqN : k * by_ + by_ ≤ 240 := by
                have := Nat.mul_le_mul_right by_ (Nat.succ_le_of_lt hlt')
                rw [Nat.succ_mul] at this; omega
              have hq2 : (k : Int) * (by_ : Int) + (by_ : Int) ≤ 240 := by have h := Int.ofNat_le.2 hqN; simpa using h
              go_loop [19, 20] (fun n i => ∃ (j : Nat) (t : Int), i = .int .i64 t ∧ Hid (t = (j : Int) - 1) ∧ j ≤ by_ ∧ n = .int .i64 (X / 2 ^ (8 * j))) (fun _ i => (intOf i + 1).toNat)
              case atStart => exact ⟨by_, (by_ : Int) - 1, rfl, Lib.hid rfl, Nat.le_refl _, by rw [Int.ediv_eq_zero_of_lt hX0 HX1.out]⟩
              case round =>
                obtain ⟨j, t, rfl, ht, hj, rfl⟩ := hrel
                cases j with
                | zero =>
                  have ht0 := ht.out
                  simp at ht0
                  subst ht0
                  clear ht
                  rw [Nat.mul_zero, Int.pow_zero, Int.ediv_one]
                  rcases Int.lt_or_le x 0 with hneg | hpos
                  · have hXe : X = x + 2 * 2 ^ (8 * by_ - 1) := by
                      rw [HXX.out, ← Int.add_emod_right, Int.emod_eq_of_lt] <;> have := pow_split a3 <;> omega
                    rw [hXe]
                    clear hX0 hX2 hXe
                    go_wp2_with fail
                    go_roundw
                    case rel => exact ⟨k + 1, by omega, by go_num, drewN_below HBr.out⟩
                    case measure => simp [intOf]; omega
                  · have hXe : X = x := by
                      rw [HXX.out, Int.emod_eq_of_lt] <;> have := pow_split a3 <;> omega
                    rw [hXe]
                    clear hX0 hX2 hXe
                    go_wp2_with fail
                    go_roundw
                    case rel => exact ⟨k + 1, by omega, by go_num, drewN_below HBr.out⟩
                    case measure => simp [intOf]; omega
                | succ s =>
                  have ht0 : t = (s : Int) := by have := ht.out; omega
                  subst ht0
                  clear ht
                  have hcb := (C1.out.below HBr.out).atIdx (packAll_get HX.out (show s < by_ by omega))
                  simp only [Nat.zero_add] at hcb
                  have hlb := cell_lt hcb
                  have hstep : X / 2 ^ (8 * (s + 1)) * 256 + x / 2 ^ (8 * s) % 256 = X / 2 ^ (8 * s) := by
                    have e1 : (2 : Int) ^ (8 * (s + 1)) = 2 ^ (8 * s) * 256 := by rw [Nat.mul_succ, Int.pow_add]; rfl
                    have e2 : X / 2 ^ (8 * (s + 1)) = X / 2 ^ (8 * s) / 256 := by rw [e1, Int.ediv_ediv_of_nonneg (by have := pow_pos' (8 * s); omega)]
                    have e3 : x / 2 ^ (8 * s) % 256 = X / 2 ^ (8 * s) % 256 := by
                      have hd : (2 : Int) ^ (8 * by_) = 2 ^ (8 * s) * (256 * 2 ^ (8 * (by_ - s - 1))) := by
                        rw [← Int.mul_assoc, ← e1, ← Int.pow_add]; congr 1; omega
                      have hx' : x = X + 2 ^ (8 * s) * (256 * (2 ^ (8 * (by_ - s - 1)) * (x / 2 ^ (8 * by_)))) := by
                        have h := (Int.mul_ediv_add_emod x (2 ^ (8 * by_))).symm
                        rw [← HXX.out] at h
                        rw [← Int.mul_assoc, ← Int.mul_assoc, Int.mul_assoc _ 256, ← hd]
                        omega
                      conv => lhs; rw [hx', Int.add_mul_ediv_left _ _ (by have := pow_pos' (8 * s); omega), Int.add_mul_emod_self_left]
                    rw [e2, e3]; omega
                  have hq0 : 0 ≤ X / 2 ^ (8 * (s + 1)) := Int.ediv_nonneg hX0 (by have := pow_pos' (8 * (s + 1)); omega)
                  have hq3 : X / 2 ^ (8 * (s + 1)) ≤ X := Int.ediv_le_self _ hX0
                  have Hstep := Lib.hid hstep; clear hstep
                  have hbnd : (k : Int) * (by_ : Int) + (s : Int) < (l.length : Int) * (by_ : Int) := by
                    have h := Int.ofNat_le.2 (show k * by_ + by_ ≤ l.length * by_ by have := Nat.mul_le_mul_right by_ (Nat.succ_le_of_lt hlt'); rwa [Nat.succ_mul] at this)
                    simp at h; omega
                  go_wp2_with fail
                  go_round
                  case rel => exact ⟨s, (s : Int) - 1, rfl, Lib.hid rfl, by omega, by rw [Hstep.out]⟩
                  case measure => simp [intOf] <;> omega
            · have hkl : k = l.length := by omega
              subst hkl
              clear hlt' hk
              have hdI : ((b.length : Int) % ((ch : Int) * (by_ : Int)) == 0) = false := by
                have h := Hd.out
                simp only [beq_eq_false_iff_ne, ne_eq]
                intro e; exact h (by
                  have e' : ((b.length % (ch * by_) : Nat) : Int) = 0 := by simpa using e
                  omega)
              have hdI' : ((b.length : Int) % ((ch : Int) * (by_ : Int)) != 0) = true := by
                rw [bne, hdI]; rfl
              have hB5 := hB1.trans (hBr.mono hB1.size)
              have hs5 := hB5.size
              clear hBr
              go_wp2_with fail
              refine (lives_ok _).mono ?_
              rintro e w6 ⟨rfl, hb6⟩
              go_wp2_with fail
              go_returns
              exact ⟨rfl, Below.trans hB5 (hb6.mono hs5)⟩

theorem audpack_walk (ch by_ : Int) (a : Option Addr) (l : List Int) (cap : Nat) (a' : Option Addr) (b : List Int) (cap' : Nat) (w : World)
    (hlen : l.length ≤ 9223372036854775807) (hlen' : b.length ≤ 9223372036854775807) (hc : Cells w a (l.map (.int .i32))) (hc' : Cells w a' (b.map (.int .u8))) (hw : ∀ x ∈ l, -2147483648 ≤ x ∧ x ≤ 2147483647) (hz : ∀ x ∈ b, 0 ≤ x ∧ x ≤ 255)
    (hn' : a' = none → cap' = 0) :
    Calls Try.prog 5 #[.agg #[.int .i64 ch, .int .i64 by_], .slice a l.length cap, .slice a' b.length cap'] w fun e w' => e = .returned (.bool true) ∧ Below w.heap.size w w' := by
  by_cases hl : 60 < l.length ∨ 100 < b.length
  · exact audpack_long ch by_ a _ cap a' _ cap' w hl hlen hlen'
  have hl1 : l.length ≤ 60 := by omega
  have hl2 : b.length ≤ 100 := by omega
  by_cases hf : fmtOk ch by_
  · obtain ⟨a1, a2, a3, a4⟩ := hf
    obtain ⟨c, rfl⟩ := Int.eq_ofNat_of_zero_le (show 0 ≤ ch by omega)
    obtain ⟨n, rfl⟩ := Int.eq_ofNat_of_zero_le (show 0 ≤ by_ by omega)
    have b1 : 1 ≤ c := by omega
    have b2 : c ≤ 8 := by omega
    have b3 : 1 ≤ n := by omega
    have b4 : n ≤ 4 := by omega
    by_cases hm : l.length % c = 0
    · by_cases hr : ∀ x ∈ l, -(2 : Int) ^ (8 * n - 1) ≤ x ∧ x < (2 : Int) ^ (8 * n - 1)
      · by_cases hd : b.length % (c * n) = 0
        · have hdv : n ∣ b.length := Nat.dvd_trans (Nat.dvd_mul_left n c) (Nat.dvd_of_mod_eq_zero hd)
          exact audpack_BY c n a l cap a' b cap' (b.length / n) w b1 b2 b3 b4 hl1 hl2 hc hc' hw hz hm hr hd (Nat.div_mul_cancel hdv).symm hn'
        · exact audpack_BX c n a l cap a' b cap' 0 w b1 b2 b3 b4 hl1 hl2 hc hc' hw hz hm hr hd
      · by_cases hd : b.length % (c * n) = 0
        · have hdv : n ∣ b.length := Nat.dvd_trans (Nat.dvd_mul_left n c) (Nat.dvd_of_mod_eq_zero hd)
          exact audpack_CY c n a l cap a' b cap' (b.length / n) w b1 b2 b3 b4 hl1 hl2 hc hc' hw hz hm hr hd (Nat.div_mul_cancel hdv).symm hn'
        · exact audpack_CX c n a l cap a' b cap' 0 w b1 b2 b3 b4 hl1 hl2 hc hc' hw hz hm hr hd
    · by_cases hd : b.length % (c * n) = 0
      · have hdv : n ∣ b.length := Nat.dvd_trans (Nat.dvd_mul_left n c) (Nat.dvd_of_mod_eq_zero hd)
        exact audpack_AY c n a l cap a' b cap' (b.length / n) w b1 b2 b3 b4 hl1 hl2 hc hc' hw hz hm hd (Nat.div_mul_cancel hdv).symm hn'
      · exact audpack_AX c n a l cap a' b cap' 0 w b1 b2 b3 b4 hl1 hl2 hc hc' hw hz hm hd
  · exact audpack_form ch by_ a _ cap a' _ cap' w hf hl1 hl2
end Go.Proofs.Ytphajgehfbimnaa
