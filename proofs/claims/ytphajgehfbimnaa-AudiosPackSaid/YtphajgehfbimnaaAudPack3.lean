/-
  The contract of audios.Pack where a sample cannot be represented.
-/
import Derived.Test.YtphajgehfbimnaaAudPack2
namespace Go.Proofs.Ytphajgehfbimnaa
open Go.RowKit
set_option linter.unusedVariables false

set_option maxRecDepth 100000 in
set_option maxHeartbeats 1000000 in
theorem pack_range (ch by_ : Nat) (a : Option Addr) (l : List Int) (cap : Nat) (w : World) (a1 : 1 ≤ ch) (a2 : ch ≤ 8) (a3 : 1 ≤ by_) (a4 : by_ ≤ 4) (hl : l.length ≤ 1000) (hm : l.length % ch = 0)
    (hc : Cells w a (l.map (.int .i32))) (hw : ∀ x ∈ l, -2147483648 ≤ x ∧ x ≤ 2147483647) (hr : ¬ ∀ x ∈ l, -(2 : Int) ^ (8 * by_ - 1) ≤ x ∧ x < (2 : Int) ^ (8 * by_ - 1)) :
    Calls Try.prog 19 #[.agg #[.int .i64 ch, .int .i64 by_], .slice a l.length cap] w fun e w' => e = .returned (.tuple #[.slice none 0 0, .int .i64 1]) ∧ Below w.heap.size w w' := by
  have hmI : (l.length : Int) % (ch : Int) = 0 := by omega
  have hp : 0 ≤ (l.length : Int) * (by_ : Int) := Int.mul_nonneg (by omega) (by omega)
  have hp2 : (l.length : Int) * (by_ : Int) ≤ 4000 := by
    have : l.length * by_ ≤ 1000 * 4 := Nat.mul_le_mul hl a4
    have h := Int.ofNat_le.2 this; simpa using h
  have Hr := Lib.hid hr; clear hr
  have Hw := Lib.hid hw; clear hw
  have Hm := Lib.hid hm; clear hm
  have Hc := Lib.hid hc; clear hc
  go_enter Try.func19, Try.ntmps19
  have hpw : (128 : Int) ≤ (2 : Int) ^ (8 * by_ - 1) ∧ (2 : Int) ^ (8 * by_ - 1) ≤ 2147483648 := by
    have : by_ = 1 ∨ by_ = 2 ∨ by_ = 3 ∨ by_ = 4 := by omega
    rcases this with rfl | rfl | rfl | rfl <;> decide
  obtain ⟨hpw1, hpw2⟩ := hpw
  have hpN : l.length * by_ ≤ 4000 := Nat.mul_le_mul hl a4
  go_wp2_with (first
    | (go_at_call 40; (refine (fright_yes _ _ _ (by omega) (by omega) (by omega) (by omega)).mono ?_; rintro e w1 ⟨rfl, hb1⟩; have hB1 : Below w.heap.size w w1 := Below.trans (by go_grown) (hb1.mono (by go_size)); have hx0 : w1.cell? ⟨w.heap.size, 0, none⟩ = some (.int .i64 ch) := kc hb1 (by simp [go_sem]); have hx1 : w1.cell? ⟨w.heap.size, 1, none⟩ = some (.int .i64 by_) := kc hb1 (by simp [go_sem]); have hs1 : w.heap.size + 1 ≤ w1.heap.size := (by have := hb1.size; simpa using this); clear hb1))
    | (at_make; refine wpList_mk rfl _ _ rfl st32 (w.heap.size + 1) (l.length * by_) _ _ _ rfl rfl (by simp) (by omega) (by unfold maxLen; omega) (by omega) ?_; intro w2 hown2 hg2; have hb2 := grown_none hg2; have hy0 := kc hb2 hx0; have hy1 := kc hb2 hx1; have hB2 := hB1.trans (hb2.mono hB1.size); have hg0 := hb2.size))
  go_loopw [6, 29] (fun v i wr => ∃ k : Nat, k ≤ l.length ∧ i = .int .i64 k ∧ v = .slice (some ⟨w1.heap.size, 0, none⟩) (k * by_) (l.length * by_) ∧
      wr.ownsRow (w.heap.size + 1) 5 1 (.slice (some ⟨w1.heap.size, 0, none⟩) (k * by_) (l.length * by_)) (k * by_) ((packAll by_ (l.take k)).map (.int .u8)) ∧
      wr.cell? ⟨w.heap.size, 0, none⟩ = some (.int .i64 ch) ∧ wr.cell? ⟨w.heap.size, 1, none⟩ = some (.int .i64 by_) ∧ Below w.heap.size w wr ∧ Hid (∀ x ∈ l.take k, -(2 : Int) ^ (8 * by_ - 1) ≤ x ∧ x < (2 : Int) ^ (8 * by_ - 1)))
    (fun _ i _ => l.length - (intOf i).toNat)
  case atStart => exact ⟨0, Nat.zero_le _, rfl, by simp, by simpa [packAll] using hown2, hy0, hy1, hB2, Lib.hid (by simp)⟩
  case round =>
    obtain ⟨k, hk, rfl, rfl, hown, hz0, hz1, hB, HT⟩ := hrel
    have hsB := hB.size
    by_cases hlt : k < l.length
    · obtain ⟨b, off, x, rfl, hx, hxm, hcx, hbx⟩ := (Hc.out.below hB).get hlt
      obtain ⟨hw1, hw2⟩ := Hw.out x hxm
      by_cases hin : -(2 : Int) ^ (8 * by_ - 1) ≤ x ∧ x < (2 : Int) ^ (8 * by_ - 1)
      case neg =>
        rcases Classical.em (x < -(2 : Int) ^ (8 * by_ - 1)) with hlo | hlo
        · clear hin
          go_wp2_with fail
          go_returns
          exact ⟨rfl, hB⟩
        · have hhi : (2 : Int) ^ (8 * by_ - 1) ≤ x := by omega
          clear hin
          go_wp2_with fail
          go_returns
          exact ⟨rfl, hB⟩
      obtain ⟨hrx1, hrx2⟩ := hin
      have Hx := Lib.hid hx; clear hx
      have hkb : k * by_ + by_ ≤ l.length * by_ := by
        have := Nat.mul_le_mul_right by_ (Nat.succ_le_of_lt hlt)
        rw [Nat.succ_mul] at this; exact this
      go_wp2_with fail
      go_loopw [6, 53] (fun v i wr' => ∃ j : Nat, j ≤ by_ ∧ i = .int .i64 j ∧ v = .slice (some ⟨w1.heap.size, 0, none⟩) (k * by_ + j) (l.length * by_) ∧
          wr'.ownsRow (w.heap.size + 1) 5 1 (.slice (some ⟨w1.heap.size, 0, none⟩) (k * by_ + j) (l.length * by_)) (k * by_ + j) ((packAll by_ (l.take k) ++ packOne j x).map (.int .u8)) ∧
          wr'.cell? ⟨w.heap.size, 0, none⟩ = some (.int .i64 ch) ∧ wr'.cell? ⟨w.heap.size, 1, none⟩ = some (.int .i64 by_) ∧ Below w.heap.size w wr')
        (fun _ i _ => by_ - (intOf i).toNat)
      case atStart => exact ⟨0, Nat.zero_le _, rfl, by simp, by simpa [packOne] using hown, hz0, hz1, hB⟩
      case round =>
        obtain ⟨j, hj, rfl, rfl, hown', hu0, hu1, hB'⟩ := hrel
        have hsB' := hB'.size
        by_cases hlt' : j < by_
        · go_wp2_with (at_builtin; refine wpList_push_fits rfl _ _ rfl st32 (w.heap.size + 1) _ _ _ _ rfl rfl hown' rfl (by omega) ?_; intro w3 hown3 hg3)
          go_roundw
          case rel =>
            refine ⟨j + 1, by omega, by go_num, rfl, ?_, kp hg3 hu0 (by intro k' e; cases e; omega), kp hg3 hu1 (by intro k' e; cases e; omega), below_pushed hB' hg3 hsB' (by intro k' e; cases e; omega)⟩
            rw [packOne_snoc, ← List.append_assoc, List.map_append (l₂ := [_])]; exact hown3
          case measure => simp [intOf]; omega
        · have hjb : j = by_ := by omega
          subst hjb
          go_wp2_with fail
          go_roundw
          case rel => 
            refine ⟨k + 1, by omega, by go_num, ?_, ?_, hu0, hu1, hB', Lib.hid (by
              rw [take_snoc Hx.out]; intro y hy
              rcases List.mem_append.1 hy with hy | hy
              · exact HT.out y hy
              · rw [List.mem_singleton.1 hy]; exact ⟨hrx1, hrx2⟩)⟩
            · rw [Nat.succ_mul]
            · rw [Nat.succ_mul, take_snoc Hx.out, packAll_snoc]; exact hown'
          case measure => simp [intOf]; omega
    · have hkl : k = l.length := by omega
      rw [hkl, take_all (Nat.le_refl _)] at HT
      exact absurd HT.out Hr.out

end Go.Proofs.Ytphajgehfbimnaa
