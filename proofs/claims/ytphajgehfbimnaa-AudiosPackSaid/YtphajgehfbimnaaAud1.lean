/-
  The contracts of audios.Format.right, Pack, EncodeFeedback and Send, and of the examples 'lives' of the law's package.
-/
import Derived.Test.YtphajgehfbimnaaProg
import Derived.Test.YtphajgehfbimnaaBase
namespace Go.Proofs.Ytphajgehfbimnaa
open Go.RowKit
set_option linter.unusedVariables false

theorem st32 : SliceTy Try.prog 32 5 (.int .u8 0) 1 1 := ⟨Try.underlying32, by kernel_rfl, rfl, by decide⟩

/-- The bytes of one sample, the lowest first. -/
def packOne (n : Nat) (x : Int) : List Int := (List.range n).map fun i => x / 2 ^ (8 * i) % 256
def packAll (n : Nat) (l : List Int) : List Int := l.flatMap (packOne n)
theorem packOne_length (n : Nat) (x : Int) : (packOne n x).length = n := by simp [packOne]
theorem packAll_length (n : Nat) (l : List Int) : (packAll n l).length = l.length * n := by
  induction l with
  | nil => simp [packAll]
  | cons x l ih => simp only [packAll, List.flatMap_cons, List.length_append, packOne_length, List.length_cons] at *; rw [ih, Nat.add_mul]; omega
theorem packAll_snoc (n : Nat) (l : List Int) (x : Int) : packAll n (l ++ [x]) = packAll n l ++ packOne n x := by simp [packAll]
theorem packOne_snoc (n : Nat) (x : Int) : packOne (n + 1) x = packOne n x ++ [x / 2 ^ (8 * n) % 256] := by simp [packOne, List.range_succ]

set_option maxRecDepth 100000 in
set_option maxHeartbeats 400000 in
theorem fright_yes (ch by_ : Int) (w : World) (a1 : 1 ≤ ch) (a2 : ch ≤ 8) (a3 : 1 ≤ by_) (a4 : by_ ≤ 4) :
    Calls Try.prog 40 #[.agg #[.int .i64 ch, .int .i64 by_]] w fun e w' => e = .returned (.bool true) ∧ Below w.heap.size w w' := by
  go_enter Try.func40, Try.ntmps40
  go_wp2
  go_returns
  exact ⟨rfl, by go_grown⟩

set_option maxRecDepth 100000 in
set_option maxHeartbeats 400000 in
theorem pack_ok (ch by_ : Nat) (a : Option Addr) (l : List Int) (cap : Nat) (w : World) (a1 : 1 ≤ ch) (a2 : ch ≤ 8) (a3 : 1 ≤ by_) (a4 : by_ ≤ 4) (hl : l.length ≤ 1000) (hm : l.length % ch = 0)
    (hc : Cells w a (l.map (.int .i32))) (hr : ∀ x ∈ l, -(2 : Int) ^ (8 * by_ - 1) ≤ x ∧ x < (2 : Int) ^ (8 * by_ - 1)) :
    Calls Try.prog 19 #[.agg #[.int .i64 ch, .int .i64 by_], .slice a l.length cap] w fun e w' => ∃ g, e = .returned (.tuple #[.slice (some ⟨g, 0, none⟩) (l.length * by_) (l.length * by_), .int .i64 0]) ∧
      w'.ownsRow w.heap.size 5 1 (.slice (some ⟨g, 0, none⟩) (l.length * by_) (l.length * by_)) (l.length * by_) ((packAll by_ l).map (.int .u8)) ∧ Below w.heap.size w w' := by
  have hmI : (l.length : Int) % (ch : Int) = 0 := by omega
  have hp : 0 ≤ (l.length : Int) * (by_ : Int) := Int.mul_nonneg (by omega) (by omega)
  have hp2 : (l.length : Int) * (by_ : Int) ≤ 4000 := by
    have : l.length * by_ ≤ 1000 * 4 := Nat.mul_le_mul hl a4
    have h := Int.ofNat_le.2 this; simpa using h
  have Hr := Lib.hid hr; clear hr
  have Hm := Lib.hid hm; clear hm
  have Hc := Lib.hid hc; clear hc
  go_enter Try.func19, Try.ntmps19
  have hpw : (128 : Int) ≤ (2 : Int) ^ (8 * by_ - 1) ∧ (2 : Int) ^ (8 * by_ - 1) ≤ 2147483648 := by
    have : by_ = 1 ∨ by_ = 2 ∨ by_ = 3 ∨ by_ = 4 := by omega
    rcases this with rfl | rfl | rfl | rfl <;> decide
  obtain ⟨hpw1, hpw2⟩ := hpw
  have hpN : l.length * by_ ≤ 4000 := Nat.mul_le_mul hl a4
  go_wp2_with (first
    | (go_at_call 40; (refine (fright_yes _ _ _ (by omega) (by omega) (by omega) (by omega)).mono ?_; rintro e w1 ⟨rfl, hb1⟩; have hB1 : Below w.heap.size w w1 := Below.trans (by go_grown) (hb1.mono (by go_size)); have hx0 : w1.cell? ⟨w.heap.size, 0, none⟩ = some (.int .i64 ch) := kc hb1 (by simp [go_sem]); have hx1 : w1.cell? ⟨w.heap.size, 1, none⟩ = some (.int .i64 by_) := kc hb1 (by simp [go_sem]); have hs1 : w.heap.size + 1 ≤ w1.heap.size := (by have := hb1.size; simpa using this); clear hb1))
    | (at_make; refine wpList_mk rfl _ _ rfl st32 (w.heap.size + 1) (l.length * by_) _ _ _ rfl rfl (by simp) (by omega) (by unfold maxLen; omega) (by omega) ?_; intro w2 hown2 hg2; have hb2 := grown_none hg2; have hy0 := kc hb2 hx0; have hy1 := kc hb2 hx1; have hB2 := hB1.trans (hb2.mono hB1.size); have hg0 := hb2.size))
  go_loopw [6, 29] (fun v i wr => ∃ k : Nat, k ≤ l.length ∧ i = .int .i64 k ∧ v = .slice (some ⟨w1.heap.size, 0, none⟩) (k * by_) (l.length * by_) ∧
      wr.ownsRow (w.heap.size + 1) 5 1 (.slice (some ⟨w1.heap.size, 0, none⟩) (k * by_) (l.length * by_)) (k * by_) ((packAll by_ (l.take k)).map (.int .u8)) ∧
      wr.cell? ⟨w.heap.size, 0, none⟩ = some (.int .i64 ch) ∧ wr.cell? ⟨w.heap.size, 1, none⟩ = some (.int .i64 by_) ∧ Below w.heap.size w wr)
    (fun _ i _ => l.length - (intOf i).toNat)
  case atStart => exact ⟨0, Nat.zero_le _, rfl, by simp, by simpa [packAll] using hown2, hy0, hy1, hB2⟩
  case round =>
    obtain ⟨k, hk, rfl, rfl, hown, hz0, hz1, hB⟩ := hrel
    have hsB := hB.size
    by_cases hlt : k < l.length
    · obtain ⟨b, off, x, rfl, hx, hxm, hcx, hbx⟩ := (Hc.out.below hB).get hlt
      obtain ⟨hrx1, hrx2⟩ := Hr.out x hxm
      have Hx := Lib.hid hx; clear hx
      have hkb : k * by_ + by_ ≤ l.length * by_ := by
        have := Nat.mul_le_mul_right by_ (Nat.succ_le_of_lt hlt)
        rw [Nat.succ_mul] at this; exact this
      go_wp2_with fail
      go_loopw [6, 53] (fun v i wr' => ∃ j : Nat, j ≤ by_ ∧ i = .int .i64 j ∧ v = .slice (some ⟨w1.heap.size, 0, none⟩) (k * by_ + j) (l.length * by_) ∧
          wr'.ownsRow (w.heap.size + 1) 5 1 (.slice (some ⟨w1.heap.size, 0, none⟩) (k * by_ + j) (l.length * by_)) (k * by_ + j) ((packAll by_ (l.take k) ++ packOne j x).map (.int .u8)) ∧
          wr'.cell? ⟨w.heap.size, 0, none⟩ = some (.int .i64 ch) ∧ wr'.cell? ⟨w.heap.size, 1, none⟩ = some (.int .i64 by_) ∧ Below w.heap.size w wr')
        (fun _ i _ => by_ - (intOf i).toNat)
      case atStart => exact ⟨0, Nat.zero_le _, rfl, by simp, by simpa [packOne] using hown, hz0, hz1, hB⟩
      case round =>
        obtain ⟨j, hj, rfl, rfl, hown', hu0, hu1, hB'⟩ := hrel
        have hsB' := hB'.size
        by_cases hlt' : j < by_
        · go_wp2_with (at_builtin; refine wpList_push_fits rfl _ _ rfl st32 (w.heap.size + 1) _ _ _ _ rfl rfl hown' rfl (by omega) ?_; intro w3 hown3 hg3)
          go_roundw
          case rel =>
            refine ⟨j + 1, by omega, by go_num, rfl, ?_, kp hg3 hu0 (by intro k' e; cases e; omega), kp hg3 hu1 (by intro k' e; cases e; omega), below_pushed hB' hg3 hsB' (by intro k' e; cases e; omega)⟩
            rw [packOne_snoc, ← List.append_assoc, List.map_append (l₂ := [_])]; exact hown3
          case measure => simp [intOf]; omega
        · have hjb : j = by_ := by omega
          subst hjb
          go_wp2_with fail
          go_roundw
          case rel => 
            refine ⟨k + 1, by omega, by go_num, ?_, ?_, hu0, hu1, hB'⟩
            · rw [Nat.succ_mul]
            · rw [Nat.succ_mul, take_snoc Hx.out, packAll_snoc]; exact hown'
          case measure => simp [intOf]; omega
    · have hkl : k = l.length := by omega
      subst hkl
      go_wp2_with fail
      go_returns
      rw [take_all (Nat.le_refl _)] at hown
      exact ⟨w1.heap.size, rfl, own_base hown (by omega), hB⟩

set_option maxRecDepth 100000 in
set_option maxHeartbeats 400000 in
theorem encfb_bad (rate : Int) (high : Bool) (w : World) (h0 : 16777216 < rate) :
    Calls Try.prog 17 #[.int .u32 rate, .bool high] w fun e w' => e = .returned (.tuple #[.slice none 0 0, .int .i64 1]) ∧ w = w' := by
  go_enter Try.func17, Try.ntmps17
  go_wp2
  go_ret2
  exact ⟨rfl, rfl⟩

set_option maxRecDepth 100000 in
set_option maxHeartbeats 400000 in
theorem encfb_high (rate : Int) (w : World) (h0 : 0 ≤ rate) (h1 : rate ≤ 16777216) :
    Calls Try.prog 17 #[.int .u32 rate, .bool true] w fun e w' => e = .returned (.tuple #[.slice (some ⟨w.heap.size, 0, none⟩) 4 4, .int .i64 0]) ∧
      w' = w.alloc (.cells #[.int .u8 (rate % 256), .int .u8 (rate / 256 % 256), .int .u8 (rate / 65536 % 256), .int .u8 (rate / 16777216)] 5) := by
  have hmk : ∀ w, (Instr.makeSlice 32 (.int .i64 4) (.int .i64 4)).run Try.prog w = .ok (.slice (some ⟨w.heap.size, 0, none⟩) 4 4) (w.alloc (.cells #[.int .u8 0, .int .u8 0, .int .u8 0, .int .u8 0] 5)) := fun _ => by kernel_rfl
  go_enter Try.func17, Try.ntmps17
  go_wp2
  go_rounds 5
  go_returns
  exact ⟨rfl, rfl⟩

set_option maxRecDepth 100000 in
set_option maxHeartbeats 400000 in
theorem encfb_low (rate : Int) (w : World) (h0 : 0 ≤ rate) (h1 : rate ≤ 16777216) :
    Calls Try.prog 17 #[.int .u32 rate, .bool false] w fun e w' => e = .returned (.tuple #[.slice (some ⟨w.heap.size, 0, none⟩) 3 3, .int .i64 0]) ∧
      w' = w.alloc (.cells #[.int .u8 (rate / 4 % 256), .int .u8 (rate / 4 / 256 % 256), .int .u8 (rate / 4 / 65536)] 5) := by
  have hmk : ∀ w, (Instr.makeSlice 32 (.int .i64 3) (.int .i64 3)).run Try.prog w = .ok (.slice (some ⟨w.heap.size, 0, none⟩) 3 3) (w.alloc (.cells #[.int .u8 0, .int .u8 0, .int .u8 0] 5)) := fun _ => by kernel_rfl
  go_enter Try.func17, Try.ntmps17
  go_wp2
  go_rounds 4
  go_returns
  exact ⟨rfl, rfl⟩

set_option maxRecDepth 100000 in
set_option maxHeartbeats 400000 in
theorem send_bad (rate rest : Int) (w : World) (hb : 16777216 < rate ∨ 65535 < rest) :
    Calls Try.prog 16 #[.agg #[.int .u32 rate, .int .u32 rest]] w fun e w' => e = .returned (.tuple #[.int .i64 0, .agg #[.int .u32 0, .int .u32 0], .int .i64 1]) ∧ Below w.heap.size w w' := by
  by_cases h : 16777216 < rate
  · go_enter Try.func16, Try.ntmps16
    go_wp2
    refine bodyPost_ret (v := .tuple #[.int .i64 0, .agg #[.int .u32 0, .int .u32 0], .int .i64 1]) (by simp [results, Try.results16, go_sem]) rfl ⟨rfl, by go_grown⟩
  · have h' : 65535 < rest := by omega
    go_enter Try.func16, Try.ntmps16
    go_wp2
    refine bodyPost_ret (v := .tuple #[.int .i64 0, .agg #[.int .u32 0, .int .u32 0], .int .i64 1]) (by simp [results, Try.results16, go_sem]) rfl ⟨rfl, by go_grown⟩

set_option maxRecDepth 100000 in
set_option maxHeartbeats 400000 in
theorem send_ok (rate rest : Int) (w : World) (h0 : 0 ≤ rate) (h1 : rate ≤ 16777216) (g0 : 0 ≤ rest) (g1 : rest ≤ 65535) :
    Calls Try.prog 16 #[.agg #[.int .u32 rate, .int .u32 rest]] w fun e w' => e = .returned (.tuple #[.int .i64 ((rest + rate) / 65536), .agg #[.int .u32 rate, .int .u32 ((rest + rate) % 65536)], .int .i64 0]) ∧ Below w.heap.size w w' := by
  go_enter Try.func16, Try.ntmps16
  go_wp2
  go_region
  all_goals go_wp2
  all_goals refine bodyPost_ret (v := .tuple #[.int .i64 ((rest + rate) / 65536), .agg #[.int .u32 rate, .int .u32 ((rest + rate) % 65536)], .int .i64 0]) (by simp [results, Try.results16, go_sem]) rfl ⟨rfl, by go_grown⟩

set_option maxRecDepth 100000 in
set_option maxHeartbeats 400000 in
theorem lives_ok (w : World) : Calls Try.prog 15 #[] w fun e w' => e = .returned (.bool true) ∧ Below w.heap.size w w' := by
  go_enter Try.func15, Try.ntmps15
  go_wp2_with fail
  refine (pack_ok 2 2 (some ⟨w.heap.size, 0, none⟩) [1, -2] 2 _ (by omega) (by omega) (by omega) (by omega) (by simp) (by decide) (fun _ => ⟨w.heap.size, 0, rfl, ?_⟩) (by decide)).mono ?_
  · intro i v hv
    match i, hv with
    | 0, hv => simp at hv; subst hv; simp [go_sem]
    | 1, hv => simp at hv; subst hv; simp [go_sem]
    | i + 2, hv => simp at hv
  rintro e w1 ⟨g, rfl, hown1, hb1⟩
  have hB1 : Below w.heap.size w w1 := Below.trans (by go_grown) (hb1.mono (by go_size))
  have hs1 := hB1.size
  simp only [List.length_cons, List.length_nil, Nat.zero_add, Nat.reduceAdd, Nat.reduceMul] at hown1 ⊢
  go_wp2_with fail
  refine (encfb_low 3145728 _ (by omega) (by omega)).mono ?_
  rintro e w2 ⟨rfl, rfl⟩
  go_wp2_with fail
  refine (encfb_high 3145728 _ (by omega) (by omega)).mono ?_
  rintro e w3 ⟨rfl, rfl⟩
  have hs1' : (convert 32 9 (.slice (some ⟨g, 0, none⟩) 4 4)).run Try.prog ((w1.alloc (.cells #[.int .u8 0, .int .u8 0, .int .u8 12] 5)).alloc (.cells #[.int .u8 0, .int .u8 0, .int .u8 48, .int .u8 0] 5)) = .ok (.string ⟨#[1, 0, 254, 255]⟩) ((w1.alloc (.cells #[.int .u8 0, .int .u8 0, .int .u8 12] 5)).alloc (.cells #[.int .u8 0, .int .u8 0, .int .u8 48, .int .u8 0] 5)) :=
    run_str (l := packAll 2 [1, -2]) Try.underlying32 Try.underlying5 Try.underlying9 ((own_cells hown1).below (by go_grown)) rfl (by simp)
  have hs2' : (convert 32 9 (.slice (some ⟨w1.heap.size, 0, none⟩) 3 3)).run Try.prog ((w1.alloc (.cells #[.int .u8 0, .int .u8 0, .int .u8 12] 5)).alloc (.cells #[.int .u8 0, .int .u8 0, .int .u8 48, .int .u8 0] 5)) = .ok (.string ⟨#[0, 0, 12]⟩) ((w1.alloc (.cells #[.int .u8 0, .int .u8 0, .int .u8 12] 5)).alloc (.cells #[.int .u8 0, .int .u8 0, .int .u8 48, .int .u8 0] 5)) :=
    run_str (l := [0, 0, 12]) Try.underlying32 Try.underlying5 Try.underlying9 ((cells_new w1 #[.int .u8 0, .int .u8 0, .int .u8 12] 5).below (by go_grown)) rfl (by simp)
  have hs3' : (convert 32 9 (.slice (some ⟨w1.heap.size + 1, 0, none⟩) 4 4)).run Try.prog ((w1.alloc (.cells #[.int .u8 0, .int .u8 0, .int .u8 12] 5)).alloc (.cells #[.int .u8 0, .int .u8 0, .int .u8 48, .int .u8 0] 5)) = .ok (.string ⟨#[0, 0, 48, 0]⟩) ((w1.alloc (.cells #[.int .u8 0, .int .u8 0, .int .u8 12] 5)).alloc (.cells #[.int .u8 0, .int .u8 0, .int .u8 48, .int .u8 0] 5)) :=
    run_str (l := [0, 0, 48, 0]) Try.underlying32 Try.underlying5 Try.underlying9 (cells_new' #[.int .u8 0, .int .u8 0, .int .u8 48, .int .u8 0] 5 (by simp)) rfl (by simp)
  go_wp2_with fail
  clear hs1' hs2' hs3' hown1
  go_loopw [8] (fun i wr => ∃ k : Nat, k ≤ 4 ∧ i = .int .i64 k ∧ wr.cell? ⟨w1.heap.size + 1 + 1, 0, none⟩ = some (.int .u32 2916352) ∧ wr.cell? ⟨w1.heap.size + 1 + 1, 1, none⟩ = some (.int .u32 (32768 * ((k : Int) % 2))) ∧
      wr.frozen? ⟨w1.heap.size + 1 + 1, 0, none⟩ = false ∧ wr.frozen? ⟨w1.heap.size + 1 + 1, 1, none⟩ = false ∧ Below w.heap.size w wr) (fun i _ => 4 - (intOf i).toNat)
  case atStart => exact ⟨0, by omega, rfl, by simp [go_sem], by simp [go_sem], by simp [go_sem], by simp [go_sem], by go_grown⟩
  case round =>
    obtain ⟨k, hk, rfl, c0, c1, f0, f1, hB⟩ := hrel
    have hsz := cell_lt c0
    by_cases hlt : k < 4
    · go_wp2_with fail
      refine (send_ok _ _ _ (by omega) (by omega) (by omega) (by omega)).mono ?_
      rintro e w4 ⟨rfl, hb4⟩
      have d0 := kc hb4 c0
      have d1 := kc hb4 c1
      have e0 := kf hb4 c0 f0
      have e1 := kf hb4 c1 f1
      have hs4 := hb4.size
      have hB4 := hB.trans (hb4.mono hB.size)
      clear hb4 c0 c1 f0 f1 hB
      have hdiv : (32768 * ((k : Int) % 2) + 2916352) / 65536 = 44 + (k : Int) % 2 := by omega
      have hmod : (32768 * ((k : Int) % 2) + 2916352) % 65536 = 32768 * (((k + 1 : Nat) : Int) % 2) := by omega
      rw [hdiv, hmod]
      clear hdiv hmod
      go_wp2_with fail
      go_roundw
      case rel => exact ⟨k + 1, by omega, by go_num, by simp [go_sem, d0], by simp [go_sem, d1], by simp [go_sem, e0], by simp [go_sem, e1], by go_grown⟩
      case measure => simp [intOf]; omega
    · have hk4 : k = 4 := by omega
      subst hk4
      go_wp2_with fail
      go_returns
      exact ⟨rfl, hB⟩
end Go.Proofs.Ytphajgehfbimnaa
