/-
  The contract of audios.Unpack where it succeeds, for samples of one to four bytes.
-/
import Derived.Test.YtphajgehfbimnaaAudPack1
namespace Go.Proofs.Ytphajgehfbimnaa
open Go.RowKit
set_option linter.unusedVariables false

theorem st40 : SliceTy Try.prog 40 21 (.int .i32 0) 1 4 := ⟨Try.underlying40, by kernel_rfl, rfl, by decide⟩

/-- The number that bytes are, the lowest first. -/
def fbNum : List Int → Int
  | [] => 0
  | x :: l => x + 256 * fbNum l
/-- The same with its highest bit as the sign. -/
def sgn (n : Nat) (v : Int) : Int := if v < 2 ^ (8 * n - 1) then v else v - 2 ^ (8 * n)
def chunk (n : Nat) (b : List Int) (j : Nat) : List Int := (b.drop (j * n)).take n
def unpackAll (n : Nat) (b : List Int) (m : Nat) : List Int := (List.range m).map fun j => sgn n (fbNum (chunk n b j))
theorem unpackAll_succ (n : Nat) (b : List Int) (m : Nat) : unpackAll n b (m + 1) = unpackAll n b m ++ [sgn n (fbNum (chunk n b m))] := by simp [unpackAll, List.range_succ]
theorem unpackAll_length (n : Nat) (b : List Int) (m : Nat) : (unpackAll n b m).length = m := by simp [unpackAll]

theorem sgn_lo {n : Nat} {v c : Int} (hc : (2 : Int) ^ (8 * n - 1) = c) (h : v < c) : sgn n v = v := by
  unfold sgn; rw [if_pos (by rw [hc]; exact h)]
theorem sgn_hi {n : Nat} {v c d : Int} (hc : (2 : Int) ^ (8 * n - 1) = c) (hd : (2 : Int) ^ (8 * n) = d) (h : c ≤ v) : sgn n v = v - d := by
  unfold sgn; rw [if_neg (by rw [hc]; omega), hd]
theorem chunk1 {b : List Int} {k : Nat} {x0 : Int} (h0 : b[k]? = some x0) : chunk 1 b k = [x0] := by
  unfold chunk; rw [Nat.mul_one, List.take_one, List.head?_drop, h0]; rfl
theorem drop_cons {b : List Int} {i : Nat} {x : Int} (h : b[i]? = some x) : b.drop i = x :: b.drop (i + 1) := by
  obtain ⟨hl, hx⟩ := List.getElem?_eq_some_iff.1 h
  rw [List.drop_eq_getElem_cons hl, hx]
theorem chunk2 {b : List Int} {k : Nat} {x0 x1 : Int} (h0 : b[k * 2]? = some x0) (h1 : b[k * 2 + 1]? = some x1) : chunk 2 b k = [x0, x1] := by
  unfold chunk; rw [drop_cons h0, drop_cons h1]; rfl
theorem chunk3 {b : List Int} {k : Nat} {x0 x1 x2 : Int} (h0 : b[k * 3]? = some x0) (h1 : b[k * 3 + 1]? = some x1) (h2 : b[k * 3 + 2]? = some x2) : chunk 3 b k = [x0, x1, x2] := by
  unfold chunk; rw [drop_cons h0, drop_cons h1, drop_cons h2]; rfl
theorem chunk4 {b : List Int} {k : Nat} {x0 x1 x2 x3 : Int} (h0 : b[k * 4]? = some x0) (h1 : b[k * 4 + 1]? = some x1) (h2 : b[k * 4 + 2]? = some x2) (h3 : b[k * 4 + 3]? = some x3) : chunk 4 b k = [x0, x1, x2, x3] := by
  unfold chunk; rw [drop_cons h0, drop_cons h1, drop_cons h2, drop_cons h3]; rfl

theorem el1 (x0 : Int) (a0 : 0 ≤ x0) (b0 : x0 ≤ 255) : wrap32 (x0 * 16777216) / 16777216 = sgn 1 (fbNum [x0]) := by
  have hv : fbNum [x0] = x0 := by simp [fbNum]
  rw [hv]
  unfold wrap32
  rcases Int.lt_or_le (x0) 128 with h | h
  · rw [sgn_lo rfl h]; omega
  · rw [sgn_hi rfl rfl h]; omega
theorem el2 (x0 x1 : Int) (a0 : 0 ≤ x0) (b0 : x0 ≤ 255) (a1 : 0 ≤ x1) (b1 : x1 ≤ 255) : wrap32 (bits BinOp.or IntKind.i32 x0 (x1 * 256) * 65536) / 65536 = sgn 2 (fbNum [x0, x1]) := by
  rw [or_i32 x0 x1 (x1 * 256) 8 a0 (by omega) a1 (by omega) (by omega) (by omega), IntKind.wrap_i32]
  have hv : fbNum [x0, x1] = x0 + 256 * x1 := by simp [fbNum]
  rw [hv]
  unfold wrap32
  rcases Int.lt_or_le (x0 + 256 * x1) 32768 with h | h
  · rw [sgn_lo rfl h]; omega
  · rw [sgn_hi rfl rfl h]; omega
theorem el3 (x0 x1 x2 : Int) (a0 : 0 ≤ x0) (b0 : x0 ≤ 255) (a1 : 0 ≤ x1) (b1 : x1 ≤ 255) (a2 : 0 ≤ x2) (b2 : x2 ≤ 255) : wrap32 (bits BinOp.or IntKind.i32 (bits BinOp.or IntKind.i32 x0 (x1 * 256)) (x2 * 65536) * 256) / 256 = sgn 3 (fbNum [x0, x1, x2]) := by
  rw [or_i32 x0 x1 (x1 * 256) 8 a0 (by omega) a1 (by omega) (by omega) (by omega), IntWalk.i32_in _ (by omega), or_i32 (x0 + x1 * 2 ^ 8) x2 (x2 * 65536) 16 (by omega) (by omega) a2 (by omega) (by omega) (by omega), IntKind.wrap_i32]
  have hv : fbNum [x0, x1, x2] = x0 + 256 * (x1 + 256 * x2) := by simp [fbNum]
  rw [hv]
  unfold wrap32
  rcases Int.lt_or_le (x0 + 256 * (x1 + 256 * x2)) 8388608 with h | h
  · rw [sgn_lo rfl h]; omega
  · rw [sgn_hi rfl rfl h]; omega
theorem el4 (x0 x1 x2 x3 : Int) (a0 : 0 ≤ x0) (b0 : x0 ≤ 255) (a1 : 0 ≤ x1) (b1 : x1 ≤ 255) (a2 : 0 ≤ x2) (b2 : x2 ≤ 255) (a3 : 0 ≤ x3) (b3 : x3 ≤ 255) :
    wrap32 (bits BinOp.or IntKind.i32 (bits BinOp.or IntKind.i32 (bits BinOp.or IntKind.i32 x0 (x1 * 256)) (x2 * 65536)) (wrap32 (x3 * 16777216))) = sgn 4 (fbNum [x0, x1, x2, x3]) := by
  rw [or_i32 x0 x1 (x1 * 256) 8 a0 (by omega) a1 (by omega) (by omega) (by omega), IntWalk.i32_in _ (by omega), or_i32 (x0 + x1 * 2 ^ 8) x2 (x2 * 65536) 16 (by omega) (by omega) a2 (by omega) (by omega) (by omega), IntWalk.i32_in _ (by omega),
    or_i32 (x0 + x1 * 2 ^ 8 + x2 * 2 ^ 16) x3 (wrap32 (x3 * 16777216)) 24 (by omega) (by omega) a3 (by omega) (by omega) (by unfold wrap32; omega), IntKind.wrap_i32]
  have hv : fbNum [x0, x1, x2, x3] = x0 + 256 * (x1 + 256 * (x2 + 256 * x3)) := by simp [fbNum]
  rw [hv]
  unfold wrap32
  rcases Int.lt_or_le (x0 + 256 * (x1 + 256 * (x2 + 256 * x3))) 2147483648 with h | h
  · rw [sgn_lo rfl h]; omega
  · rw [sgn_hi rfl rfl h]; omega

set_option maxRecDepth 100000 in
set_option maxHeartbeats 1000000 in
theorem unpack_ok1 (ch : Nat) (a : Option Addr) (b : List Int) (cap m : Nat) (w : World) (a1 : 1 ≤ ch) (a2 : ch ≤ 8) (hl : b.length = m) (hm : m ≤ 1000) (hd : (m : Int) % (ch : Int) = 0)
    (hc : Cells w a (b.map (.int .u8))) (hz : ∀ x ∈ b, 0 ≤ x ∧ x ≤ 255) :
    Calls Try.prog 20 #[.agg #[.int .i64 ch, .int .i64 1], .slice a b.length cap] w fun e w' => ∃ g, e = .returned (.tuple #[.slice (some ⟨g, 0, none⟩) m m, .int .i64 0]) ∧
      w'.ownsRow w.heap.size 21 1 (.slice (some ⟨g, 0, none⟩) m m) m ((unpackAll 1 b m).map (.int .i32)) ∧ Below w.heap.size w w' := by
  have Hc := Lib.hid hc; clear hc
  have Hz := Lib.hid hz; clear hz
  have Hl := Lib.hid hl
  rw [hl]
  clear hl
  go_enter Try.func20, Try.ntmps20
  go_wp2_with (first
    | (go_at_call 40; refine (fright_yes _ _ _ (by omega) (by omega) (by omega) (by omega)).mono ?_; rintro e w1 ⟨rfl, hb1⟩; have hB1 : Below w.heap.size w w1 := Below.trans (by go_grown) (hb1.mono (by go_size)); have hx0 : w1.cell? ⟨w.heap.size, 0, none⟩ = some (.int .i64 ch) := kc hb1 (by simp [go_sem]); have hx1 : w1.cell? ⟨w.heap.size, 1, none⟩ = some (.int .i64 1) := kc hb1 (by simp [go_sem]); have hs1 : w.heap.size + 1 ≤ w1.heap.size := (by have := hb1.size; simpa using this); clear hb1)
    | (at_make; refine wpList_mk rfl _ _ rfl st40 (w.heap.size + 1) m _ _ _ rfl rfl (by first | rfl | omega | (simp; done) | (simp; omega)) (by omega) (by unfold maxLen; omega) (by omega) ?_; intro w2 hown2 hg2; have hb2 := grown_none hg2; have hy0 := kc hb2 hx0; have hy1 := kc hb2 hx1; have hB2 := hB1.trans (hb2.mono hB1.size); have hg0 := hb2.size))
  go_loopw [6, 7] (fun v i wr => ∃ k : Nat, k ≤ m ∧ i = .int .i64 ((k : Int)) ∧ v = .slice (some ⟨w1.heap.size, 0, none⟩) k m ∧
      wr.ownsRow (w.heap.size + 1) 21 1 (.slice (some ⟨w1.heap.size, 0, none⟩) k m) k ((unpackAll 1 b k).map (.int .i32)) ∧
      wr.cell? ⟨w.heap.size, 0, none⟩ = some (.int .i64 ch) ∧ wr.cell? ⟨w.heap.size, 1, none⟩ = some (.int .i64 1) ∧ Below w.heap.size w wr)
    (fun _ i _ => m * 1 - (intOf i).toNat)
  case atStart => exact ⟨0, Nat.zero_le _, rfl, rfl, by simpa [unpackAll] using hown2, hy0, hy1, hB2⟩
  case round =>
    obtain ⟨k, hk, rfl, rfl, hown, hz0, hz1, hB⟩ := hrel
    have hsB := hB.size
    by_cases hlt : k < m
    · have hl := Hl.out
      obtain ⟨bb, off, x0, rfl, hx0, hxm0, hcx0, hbx⟩ := Hc.out.get (k := k) (by omega)
      replace hcx0 := kc hB hcx0
      obtain ⟨p0, q0⟩ := Hz.out _ hxm0
      have HX0 := Lib.hid hx0; clear hx0 hxm0
      clear hl
      go_wp2_with fail
      refine wp_loop_rounds 2 ?_
      repeat (rw [rounds_succ]; go_wp2_with (at_builtin; refine wpList_push_fits rfl _ _ rfl st40 (w.heap.size + 1) _ _ _ _ rfl rfl hown rfl (by omega) ?_; intro w3 hown3 hg3; have hu0 := kp hg3 hz0 (by intro k' e; cases e; omega); have hu1 := kp hg3 hz1 (by intro k' e; cases e; omega)))
      go_roundw
      case rel =>
        refine ⟨k + 1, by omega, by go_num, rfl, ?_, hu0, hu1, below_pushed hB hg3 hsB (by intro k' e; cases e; omega)⟩
        rw [el1 x0 p0 q0] at hown3
        rw [unpackAll_succ, chunk1 HX0.out, List.map_append]; exact hown3
      case measure => simp [intOf]; omega
    · have hkl : k = m := by omega
      subst hkl
      go_wp2_with fail
      go_returns
      exact ⟨w1.heap.size, rfl, own_base hown (by omega), hB⟩

set_option maxRecDepth 100000 in
set_option maxHeartbeats 1000000 in
theorem unpack_ok2 (ch : Nat) (a : Option Addr) (b : List Int) (cap m : Nat) (w : World) (a1 : 1 ≤ ch) (a2 : ch ≤ 8) (hl : b.length = m * 2) (hm : m ≤ 1000) (hd : (m : Int) * 2 % ((ch : Int) * 2) = 0)
    (hc : Cells w a (b.map (.int .u8))) (hz : ∀ x ∈ b, 0 ≤ x ∧ x ≤ 255) :
    Calls Try.prog 20 #[.agg #[.int .i64 ch, .int .i64 2], .slice a b.length cap] w fun e w' => ∃ g, e = .returned (.tuple #[.slice (some ⟨g, 0, none⟩) m m, .int .i64 0]) ∧
      w'.ownsRow w.heap.size 21 1 (.slice (some ⟨g, 0, none⟩) m m) m ((unpackAll 2 b m).map (.int .i32)) ∧ Below w.heap.size w w' := by
  have Hc := Lib.hid hc; clear hc
  have Hz := Lib.hid hz; clear hz
  have Hl := Lib.hid hl
  rw [hl]
  clear hl
  go_enter Try.func20, Try.ntmps20
  go_wp2_with (first
    | (go_at_call 40; refine (fright_yes _ _ _ (by omega) (by omega) (by omega) (by omega)).mono ?_; rintro e w1 ⟨rfl, hb1⟩; have hB1 : Below w.heap.size w w1 := Below.trans (by go_grown) (hb1.mono (by go_size)); have hx0 : w1.cell? ⟨w.heap.size, 0, none⟩ = some (.int .i64 ch) := kc hb1 (by simp [go_sem]); have hx1 : w1.cell? ⟨w.heap.size, 1, none⟩ = some (.int .i64 2) := kc hb1 (by simp [go_sem]); have hs1 : w.heap.size + 1 ≤ w1.heap.size := (by have := hb1.size; simpa using this); clear hb1)
    | (at_make; refine wpList_mk rfl _ _ rfl st40 (w.heap.size + 1) m _ _ _ rfl rfl (by first | rfl | omega | (simp; done) | (simp; omega)) (by omega) (by unfold maxLen; omega) (by omega) ?_; intro w2 hown2 hg2; have hb2 := grown_none hg2; have hy0 := kc hb2 hx0; have hy1 := kc hb2 hx1; have hB2 := hB1.trans (hb2.mono hB1.size); have hg0 := hb2.size))
  go_loopw [6, 7] (fun v i wr => ∃ k : Nat, k ≤ m ∧ i = .int .i64 ((k : Int) * 2) ∧ v = .slice (some ⟨w1.heap.size, 0, none⟩) k m ∧
      wr.ownsRow (w.heap.size + 1) 21 1 (.slice (some ⟨w1.heap.size, 0, none⟩) k m) k ((unpackAll 2 b k).map (.int .i32)) ∧
      wr.cell? ⟨w.heap.size, 0, none⟩ = some (.int .i64 ch) ∧ wr.cell? ⟨w.heap.size, 1, none⟩ = some (.int .i64 2) ∧ Below w.heap.size w wr)
    (fun _ i _ => m * 2 - (intOf i).toNat)
  case atStart => exact ⟨0, Nat.zero_le _, rfl, rfl, by simpa [unpackAll] using hown2, hy0, hy1, hB2⟩
  case round =>
    obtain ⟨k, hk, rfl, rfl, hown, hz0, hz1, hB⟩ := hrel
    have hsB := hB.size
    by_cases hlt : k < m
    · have hl := Hl.out
      obtain ⟨bb, off, x0, rfl, hx0, hxm0, hcx0, hbx⟩ := Hc.out.get (k := k * 2) (by omega)
      obtain ⟨bb1, off1, x1, hh, hx1, hxm1, hcx1, _⟩ := Hc.out.get (k := k * 2 + 1) (by omega)
      simp only [Option.some.injEq, Addr.mk.injEq, and_true] at hh
      obtain ⟨rfl, rfl⟩ := hh
      replace hcx0 := kc hB hcx0
      replace hcx1 := kc hB hcx1
      obtain ⟨p0, q0⟩ := Hz.out _ hxm0
      obtain ⟨p1, q1⟩ := Hz.out _ hxm1
      have HX0 := Lib.hid hx0; clear hx0 hxm0
      have HX1 := Lib.hid hx1; clear hx1 hxm1
      clear hl
      go_wp2_with fail
      refine wp_loop_rounds 3 ?_
      repeat (rw [rounds_succ]; go_wp2_with (at_builtin; refine wpList_push_fits rfl _ _ rfl st40 (w.heap.size + 1) _ _ _ _ rfl rfl hown rfl (by omega) ?_; intro w3 hown3 hg3; have hu0 := kp hg3 hz0 (by intro k' e; cases e; omega); have hu1 := kp hg3 hz1 (by intro k' e; cases e; omega)))
      go_roundw
      case rel =>
        refine ⟨k + 1, by omega, by go_num, rfl, ?_, hu0, hu1, below_pushed hB hg3 hsB (by intro k' e; cases e; omega)⟩
        rw [el2 x0 x1 p0 q0 p1 q1] at hown3
        rw [unpackAll_succ, chunk2 HX0.out HX1.out, List.map_append]; exact hown3
      case measure => simp [intOf]; omega
    · have hkl : k = m := by omega
      subst hkl
      go_wp2_with fail
      go_returns
      exact ⟨w1.heap.size, rfl, own_base hown (by omega), hB⟩

set_option maxRecDepth 100000 in
set_option maxHeartbeats 1000000 in
theorem unpack_ok3 (ch : Nat) (a : Option Addr) (b : List Int) (cap m : Nat) (w : World) (a1 : 1 ≤ ch) (a2 : ch ≤ 8) (hl : b.length = m * 3) (hm : m ≤ 1000) (hd : (m : Int) * 3 % ((ch : Int) * 3) = 0)
    (hc : Cells w a (b.map (.int .u8))) (hz : ∀ x ∈ b, 0 ≤ x ∧ x ≤ 255) :
    Calls Try.prog 20 #[.agg #[.int .i64 ch, .int .i64 3], .slice a b.length cap] w fun e w' => ∃ g, e = .returned (.tuple #[.slice (some ⟨g, 0, none⟩) m m, .int .i64 0]) ∧
      w'.ownsRow w.heap.size 21 1 (.slice (some ⟨g, 0, none⟩) m m) m ((unpackAll 3 b m).map (.int .i32)) ∧ Below w.heap.size w w' := by
  have Hc := Lib.hid hc; clear hc
  have Hz := Lib.hid hz; clear hz
  have Hl := Lib.hid hl
  rw [hl]
  clear hl
  go_enter Try.func20, Try.ntmps20
  go_wp2_with (first
    | (go_at_call 40; refine (fright_yes _ _ _ (by omega) (by omega) (by omega) (by omega)).mono ?_; rintro e w1 ⟨rfl, hb1⟩; have hB1 : Below w.heap.size w w1 := Below.trans (by go_grown) (hb1.mono (by go_size)); have hx0 : w1.cell? ⟨w.heap.size, 0, none⟩ = some (.int .i64 ch) := kc hb1 (by simp [go_sem]); have hx1 : w1.cell? ⟨w.heap.size, 1, none⟩ = some (.int .i64 3) := kc hb1 (by simp [go_sem]); have hs1 : w.heap.size + 1 ≤ w1.heap.size := (by have := hb1.size; simpa using this); clear hb1)
    | (at_make; refine wpList_mk rfl _ _ rfl st40 (w.heap.size + 1) m _ _ _ rfl rfl (by first | rfl | omega | (simp; done) | (simp; omega)) (by omega) (by unfold maxLen; omega) (by omega) ?_; intro w2 hown2 hg2; have hb2 := grown_none hg2; have hy0 := kc hb2 hx0; have hy1 := kc hb2 hx1; have hB2 := hB1.trans (hb2.mono hB1.size); have hg0 := hb2.size))
  go_loopw [6, 7] (fun v i wr => ∃ k : Nat, k ≤ m ∧ i = .int .i64 ((k : Int) * 3) ∧ v = .slice (some ⟨w1.heap.size, 0, none⟩) k m ∧
      wr.ownsRow (w.heap.size + 1) 21 1 (.slice (some ⟨w1.heap.size, 0, none⟩) k m) k ((unpackAll 3 b k).map (.int .i32)) ∧
      wr.cell? ⟨w.heap.size, 0, none⟩ = some (.int .i64 ch) ∧ wr.cell? ⟨w.heap.size, 1, none⟩ = some (.int .i64 3) ∧ Below w.heap.size w wr)
    (fun _ i _ => m * 3 - (intOf i).toNat)
  case atStart => exact ⟨0, Nat.zero_le _, rfl, rfl, by simpa [unpackAll] using hown2, hy0, hy1, hB2⟩
  case round =>
    obtain ⟨k, hk, rfl, rfl, hown, hz0, hz1, hB⟩ := hrel
    have hsB := hB.size
    by_cases hlt : k < m
    · have hl := Hl.out
      obtain ⟨bb, off, x0, rfl, hx0, hxm0, hcx0, hbx⟩ := Hc.out.get (k := k * 3) (by omega)
      obtain ⟨bb1, off1, x1, hh, hx1, hxm1, hcx1, _⟩ := Hc.out.get (k := k * 3 + 1) (by omega)
      simp only [Option.some.injEq, Addr.mk.injEq, and_true] at hh
      obtain ⟨rfl, rfl⟩ := hh
      obtain ⟨bb2, off2, x2, hh, hx2, hxm2, hcx2, _⟩ := Hc.out.get (k := k * 3 + 2) (by omega)
      simp only [Option.some.injEq, Addr.mk.injEq, and_true] at hh
      obtain ⟨rfl, rfl⟩ := hh
      replace hcx0 := kc hB hcx0
      replace hcx1 := kc hB hcx1
      replace hcx2 := kc hB hcx2
      obtain ⟨p0, q0⟩ := Hz.out _ hxm0
      obtain ⟨p1, q1⟩ := Hz.out _ hxm1
      obtain ⟨p2, q2⟩ := Hz.out _ hxm2
      have HX0 := Lib.hid hx0; clear hx0 hxm0
      have HX1 := Lib.hid hx1; clear hx1 hxm1
      have HX2 := Lib.hid hx2; clear hx2 hxm2
      clear hl
      go_wp2_with fail
      refine wp_loop_rounds 4 ?_
      repeat (rw [rounds_succ]; go_wp2_with (at_builtin; refine wpList_push_fits rfl _ _ rfl st40 (w.heap.size + 1) _ _ _ _ rfl rfl hown rfl (by omega) ?_; intro w3 hown3 hg3; have hu0 := kp hg3 hz0 (by intro k' e; cases e; omega); have hu1 := kp hg3 hz1 (by intro k' e; cases e; omega)))
      go_roundw
      case rel =>
        refine ⟨k + 1, by omega, by go_num, rfl, ?_, hu0, hu1, below_pushed hB hg3 hsB (by intro k' e; cases e; omega)⟩
        rw [el3 x0 x1 x2 p0 q0 p1 q1 p2 q2] at hown3
        rw [unpackAll_succ, chunk3 HX0.out HX1.out HX2.out, List.map_append]; exact hown3
      case measure => simp [intOf]; omega
    · have hkl : k = m := by omega
      subst hkl
      go_wp2_with fail
      go_returns
      exact ⟨w1.heap.size, rfl, own_base hown (by omega), hB⟩

set_option maxRecDepth 100000 in
set_option maxHeartbeats 1000000 in
theorem unpack_ok4 (ch : Nat) (a : Option Addr) (b : List Int) (cap m : Nat) (w : World) (a1 : 1 ≤ ch) (a2 : ch ≤ 8) (hl : b.length = m * 4) (hm : m ≤ 1000) (hd : (m : Int) * 4 % ((ch : Int) * 4) = 0)
    (hc : Cells w a (b.map (.int .u8))) (hz : ∀ x ∈ b, 0 ≤ x ∧ x ≤ 255) :
    Calls Try.prog 20 #[.agg #[.int .i64 ch, .int .i64 4], .slice a b.length cap] w fun e w' => ∃ g, e = .returned (.tuple #[.slice (some ⟨g, 0, none⟩) m m, .int .i64 0]) ∧
      w'.ownsRow w.heap.size 21 1 (.slice (some ⟨g, 0, none⟩) m m) m ((unpackAll 4 b m).map (.int .i32)) ∧ Below w.heap.size w w' := by
  have Hc := Lib.hid hc; clear hc
  have Hz := Lib.hid hz; clear hz
  have Hl := Lib.hid hl
  rw [hl]
  clear hl
  go_enter Try.func20, Try.ntmps20
  go_wp2_with (first
    | (go_at_call 40; refine (fright_yes _ _ _ (by omega) (by omega) (by omega) (by omega)).mono ?_; rintro e w1 ⟨rfl, hb1⟩; have hB1 : Below w.heap.size w w1 := Below.trans (by go_grown) (hb1.mono (by go_size)); have hx0 : w1.cell? ⟨w.heap.size, 0, none⟩ = some (.int .i64 ch) := kc hb1 (by simp [go_sem]); have hx1 : w1.cell? ⟨w.heap.size, 1, none⟩ = some (.int .i64 4) := kc hb1 (by simp [go_sem]); have hs1 : w.heap.size + 1 ≤ w1.heap.size := (by have := hb1.size; simpa using this); clear hb1)
    | (at_make; refine wpList_mk rfl _ _ rfl st40 (w.heap.size + 1) m _ _ _ rfl rfl (by first | rfl | omega | (simp; done) | (simp; omega)) (by omega) (by unfold maxLen; omega) (by omega) ?_; intro w2 hown2 hg2; have hb2 := grown_none hg2; have hy0 := kc hb2 hx0; have hy1 := kc hb2 hx1; have hB2 := hB1.trans (hb2.mono hB1.size); have hg0 := hb2.size))
  go_loopw [6, 7] (fun v i wr => ∃ k : Nat, k ≤ m ∧ i = .int .i64 ((k : Int) * 4) ∧ v = .slice (some ⟨w1.heap.size, 0, none⟩) k m ∧
      wr.ownsRow (w.heap.size + 1) 21 1 (.slice (some ⟨w1.heap.size, 0, none⟩) k m) k ((unpackAll 4 b k).map (.int .i32)) ∧
      wr.cell? ⟨w.heap.size, 0, none⟩ = some (.int .i64 ch) ∧ wr.cell? ⟨w.heap.size, 1, none⟩ = some (.int .i64 4) ∧ Below w.heap.size w wr)
    (fun _ i _ => m * 4 - (intOf i).toNat)
  case atStart => exact ⟨0, Nat.zero_le _, rfl, rfl, by simpa [unpackAll] using hown2, hy0, hy1, hB2⟩
  case round =>
    obtain ⟨k, hk, rfl, rfl, hown, hz0, hz1, hB⟩ := hrel
    have hsB := hB.size
    by_cases hlt : k < m
    · have hl := Hl.out
      obtain ⟨bb, off, x0, rfl, hx0, hxm0, hcx0, hbx⟩ := Hc.out.get (k := k * 4) (by omega)
      obtain ⟨bb1, off1, x1, hh, hx1, hxm1, hcx1, _⟩ := Hc.out.get (k := k * 4 + 1) (by omega)
      simp only [Option.some.injEq, Addr.mk.injEq, and_true] at hh
      obtain ⟨rfl, rfl⟩ := hh
      obtain ⟨bb2, off2, x2, hh, hx2, hxm2, hcx2, _⟩ := Hc.out.get (k := k * 4 + 2) (by omega)
      simp only [Option.some.injEq, Addr.mk.injEq, and_true] at hh
      obtain ⟨rfl, rfl⟩ := hh
      obtain ⟨bb3, off3, x3, hh, hx3, hxm3, hcx3, _⟩ := Hc.out.get (k := k * 4 + 3) (by omega)
      simp only [Option.some.injEq, Addr.mk.injEq, and_true] at hh
      obtain ⟨rfl, rfl⟩ := hh
      replace hcx0 := kc hB hcx0
      replace hcx1 := kc hB hcx1
      replace hcx2 := kc hB hcx2
      replace hcx3 := kc hB hcx3
      obtain ⟨p0, q0⟩ := Hz.out _ hxm0
      obtain ⟨p1, q1⟩ := Hz.out _ hxm1
      obtain ⟨p2, q2⟩ := Hz.out _ hxm2
      obtain ⟨p3, q3⟩ := Hz.out _ hxm3
      have HX0 := Lib.hid hx0; clear hx0 hxm0
      have HX1 := Lib.hid hx1; clear hx1 hxm1
      have HX2 := Lib.hid hx2; clear hx2 hxm2
      have HX3 := Lib.hid hx3; clear hx3 hxm3
      clear hl
      go_wp2_with fail
      refine wp_loop_rounds 5 ?_
      repeat (rw [rounds_succ]; go_wp2_with (at_builtin; refine wpList_push_fits rfl _ _ rfl st40 (w.heap.size + 1) _ _ _ _ rfl rfl hown rfl (by omega) ?_; intro w3 hown3 hg3; have hu0 := kp hg3 hz0 (by intro k' e; cases e; omega); have hu1 := kp hg3 hz1 (by intro k' e; cases e; omega)))
      go_roundw
      case rel =>
        refine ⟨k + 1, by omega, by go_num, rfl, ?_, hu0, hu1, below_pushed hB hg3 hsB (by intro k' e; cases e; omega)⟩
        rw [el4 x0 x1 x2 x3 p0 q0 p1 q1 p2 q2 p3 q3] at hown3
        rw [unpackAll_succ, chunk4 HX0.out HX1.out HX2.out HX3.out, List.map_append]; exact hown3
      case measure => simp [intOf]; omega
    · have hkl : k = m := by omega
      subst hkl
      go_wp2_with fail
      go_returns
      exact ⟨w1.heap.size, rfl, own_base hown (by omega), hB⟩

end Go.Proofs.Ytphajgehfbimnaa
