/-
  plugboardlaw42.AudiosSend: the walk: for any source and any rates the law returns true and changes nothing that was there.
-/
import Derived.Test.YtphajgehfbimnaaAud1
namespace Go.Proofs.Ytphajgehfbimnaa
open Go.RowKit
set_option linter.unusedVariables false

set_option maxRecDepth 100000 in
set_option maxHeartbeats 1000000 in
theorem audsend_walk (rate rest : Int) (a : Option Addr) (l : List Int) (cap : Nat) (w : World) (h0 : 0 ≤ rate) (h1 : rate < 4294967296) (g0 : 0 ≤ rest) (g1 : rest < 4294967296)
    (hc : Cells w a (l.map (.int .u32))) (hl : ∀ x ∈ l, 0 ≤ x ∧ x < 4294967296) (hlen : l.length ≤ 9223372036854775807) :
    Calls Try.prog 3 #[.agg #[.int .u32 rate, .int .u32 rest], .slice a l.length cap] w fun e w' => e = .returned (.bool true) ∧ Below w.heap.size w w' := by
  by_cases hlong : 60 < l.length
  · go_enter Try.func3, Try.ntmps3
    go_wp2_with (go_at_call 15; refine (lives_ok _).mono ?_; rintro e w1 ⟨rfl, hb1⟩)
    go_returns
    exact ⟨rfl, Below.trans (by go_grown) (hb1.mono (by go_size))⟩
  · have Hc := Lib.hid hc; clear hc
    have Hl := Lib.hid hl; clear hl
    go_enter Try.func3, Try.ntmps3
    go_wp2_with fail
    go_loopw [5, 6, 7] (fun sent total i wr => ∃ (k : Nat) (r0 rs tt st : Int), k ≤ l.length ∧ i = .int .i64 k ∧ sent = .int .u64 st ∧ total = .int .u64 tt ∧ 0 ≤ st ∧ 0 ≤ rs ∧ rs < 4294967296 ∧ st * 65536 + rs = tt ∧ tt ≤ 4294967296 * (k + 1) ∧
        wr.cell? ⟨w.heap.size, 0, none⟩ = some (.int .u32 r0) ∧ wr.cell? ⟨w.heap.size, 1, none⟩ = some (.int .u32 rs) ∧
        wr.frozen? ⟨w.heap.size, 0, none⟩ = false ∧ wr.frozen? ⟨w.heap.size, 1, none⟩ = false ∧ Below w.heap.size w wr) (fun _ _ i _ => l.length - (intOf i).toNat)
    case atStart => exact ⟨0, rate, rest, rest, 0, by omega, rfl, rfl, by first | rfl | simp, by omega, by omega, by omega, by omega, by omega, by simp [go_sem], by simp [go_sem], by simp [go_sem], by simp [go_sem], by go_grown⟩
    case round =>
      obtain ⟨k, r0, rs, tt, st, hk, rfl, rfl, rfl, p0, p1, p2, p3, p4, c0, c1, f0, f1, hB⟩ := hrel
      have hsz := cell_lt c0
      by_cases hlt : k < l.length
      · obtain ⟨b, off, x, rfl, hx, hxm, hcw, hbx⟩ := Hc.out.get hlt
        have hcx := kc hB hcw
        obtain ⟨hx1, hx2⟩ := Hl.out x hxm
        have P3 := Lib.hid p3; clear p3
        have W0 : (wr.setCell ⟨w.heap.size, 0, none⟩ (.int .u32 x)).cell? ⟨w.heap.size, 0, none⟩ = some (.int .u32 x) := by simp [go_sem, c0]
        have W1 : (wr.setCell ⟨w.heap.size, 0, none⟩ (.int .u32 x)).cell? ⟨w.heap.size, 1, none⟩ = some (.int .u32 rs) := by simp [go_sem, c1]
        have G0 : (wr.setCell ⟨w.heap.size, 0, none⟩ (.int .u32 x)).frozen? ⟨w.heap.size, 0, none⟩ = false := by simp [go_sem, f0]
        have G1 : (wr.setCell ⟨w.heap.size, 0, none⟩ (.int .u32 x)).frozen? ⟨w.heap.size, 1, none⟩ = false := by simp [go_sem, f1]
        have hWB : Below w.heap.size w (wr.setCell ⟨w.heap.size, 0, none⟩ (.int .u32 x)) := by go_grown
        have WX : (wr.setCell ⟨w.heap.size, 0, none⟩ (.int .u32 x)).cell? ⟨b, off + k, none⟩ = some (.int .u32 x) := (hWB.cell (p := ⟨b, off + k, none⟩) hbx).trans hcw
        by_cases hbad : 16777216 < x ∨ 65535 < rs
        · go_wp2_with fail
          refine (send_bad _ _ _ hbad).mono ?_
          rintro e w4 ⟨rfl, hb4⟩
          have d0 := kc hb4 W0
          have d1 := kc hb4 W1
          have hs4 := hb4.size
          have hB4 := hWB.trans (hb4.mono hWB.size)
          clear hb4 c0 c1 f0 f1 hB W0 W1 G0 G1 hWB
          have hz4 : w.heap.size < w4.heap.size := cell_lt d0
          rcases Classical.em (16777216 < x) with hb1 | hb1
          · go_wp2_with fail
            refine (lives_ok _).mono ?_
            rintro e w5 ⟨rfl, hb5⟩
            go_wp2_with fail
            go_returns
            exact ⟨rfl, Below.trans (by go_grown) (hb5.mono (by go_size))⟩
          · have hb2 : 65535 < rs := by omega
            go_wp2_with fail
            refine (lives_ok _).mono ?_
            rintro e w5 ⟨rfl, hb5⟩
            go_wp2_with fail
            go_returns
            exact ⟨rfl, Below.trans (by go_grown) (hb5.mono (by go_size))⟩
        · have hx3 : x ≤ 16777216 := by omega
          have hx4 : rs ≤ 65535 := by omega
          clear hbad
          go_wp2_with fail
          refine (send_ok _ _ _ (by omega) (by omega) (by omega) (by omega)).mono ?_
          rintro e w4 ⟨rfl, hb4⟩
          have d0 := kc hb4 W0
          have d1 := kc hb4 W1
          have e0 := kf hb4 W0 G0
          have e1 := kf hb4 W1 G1
          have hs4 := hb4.size
          have dX := kc hb4 WX
          have hB4 := hWB.trans (hb4.mono hWB.size)
          clear hb4 c0 c1 f0 f1 hB W0 W1 G0 G1 hWB WX hcx
          have hz4 : w.heap.size < w4.heap.size := cell_lt d0
          have q1 : st + (rs + x) / 65536 = (tt + x) / 65536 := by have := P3.out; omega
          have q2 : (rs + x) % 65536 = (tt + x) % 65536 := by have := P3.out; omega
          have Q1 := Lib.hid q1; clear q1
          have Q2 := Lib.hid q2; clear q2
          have n1 : 0 ≤ (rs + x) / 65536 := by omega
          have n2 : 0 ≤ tt := by have := P3.out; omega
          have n3 : st ≤ tt := by have := P3.out; omega
          have hbw4 : b < w4.heap.size := cell_lt dX
          go_wp2_with fail
          rw [Q1.out, Q2.out]
          have hd1 : decide ((rs + x) / 65536 < 0) = false := by simp; omega
          go_quiet (fail)
          go_wp2_with fail
          go_roundw
          case rel => exact ⟨k + 1, x, (tt + x) % 65536, tt + x, (tt + x) / 65536, by omega, by go_num, rfl, rfl, by omega, by omega, by omega, by omega, by omega, by go_cell, by go_cell, by simp [go_sem, e0, hz4], by simp [go_sem, e1, hz4], by go_grown; exact drewN_below (by go_grown)⟩
          case measure => simp [intOf]; omega
      · have hkl : k = l.length := by omega
        subst hkl
        go_wp2_with fail
        refine (lives_ok _).mono ?_
        rintro e w1 ⟨rfl, hb1⟩
        go_wp2_with fail
        go_returns
        exact ⟨rfl, Below.trans hB (hb1.mono hB.size)⟩
end Go.Proofs.Ytphajgehfbimnaa
