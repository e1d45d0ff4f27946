/-
  plugboardlaw42.AudiosPlay: the walk: for any sink, number of samples and rate the law returns true and changes nothing that was there.
-/
import Derived.Test.YtphajgehfbimnaaAudPlay2
namespace Go.Proofs.Ytphajgehfbimnaa
open Go.RowKit
set_option linter.unusedVariables false

set_option maxRecDepth 100000 in
set_option maxHeartbeats 2000000 in
theorem play_bad (ta ro le re got rate : Int) (w : World) (h : ¬ (rate ≤ 16777216 ∧ sinkOk ta ro le re ∧ 0 ≤ got ∧ got ≤ 1048576)) :
    Calls Try.prog 21 #[.agg #[.int .i64 ta, .int .i64 ro, .int .i64 le, .int .u32 re], .int .i64 got, .int .u32 rate] w fun e w' =>
      e = .returned (.tuple #[.agg #[.int .i64 0, .int .i64 0, .int .i64 0, .int .u32 0], .int .u32 0, .int .i64 0, .int .i64 1]) ∧ Below w.heap.size w w' := by
  by_cases c1 : rate ≤ 16777216
  · by_cases c2 : sinkOk ta ro le re
    · have c2' := Lib.hid c2
      by_cases c3 : 0 ≤ got
      · have c4 : 1048576 < got := by
          rcases Classical.em (got ≤ 1048576) with h' | h'
          · exact absurd ⟨c1, c2, c3, h'⟩ h
          · omega
        clear h c2
        go_enter Try.func21, Try.ntmps21
        go_wp2_with (go_at_call 41; refine (sright_yes _ _ _ _ _ c2'.out).mono ?_; rintro e w1 ⟨rfl, hb1⟩; obtain ⟨n0, n1, n2, n3, nf, nlt⟩ := blk4 (kb hb1 (blk_new _ _)); simp only [World.size_alloc] at n0 n1 n2 n3 nf nlt; have hB1 : Below w.heap.size w w1 := Below.trans (by go_grown) (hb1.mono (by go_size)); clear hb1)
        refine bodyPost_ret ?_ rfl ⟨rfl, by go_grown⟩
        simp [results, Try.results21, go_sem, n0, n1, n2, n3]
      · clear h c2
        go_enter Try.func21, Try.ntmps21
        go_wp2_with (go_at_call 41; refine (sright_yes _ _ _ _ _ c2'.out).mono ?_; rintro e w1 ⟨rfl, hb1⟩; obtain ⟨n0, n1, n2, n3, nf, nlt⟩ := blk4 (kb hb1 (blk_new _ _)); simp only [World.size_alloc] at n0 n1 n2 n3 nf nlt; have hB1 : Below w.heap.size w w1 := Below.trans (by go_grown) (hb1.mono (by go_size)); clear hb1)
        refine bodyPost_ret ?_ rfl ⟨rfl, by go_grown⟩
        simp [results, Try.results21, go_sem, n0, n1, n2, n3]
    · have c2' := Lib.hid c2
      clear h c2
      go_enter Try.func21, Try.ntmps21
      go_wp2_with (go_at_call 41; refine (sright_no _ _ _ _ _ c2'.out).mono ?_; rintro e w1 ⟨rfl, hb1⟩; obtain ⟨n0, n1, n2, n3, nf, nlt⟩ := blk4 (kb hb1 (blk_new _ _)); simp only [World.size_alloc] at n0 n1 n2 n3 nf nlt; have hB1 : Below w.heap.size w w1 := Below.trans (by go_grown) (hb1.mono (by go_size)); clear hb1)
      refine bodyPost_ret ?_ rfl ⟨rfl, by go_grown⟩
      simp [results, Try.results21, go_sem, n0, n1, n2, n3]
  · clear h
    go_enter Try.func21, Try.ntmps21
    go_wp2_with fail
    refine bodyPost_ret ?_ rfl ⟨rfl, by go_grown⟩
    simp [results, Try.results21, go_sem]

set_option maxRecDepth 100000 in
set_option maxHeartbeats 4000000 in
theorem audplay_walk (ta ro le re got rate : Int) (w : World) (r0 : 0 ≤ re) (q0 : 0 ≤ rate) :
    Calls Try.prog 6 #[.agg #[.int .i64 ta, .int .i64 ro, .int .i64 le, .int .u32 re], .int .i64 got, .int .u32 rate] w fun e w' => e = .returned (.bool true) ∧ Below w.heap.size w w' := by
  by_cases hall : rate ≤ 16777216 ∧ sinkOk ta ro le re ∧ 0 ≤ got ∧ got ≤ 1048576
  · obtain ⟨c1, c2, c3, c4⟩ := hall
    have c2' := Lib.hid c2
    clear c2
    go_enter Try.func6, Try.ntmps6
    go_wp2_with fail
    refine (play_ok _ _ _ _ _ _ _ c2'.out r0 c3 c4 q0 c1).mono ?_
    rintro e w1 ⟨rfl, hb1⟩
    have K0 := kb hb1 (blk_new w _)
    obtain ⟨e0, e1, e2, e3, ff, hlt⟩ := blk4 K0
    have hB1 : Below w.heap.size w w1 := Below.trans (by go_grown) (hb1.mono (by go_size))
    clear hb1
    have hsB := hB1.size
    go_wp2_with fail
    refine (lright_yes _ _ _ _ _ c2'.out).mono ?_
    rintro e w2 ⟨rfl, hb2⟩
    have K1 := kb hb2 (blk_new w1 _)
    replace K0 := kb hb2 (blk_old K0)
    clear e0 e1 e2 e3 ff hlt
    obtain ⟨e0, e1, e2, e3, ff, hlt⟩ := blk4 K0
    obtain ⟨g0, g1, g2, g3, gf, glt⟩ := blk4 K1
    replace hB1 : Below w.heap.size w w2 := Below.trans (by go_grown) (hb2.mono (by go_size))
    clear hb2
    go_wp2_with fail
    refine (lplay_ok _ _ _ _ _ _ _ c2'.out r0 c3 c4 q0 c1).mono ?_
    rintro e w3 ⟨rfl, hb3⟩
    replace K1 := kb hb3 K1
    clear e0 e1 e2 e3 ff hlt g0 g1 g2 g3 gf glt
    obtain ⟨g0, g1, g2, g3, gf, glt⟩ := blk4 K1
    have hs3 := hb3.size
    replace hB1 := hB1.trans (hb3.mono hB1.size)
    replace hsB := hB1.size
    clear hb3
    go_wp2_with fail
    refine (lives_ok _).mono ?_
    rintro e w4 ⟨rfl, hb4⟩
    go_wp2_with fail
    go_returns
    exact ⟨rfl, Below.trans (by go_grown) (hb4.mono (by go_size))⟩
  · have Hall := Lib.hid hall
    by_cases c1 : rate ≤ 16777216
    · by_cases c2 : sinkOk ta ro le re
      · have c2' := Lib.hid c2
        have c3 : got < 0 ∨ 1048576 < got := by
          rcases Classical.em (0 ≤ got ∧ got ≤ 1048576) with h' | h'
          · exact absurd ⟨c1, c2, h'⟩ hall
          · omega
        clear c2 hall
        rcases c3 with c3 | c3
        all_goals
          go_enter Try.func6, Try.ntmps6
          go_wp2_with fail
          refine (play_bad _ _ _ _ _ _ _ Hall.out).mono ?_
          rintro e w1 ⟨rfl, hb1⟩
          have K0 := kb hb1 (blk_new w _)
          obtain ⟨e0, e1, e2, e3, ff, hlt⟩ := blk4 K0
          have hB1 : Below w.heap.size w w1 := Below.trans (by go_grown) (hb1.mono (by go_size))
          have hsB := hB1.size
          clear hb1
          go_wp2_with fail
          refine (lright_yes _ _ _ _ _ c2'.out).mono ?_
          rintro e w2 ⟨rfl, hb2⟩
          have K1 := kb hb2 (blk_new w1 _)
          obtain ⟨g0, g1, g2, g3, gf, glt⟩ := blk4 K1
          replace hB1 : Below w.heap.size w w2 := Below.trans (by go_grown) (hb2.mono (by go_size))
          clear hb2 K0 K1 e0 e1 e2 e3 ff hlt
          replace hsB := hB1.size
          go_wp2_with fail
          refine (lives_ok _).mono ?_
          rintro e w4 ⟨rfl, hb4⟩
          go_wp2_with fail
          go_returns
          exact ⟨rfl, Below.trans (by go_grown) (hb4.mono (by go_size))⟩
      · have c2' := Lib.hid c2
        clear c2 hall
        go_enter Try.func6, Try.ntmps6
        go_wp2_with fail
        refine (play_bad _ _ _ _ _ _ _ Hall.out).mono ?_
        rintro e w1 ⟨rfl, hb1⟩
        have K0 := kb hb1 (blk_new w _)
        obtain ⟨e0, e1, e2, e3, ff, hlt⟩ := blk4 K0
        have hB1 : Below w.heap.size w w1 := Below.trans (by go_grown) (hb1.mono (by go_size))
        have hsB := hB1.size
        clear hb1
        go_wp2_with fail
        refine (lright_no _ _ _ _ _ c2'.out).mono ?_
        rintro e w2 ⟨rfl, hb2⟩
        have K1 := kb hb2 (blk_new w1 _)
        obtain ⟨g0, g1, g2, g3, gf, glt⟩ := blk4 K1
        replace hB1 : Below w.heap.size w w2 := Below.trans (by go_grown) (hb2.mono (by go_size))
        clear hb2 K0 K1 e0 e1 e2 e3 ff hlt
        replace hsB := hB1.size
        go_wp2_with fail
        refine (lives_ok _).mono ?_
        rintro e w4 ⟨rfl, hb4⟩
        go_wp2_with fail
        go_returns
        exact ⟨rfl, Below.trans (by go_grown) (hb4.mono (by go_size))⟩
    · go_enter Try.func6, Try.ntmps6
      clear hall
      go_wp2_with fail
      refine (play_bad _ _ _ _ _ _ _ Hall.out).mono ?_
      rintro e w1 ⟨rfl, hb1⟩
      have hB1 : Below w.heap.size w w1 := Below.trans (by go_grown) (hb1.mono (by go_size))
      clear hb1
      go_wp2_with fail
      refine (lives_ok _).mono ?_
      rintro e w2 ⟨rfl, hb2⟩
      have hs1 := hB1.size
      go_wp2_with fail
      go_returns
      exact ⟨rfl, Below.trans (by go_grown) (hb2.mono (by go_size))⟩
end Go.Proofs.Ytphajgehfbimnaa
