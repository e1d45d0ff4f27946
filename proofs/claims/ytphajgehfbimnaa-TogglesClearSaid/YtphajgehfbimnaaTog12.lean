/-
  plugboardlaw05.TogglesClear: the walk.
-/
import Derived.Test.YtphajgehfbimnaaTogO
namespace Go.Proofs.Ytphajgehfbimnaa
open Go.RowKit
set_option linter.unusedVariables false

theorem newOne {B : Nat} {w : World} {v : Value} {l : List (List Int)} (h : NewLL B w v l) : ∃ B6, Hid (B6 = B) ∧ NewLL B6 w v l := ⟨B, Lib.hid rfl, h⟩

set_option maxRecDepth 100000 in
set_option maxHeartbeats 40000000 in
theorem clear_walk (a : Option Addr) (n cap : Nat) (ll : List (List Int)) (ax : Option Addr) (l : List Int) (capx : Nat) (w : World) (h : LL w a n cap ll) (hx : Cells w ax (l.map (.int .u8))) (hl : ∀ x ∈ l, 0 ≤ x ∧ x < 256) (hln : l.length ≤ 9223372036854775807) :
    Calls Try.prog 9 #[.slice a n cap, .slice ax l.length capx] w fun e w' => e = .returned (.bool true) ∧ Below w.heap.size w w' := by
  have hlen := h.len
  have hcap := h.cap
  subst hlen
  have H := Lib.hid h; clear h
  have Hx := Lib.hid hx; clear hx
  have Hl := Lib.hid hl; clear hl
  cases hs : smallB ll 40 with
  | false =>
    have HS := Lib.hid hs; clear hs
    go_enter Try.func9, Try.ntmps9
    go_wp2_with (go_at_call 24; refine (smallLL _ _ _ _ ll _ H.out).mono ?_; rw [HS.out]; rintro e w1 ⟨rfl, rfl⟩)
    go_returns
    exact ⟨rfl, Below.refl _ _⟩
  | true =>
    obtain ⟨hn, hsm⟩ := smallB_true hs
    have HS := Lib.hid hs; clear hs
    have Hsm := Lib.hid hsm; clear hsm
    by_cases hlong : 300 < l.length
    · go_enter Try.func9, Try.ntmps9
      go_wp2_with (go_at_call 24; refine (smallLL _ _ _ _ ll _ H.out).mono ?_; rw [HS.out]; rintro e w1 ⟨rfl, rfl⟩)
      go_returns
      exact ⟨rfl, Below.refl _ _⟩
    · go_enter Try.func9, Try.ntmps9
      go_upto_region 6 with (first
        | (go_at_call 24; refine (smallLL _ _ _ _ ll _ H.out).mono ?_; rw [HS.out]; rintro e w1 ⟨rfl, rfl⟩)
        | (go_at_call 32; refine (newLL _ _ _ _ ll H.out (by omega) (fun l hl => by have := Hsm.out l hl; omega)).mono ?_; rintro e w1 ⟨x1, c1, rfl, n1, hb1⟩; have N1 := Lib.hid n1.ll; clear n1))
      have hB1 := Lib.hid hb1
      have z1 : w.heap.size ≤ w1.heap.size := hb1.size
      obtain ⟨st, left, rt, got, hT⟩ : ∃ st left rt got, trun (exOf l) (false, ll, false, []) = (st, left, rt, got) := ⟨_, _, _, _, rfl⟩
      obtain ⟨d, hinv⟩ := TInv.run (exOf l) (TInv.start ll)
      rw [hT] at hinv
      have HT := Lib.hid hT; clear hT hb1
      have hcnt := hinv.counts
      have HI := Lib.hid hinv; clear hinv
      have hml : ∀ x, (x ∈ left ∨ x ∈ got) → x.length ≤ 64 := fun x hx => by
        have := trun_mem (exOf l) (false, ll, false, []) x
        rw [HT.out] at this
        exact Hsm.out x ((this hx).elim id (fun h => by simp at h))
      have Hml := Lib.hid hml; clear hml
      obtain ⟨k1, k2, k3, k4, k5, k6⟩ := hcnt
      have HLD := Lib.hid HI.out.1
      have K6 := Lib.hid k6; clear k6
      have K1 := Lib.hid k1
      have hleft : left.length ≤ 40 := by omega
      clear k1
      go_cut [7] (fun s7 wx => ∃ g7 : Nat, s7 = .pointer (some ⟨g7, 0, none⟩) ∧ w1.heap.size < g7 ∧ OS w w1.heap.size g7 st rt left got wx)
      case first => --LONG
        have A2 : ∀ n : Nat, n < n + 1 + 1 := fun n => by omega
        have A3 : ∀ n : Nat, n < n + 1 + 1 + 1 := fun n => by omega
        go_region_with ((first
          | (go_at_call 29; refine (exchanges_ok _ l _ _ (Hx.out.below (Below.trans hB1.out (by go_grown))) Hl.out (by omega)).mono ?_; rintro e w5 ⟨v5, rfl, O5, hb5⟩; obtain ⟨a5, c5, rfl, hC5, -⟩ := own_val O5; have hB5 : Below w1.heap.size w1 w5 := Below.trans (by go_grown) (hb5.mono (by go_size)); have C5 := Lib.hid hC5; have hz5 := hb5.size; have L5 := ltrule hz5; have L5' := ltrule1 hz5; have L5s := ltrule2 hz5; simp only [World.size_drew, World.size_alloc] at hz5; have T5 : w1.heap.size < w5.heap.size := (by omega); have T5' : w1.heap.size < w5.heap.size + 1 := (by omega); obtain ⟨hc5, hf5⟩ := bcell hb5)
          | (go_at_call 28; refine (runN false false _ none a5 _ 0 _ 0 c5 _ _ ll [] (exOf l) (exOf_len l).symm (N1.out.below (Below.trans hB5 (by go_grown))) (LL.nil _) (C5.out.below (by go_grown)) (by omega) (by simp) (by rw [exOf_len]; omega) (fun x hx => by have := Hsm.out x hx; omega) (by simp) st rt left got HT.out).mono ?_; rintro e w6 ⟨x, c, y, c', rfl, n6, n6', hb6⟩; have hB6 : Below w1.heap.size w1 w6 := Below.trans (Below.trans hB5 (by go_grown)) (hb6.mono (by go_size)); obtain ⟨B6, HB6, n6, n6'⟩ := newTwo n6 n6'; have N6 := Lib.hid n6; have N6' := Lib.hid n6'; clear n6 n6'; have hz6 := hb6.size; have L6 := ltrule hz6; have L6' := ltrule1 hz6; have L6s := ltrule2 hz6; have hw56 : w5.heap.size ≤ w6.heap.size := Nat.le_trans (by go_size) hb6.size; have M6 := fun x h => ltrule hw56 x (L5 x h); have M6' := fun x h => ltrule1 hw56 x (L5 x h); have M6s := fun x h => ltrule2 hw56 x (L5 x h); have T6 : w1.heap.size < w6.heap.size := (by omega); have T6' : w1.heap.size < w6.heap.size + 1 := (by omega); have hB56 : Below w5.heap.size w5 w6 := Below.trans (by go_grown) (hb6.mono (by go_size)); obtain ⟨hc65, hf65⟩ := bcell (hb5.trans (hB56.mono hb5.size)); obtain ⟨hc6, hf6⟩ := bcell hb6)))
        all_goals
          go_wp2_with fail
          go_meet
          refine ⟨_, rfl, ?_, x, y, c, c', ⟨?_, ?_, ?_, ?_⟩, ⟨?_, ?_, ?_, ?_⟩, LL.ofNew ?_, LL.ofNew ?_, ?_⟩
          all_goals first
            | go_cell
            | (go_simp; done)
            | omega
            | (simp; omega)
            | (refine ⟨B6, ?_⟩; (repeat (first | with_reducible exact N6.out | with_reducible exact N6'.out | with_reducible refine NewLL.alloc ?_ _ | with_reducible refine NewLL.drew ?_ | with_reducible refine NewLL.setBelow ?_ ?_ _)); all_goals (rw [HB6.out]; first | (go_simp; done) | (simp; omega)))
            | (have hBf := hB1.out.trans (hB6.mono z1); clear hB1; go_grown; done)
      case rest =>
        obtain ⟨g7, rfl, h7, hS⟩ := hcut
        have HS := Lib.hid hS
        obtain ⟨x, y, c, c', ⟨p0, p1, q0, q1⟩, ⟨pf0, pf1, qf0, qf1⟩, L3, L4, hB⟩ := hS
        replace L3 := Lib.hid L3
        replace L4 := Lib.hid L4
        have k7 := cell_lt q0
        have k8 := cell_lt p0
        have hdl : ((ll.length : Int) - (left.length : Int)) = (d : Int) := by have := K1.out; omega
        have Hdl := Lib.hid hdl; clear hdl
        have i1 : 0 ≤ (ll.length : Int) - (left.length : Int) := by rw [Hdl.out]; omega
        have i2 : (ll.length : Int) - (left.length : Int) ≤ 40 := by rw [Hdl.out]; omega
        go_upto_region 7 with fail
        go_cut [8, 9] (fun s8 s9 wx => s8 = .int .i64 (d : Int) ∧ s9 = .int .i64 (got.length : Int) ∧ ∃ n, wx = wc.drewN n)
        case first => --LONG
          go_quiet (fail)
          go_wp2_with fail
          go_meet
          rw [← Hdl.out]
          exact ⟨rfl, rfl, _, rfl⟩
        case rest =>
          obtain ⟨rfl, rfl, nq, rfl⟩ := hcut
          have hSq := HS.out.below (drewN_below (n := nq) (Below.refl _ _))
          generalize wc.drewN nq = wq at *
          clear HS p0 p1 q0 q1 pf0 pf1 qf0 qf1 L3 L4 hB i1 i2 Hdl k7 k8
          have HSq := Lib.hid hSq
          obtain ⟨x, y, c, c', ⟨p0, p1, q0, q1⟩, ⟨pf0, pf1, qf0, qf1⟩, L3, L4, hB⟩ := hSq
          replace L3 := Lib.hid L3
          replace L4 := Lib.hid L4
          have Hq := Lib.hid (H.out.below hB)
          have Hxq := Lib.hid (Hx.out.below hB)
          have k7 := cell_lt q0
          have k8 := cell_lt p0
          have t0 : decide ((d : Int) < 0) = false := by rw [decide_eq_false_iff_not]; omega
          have t1 : decide (got.length < d) = false := by simp; omega
          have t2 : decide ((d : Int) + 1 < (got.length : Int)) = false := by simp; omega
          have t3 : decide (ll.length < got.length) = false := by simp; omega
          have t4 : decide ((ll.length : Int) < (got.length : Int)) = false := by simp; omega
          have t5 : decide ((got.length : Int) < (d : Int)) = false := by simp; omega
          go_upto_region 10 with fail
          clear t0 t1 t2 t3 t4 t5
          go_cut [] (fun wx => OS w w1.heap.size g7 false false left got wx)
          case first => --LONG
            go_wp2_with (go_at_call 33; refine (clearLL _ _ _ _ _ _ _ _ _ left got L3.out L4.out (by omega) (by omega) (fun x hx => by have := Hml.out x (.inl hx); omega) (fun x hx => by have := Hml.out x (.inr hx); omega)).mono ?_; rintro e w6 ⟨x', cx, y', cy, rfl, n6, n6', hb6⟩; have N6 := Lib.hid n6; have N6' := Lib.hid n6'; have HS6 := Lib.hid (HSq.out.below hb6); have t0 := kc hb6 p0; have t1 := kc hb6 p1; have t2 := kc hb6 q0; have t3 := kc hb6 q1; have t6 := kf hb6 p0 pf0; have t7 := kf hb6 p1 pf1; have t8 := kf hb6 q0 qf0; have t9 := kf hb6 q1 qf1; clear n6 n6' hb6)
            go_meet
            exact OS.set HS6.out N6.out N6'.out k8 k7 (by omega) z1 (by omega)
          case rest =>
            clear HSq p0 p1 q0 q1 pf0 pf1 qf0 qf1 L3 L4 hB k7 k8 Hq
            have hS8 := hcut
            have H8 := Lib.hid hS8
            clear hcut
            obtain ⟨st', rt', hT'⟩ := run_clean left left.length false got (Nat.le_refl _)
            have HT' := Lib.hid hT'; clear hT'
            go_upto_region 11 with fail
            go_cut [] (fun wx => OS w w1.heap.size g7 st' rt' [] (got ++ left) wx)
            case first => --LONG
              obtain ⟨x, y, c, c', ⟨p0, p1, q0, q1⟩, ⟨pf0, pf1, qf0, qf1⟩, L3, L4, hB⟩ := hS8
              replace L3 := Lib.hid L3
              replace L4 := Lib.hid L4
              have l3 := cell_lt p0
              have l4 := cell_lt q0
              have hmk := run_mkEx left.length (by omega)
              clear hcap K1 HI
              have hW : Below wc.heap.size wc ((wc.alloc (Obj.cells (zeroEx left.length) 101)).drew) := by go_grown
              have hR := runN false false x y (some ⟨wc.heap.size, 0, none⟩) _ _ c c' left.length _ ((wc.alloc (Obj.cells (zeroEx left.length) 101)).drew) left got (clean left.length) (clean_len _).symm (L3.out.below hW) (L4.out.below hW) (cells_zeroEx (blk_drew (blk_new _ _))) (by omega) (by omega) (by rw [clean_len]; omega) (fun x hx => by have := Hml.out x (.inl hx); omega) (fun x hx => by have := Hml.out x (.inr hx); omega) st' rt' [] (got ++ left) HT'.out
              replace hR := Lib.hid hR
              clear hW
              go_region_with ((first
                  | (go_at_call 28; refine hR.out.mono ?_; rintro e w6 ⟨x', cx, y', cy, rfl, n6, n6', hb6⟩; simp only [List.length_append] at n6'; have hB6 : Below wc.heap.size wc w6 := Below.trans (by go_grown) (hb6.mono (by go_size)); have N6 := Lib.hid n6; have N6' := Lib.hid n6'; have HS6 := Lib.hid (H8.out.below hB6); have t0 := kc hB6 p0; have t1 := kc hB6 p1; have t2 := kc hB6 q0; have t3 := kc hB6 q1; have t6 := kf hB6 p0 pf0; have t7 := kf hB6 p1 pf1; have t8 := kf hB6 q0 qf0; have t9 := kf hB6 q1 qf1; clear n6 n6' hb6)))
              all_goals
                go_wp2_with fail
                go_meet
                exact OS.set HS6.out N6.out N6'.out (by simp only [World.size_alloc, World.size_drew]; omega) (by simp only [World.size_alloc, World.size_drew]; omega) (by omega) z1 (by omega)
            case rest =>
              obtain ⟨x, y, c, c', ⟨p0, p1, q0, q1⟩, ⟨pf0, pf1, qf0, qf1⟩, L3, L4, hB⟩ := hcut
              replace L4 := Lib.hid L4
              have hH := H.out.below hB
              obtain ⟨a2, hr2, hl2⟩ := hH.cutHigh got.length (by omega)
              obtain ⟨a3, hr3, hl3⟩ := hH.cutLow d (by omega)
              rw [← K6.out] at hl2
              rw [← HLD.out] at hl3
              have hdn : ll.length - d = left.length := K1.out.symm
              rw [hdn] at hr3 hl3
              have HL2 := Lib.hid hl2
              have HL3 := Lib.hid hl3
              have zB := hB.size
              have k9 : d ≤ ll.length := k2
              clear L3 hcap K1 HI pf0 pf1 qf0 qf1 p0 q0 H8 HT' hl2 hl3 hdn hH
              simp only [List.length_nil] at p1
              go_upto_region 12 with fail
              go_cut [10] (fun s10 wx => ∃ a10 c10, s10 = .slice a10 (got.length + left.length) c10 ∧ Hid (LL wx a10 (got.length + left.length) c10 (got ++ left)) ∧ Below wc.heap.size wc wx)
              case first =>
                have HC := Lib.hid (cloneLL a2 _ _ got wc.drew (HL2.out.below (by go_grown)) (by omega) (fun x hx => by have := Hml.out x (.inr hx); omega))
                go_region_law
                  (first
                    | (refine step_catLL (by rfl) (.tmp 75) (.tmp 78) (by rfl) B5 wc a5 a3 got.length left.length c5 _ got left (by rfl) (by rfl) (N5.out.below (by go_grown)) HL3.out (Below.trans hB5 (by go_grown)) ?_ ?_ (by omega) ?_; (rw [HB5.out]; first | exact Nat.le_refl _ | go_size); (rw [HB5.out]; first | exact z5 | go_size); (intro a7 c7 w7 L7 hB7; have L7' := Lib.hid L7; have hB7' : Below wc.heap.size wc w7 := Below.trans (Below.trans hB5 (by go_grown)) (hB7.mono (by rw [HB5.out]; first | exact Nat.le_refl _ | go_size)); clear L7 hB7))
                    | (go_simp; go_at_call 27; go_must ((refine HC.out.mono ?_; rintro e w5 ⟨a5, c5, rfl, n5, hb5⟩; have hB5 : Below wc.heap.size wc w5 := Below.trans (by go_grown) (hb5.mono (by go_size)); obtain ⟨B5, HB5, n5⟩ := newOne n5; have N5 := Lib.hid n5; have z5 := hb5.size; clear n5 hb5))))
                all_goals
                  go_wp2_with fail
                  go_meet
                  exact ⟨a7, c7, rfl, Lib.hid (L7'.out.below (by go_grown)), by go_grown⟩
              case rest =>
                obtain ⟨a10, c10, rfl, L10, hB10⟩ := hcut
                have q1' := kc hB10 q1
                have p1' := kc hB10 p1
                have hBB := hB.trans (hB10.mono zB)
                have zBB := hBB.size
                have L4' := Lib.hid (L4.out.below hB10)
                simp only [List.length_append] at q1' L4'
                clear q1 p1 L4 hr2 hr3 HL2 HL3
                go_wp2_with (first
                  | (go_at_call 30; refine (listsLL y a10 _ _ c' c10 (got ++ left) _ L4'.out L10.out (by simp; omega)).mono ?_; rintro e w9 ⟨rfl, hb9⟩; have hB9 := hBB.trans (hb9.mono zBB); have z9 := hB9.size)
                  | (go_at_call 31; refine (lives_ok _).mono ?_; rintro e w10 ⟨rfl, hb10⟩; have hB10' := hB9.trans (hb10.mono z9)))
                go_returns
                exact ⟨rfl, hB10'⟩
end Go.Proofs.Ytphajgehfbimnaa
