/-
  plugboardlaw02.ChecksSixteen: the walk.
-/
import Derived.Test.YtolmhlikmjkkfaaChk8
import Derived.Deep.DeepCutAuto
namespace Go.Proofs.Ytolmhlikmjkkfaa
open Go.RowKit
set_option linter.unusedVariables false

theorem strOf_append (l m : List Nat) : strOf l ++ strOf m = strOf (l ++ m) := by
  have e : ∀ a b : ByteArray, a.data ++ b.data = (a ++ b).data := fun a b => (ByteArray.data_append).symm
  unfold strOf strOfNums
  apply ByteArray.ext
  rw [← e]
  simp

theorem Fresh8.get {w : World} {base : Nat} {a : Option Addr} {l : List Nat} (h : Fresh8 w base a l) {k : Nat} (hk : k < l.length) :
    ∃ g x, a = some ⟨g, 0, none⟩ ∧ base ≤ g ∧ g < w.heap.size ∧ l[k]? = some x ∧ w.cell? ⟨g, k, none⟩ = some (.int .u8 x) ∧ w.frozen? ⟨g, k, none⟩ = false := by
  have hne : l ≠ [] := by intro e; subst e; simp at hk
  obtain ⟨g, cur, ha, hb, hg, ht⟩ := h hne
  obtain ⟨b, off, x, ha', hx, -, hc, -⟩ := Cells.get (α := Nat) (f := fun n : Nat => Value.int .u8 (n : Int)) h.cells hk
  rw [ha] at ha'
  simp only [Option.some.injEq, Addr.mk.injEq, and_true] at ha'
  obtain ⟨rfl, rfl⟩ := ha'
  rw [Nat.zero_add] at hc
  exact ⟨g, x, ha, hb, (Array.getElem?_eq_some_iff.1 hg).1, hx, hc, blk_frozen hg k⟩
theorem Fresh8.set {w : World} {base g : Nat} {l : List Nat} (h : Fresh8 w base (some ⟨g, 0, none⟩) l) (k x : Nat) : Fresh8 (w.setCell ⟨g, k, none⟩ (.int .u8 x)) base (some ⟨g, 0, none⟩) (l.set k x) := by
  intro hne
  have hne' : l ≠ [] := by intro e; subst e; simp at hne
  obtain ⟨g', cur, ha, hb, hg, ht⟩ := h hne'
  simp only [Option.some.injEq, Addr.mk.injEq, and_true] at ha
  subst ha
  refine ⟨g, _, rfl, hb, blk_set hg _, ?_⟩
  rw [Array.toList_setIfInBounds, List.length_set, ← n8_set, ← ht, List.take_set]

theorem strOf_take (l : List Nat) (n : Nat) : (strOf l).extract 0 n = strOf (l.take n) := by
  unfold strOf strOfNums
  apply ByteArray.ext
  rw [ByteArray.data_extract]
  simp [List.map_take]
theorem strOf_size (l : List Nat) : (strOf l).size = l.length := by
  unfold strOf strOfNums
  simp [ByteArray.size]

theorem two_last (l : List Nat) (h : 2 ≤ l.length) : ∃ m x y, l = m ++ [x, y] := by
  have hd : (l.drop (l.length - 2)).length = 2 := by simp; omega
  match hm : l.drop (l.length - 2), hd with
  | [x, y], _ => exact ⟨l.take (l.length - 2), x, y, by rw [← hm, List.take_append_drop]⟩

set_option maxRecDepth 100000 in
set_option maxHeartbeats 8000000 in
theorem sixteen_walk (a : Option Addr) (l : List Nat) (cap : Nat) (w : World) (hc : Cells w a (n8 l)) (hl : int8s l) (hn : l.length ≤ 9223372036854775807) (hcap : l.length ≤ cap) (hm : cap ≤ maxLen) (h0 : a = none → cap = 0) :
    Calls Try.prog 5 #[.slice a l.length cap] w fun e w' => e = .returned (.bool true) ∧ Below w.heap.size w w' := by
  by_cases hlong : 300 < l.length
  · go_enter Try.func5, Try.ntmps5
    go_wp2_with fail
    go_returns
    exact ⟨rfl, Below.refl _ _⟩
  · have Hc := Lib.hid hc
    have Hl := Lib.hid hl
    have H0 := Lib.hid h0
    have Hm := Lib.hid hm
    have hs : Chk.sixteen l < 65536 := Nat.xor_lt_two_pow (n := 16) (Chk.run16_lt _) (by decide)
    obtain ⟨s, hsq⟩ : ∃ s, Chk.sixteen l = s := ⟨_, rfl⟩
    obtain ⟨x, hx, hx2⟩ : ∃ x : Nat, s % 256 = x ∧ x < 256 := ⟨_, rfl, Nat.mod_lt _ (by decide)⟩
    obtain ⟨y, hy, hy2⟩ : ∃ y : Nat, s / 256 = y ∧ y < 256 := ⟨_, rfl, by omega⟩
    have hxy : x + 256 * y = s := by omega
    have HA := Lib.hid (fun w hc => add_ok a l cap w hc hl (by omega) h0)
    rw [hsq, hx, hy] at HA
    have HR := Lib.hid (fun w hc => refSixteen_ok a l cap w hc hl (by omega))
    rw [hsq] at HR
    have HS := Lib.hid (fun w hc => sixteen_ok a l cap w hc hl (by omega))
    rw [hsq] at HS
    rw [hsq] at hs
    have hxI : (s : Int) % 256 = (x : Int) := by omega
    have hyI : (s : Int) / 256 = (y : Int) := by omega
    have hyI' : (y : Int) % 256 = (y : Int) := by omega
    have HSQ := Lib.hid hsq
    have HXY := Lib.hid hxy
    have HL2 : Hid ((l ++ [x, y]).length = l.length + 2) := Lib.hid (by simp)
    have hcat := strOf_append l [x, y]
    have s0 := run_str8 hc rfl h0
    clear hc hl h0 hm hsq hx hy hxy
    go_enter Try.func5, Try.ntmps5
    go_wp2_with fail
    refine (HR.out _ Hc.out).mono ?_
    rintro e w1 ⟨rfl, hb1⟩
    have z1 := hb1.size
    clear s0
    go_wp2_with fail
    refine (HA.out _ (Hc.out.below hb1)).mono ?_
    rintro e w2 ⟨a2, c2, rfl, o2, hb2⟩
    rw [HL2.out] at o2 ⊢
    have hB2 := hb1.trans (hb2.mono z1)
    have z2 := hB2.size
    obtain ⟨a2', c2', hv2, hC2, hn2, hm2, h02⟩ := own_val o2
    simp only [Value.slice.injEq, true_and] at hv2
    obtain ⟨rfl, rfl⟩ := hv2
    have C2 := Lib.hid hC2
    have H02 := Lib.hid h02
    have HM2 := Lib.hid hm2
    clear hb1 hb2 o2 hC2 h02 hm2
    go_wp2_with fail
    refine (check_ok a2 l x y c2 _ C2.out Hl.out hx2 hy2 (by omega) hn2 HM2.out H02.out).mono ?_
    intro e w3 hCS
    obtain ⟨a3, c3, rfl, hF3, hn3, hm3, h03, hb3⟩ := hCS.yes (by rw [HSQ.out, HXY.out])
    have hB3 := hB2.trans (hb3.mono z2)
    have z3 := hB3.size
    have z23 := hb3.size
    clear hCS
    go_wp2_with fail
    refine (HS.out _ (Hc.out.below hB3)).mono ?_
    rintro e w4 ⟨rfl, hb4⟩
    have hB4 := hB3.trans (hb4.mono z3)
    have z4 := hB4.size
    have hB24 : Below w2.heap.size w2 w4 := hb3.trans (hb4.mono z23)
    have F4 := Lib.hid (hF3.below hb4)
    have H03 := Lib.hid h03
    have t1 : (convert 33 9 (.slice a2 (l.length + 2) c2)).run Try.prog w4 = .ok (.string (strOf (l ++ [x, y]))) w4 := run_str8 (C2.out.below hB24) HL2.out.symm H02.out
    have t2 : (convert 33 9 (.slice (some ⟨w4.heap.size, 0, none⟩) 2 2)).run Try.prog (w4.alloc (.cells #[.int .u8 x, .int .u8 y] 5)) = .ok (.string (strOf [x, y])) (w4.alloc (.cells #[.int .u8 x, .int .u8 y] 5)) := run_str8 (cells_new w4 #[.int .u8 x, .int .u8 y] 5) (l := [x, y]) (cap := 2) rfl (by simp)
    have t3 : (convert 33 9 (.slice a3 l.length c3)).run Try.prog (w4.alloc (.cells #[.int .u8 x, .int .u8 y] 5)) = .ok (.string (strOf l)) (w4.alloc (.cells #[.int .u8 x, .int .u8 y] 5)) := run_str8 (F4.out.cells.below ((Below.refl _ _).alloc (Nat.le_refl _) _)) rfl H03.out
    have hz1 : (strOf l).size ≤ 300 := by rw [strOf_size]; omega
    have hz2 : (strOf [x, y]).size ≤ 2 := by rw [strOf_size]; simp
    clear hF3 h03 hb3 hb4 hB3
    go_wp2_with fail
    have hB5 : Below w.heap.size w (w4.alloc (.cells #[.int .u8 x, .int .u8 y] 5)) := hB4.alloc z4 _
    have hB25 : Below w2.heap.size w2 (w4.alloc (.cells #[.int .u8 x, .int .u8 y] 5)) := hB24.alloc hB24.size _
    have F5 : Hid (Fresh8 (w4.alloc (.cells #[.int .u8 x, .int .u8 y] 5)) w2.heap.size a3 l) := Lib.hid (F4.out.below ((Below.refl _ _).alloc (Nat.le_refl _) _))
    clear t1 t2 t3 F4 hB4 hB24 z4
    clear hz1 hz2
    have hcl2 : (n8 (l ++ [x, y])).length = l.length + 2 := by simp [n8]
    obtain ⟨a4, hr4, hc4, h04⟩ := cutHigh st8 C2.out hcl2.symm hn2 H02.out l.length (by omega)
    have htk4 : (n8 (l ++ [x, y])).take l.length = n8 l := by simp [n8]
    rw [htk4] at hc4
    have HR4 := Lib.hid hr4
    have HC4 := Lib.hid hc4
    have H04 := Lib.hid h04
    clear hcl2 hr4 hc4 h04 htk4
    go_loopw [8] (fun i wr => ∃ (k : Nat) (l' : List Nat), k ≤ l.length ∧ i = .int .i64 k ∧ l'.length = l.length ∧ Hid (int8s l') ∧ Hid (Fresh8 wr w2.heap.size a3 l') ∧ Below w.heap.size w wr ∧ Below w2.heap.size w2 wr) (fun i _ => l.length - (intOf i).toNat)
    case atStart => exact ⟨0, l, by omega, rfl, rfl, Hl, F5, hB5, hB25⟩
    case round =>
      obtain ⟨k, l', hk, rfl, hll, HL', HF, hB, hB2r⟩ := hrel
      clear F5 hB5 hB25
      have Hll := Lib.hid hll; clear hll
      by_cases hlt : k < l.length
      · obtain ⟨g, u, rfl, hg1, hg2, hu, hcu, hfu⟩ := HF.out.get (k := k) (by rw [Hll.out]; exact hlt)
        have hu2 := HL'.out u (List.mem_of_getElem? hu)
        obtain ⟨v, hv, hv2⟩ : ∃ v : Nat, ((u : Int) + 1) % 256 = (v : Int) ∧ v < 256 := ⟨(u + 1) % 256, by simp, Nat.mod_lt _ (by decide)⟩
        clear hu
        go_wp2_with fail
        go_roundw
        case rel =>
          refine ⟨k + 1, l'.set k v, by omega, by go_num, by rw [List.length_set, Hll.out], Lib.hid ?_, Lib.hid ?_, hB.setCell (by simp; omega) _, hB2r.setCell (by simp; omega) _⟩
          · intro z hz
            rcases List.mem_or_eq_of_mem_set hz with h | h
            · exact HL'.out z h
            · subst h; exact hv2
          · exact HF.out.set k v
        case measure => simp [intOf]; omega
      · obtain rfl : k = l.length := by omega
        clear hlt hk HF
        have zr := hB.size
        by_cases hs2 : l.length < 2
        · go_wp2_with fail
          refine (check_short a l.length cap _ hs2).mono ?_
          rintro e w6 ⟨rfl, rfl⟩
          have hBf := hB
          have hB2f := hB2r
          have f1 : ∀ n, (convert 33 9 (.slice a l.length cap)).run Try.prog (wr.drewN n) = .ok (.string (strOf l)) (wr.drewN n) := fun n => run_str8 ((Hc.out.below hBf).below (drewN_below (Below.refl _ _))) rfl H0.out
          have f2 : ∀ n, (convert 33 9 (.slice a4 l.length c2)).run Try.prog (wr.drewN n) = .ok (.string (strOf l)) (wr.drewN n) := fun n => run_str8 ((HC4.out.below hB2f).below (drewN_below (Below.refl _ _))) rfl H04.out
          have hr4 := HR4.out
          have zf := hBf.size
          go_wp2_with fail
          go_quiet (fail)
          go_wp2_with (go_at_call 17; refine (lives_ok _).mono ?_; rintro e w9 ⟨rfl, hb9⟩)
          go_returns
          exact ⟨rfl, hBf.trans (Below.trans (drewN_below (Below.refl _ _)) (hb9.mono zf))⟩
        · obtain ⟨mm, x', y', hlm⟩ : ∃ mm x' y', l = mm ++ [x', y'] := two_last l (by omega)
          have hlen2 : l.length = mm.length + 2 := by rw [hlm]; simp
          have hx' : x' < 256 := Hl.out x' (by rw [hlm]; simp)
          have hy' : y' < 256 := Hl.out y' (by rw [hlm]; simp)
          have hmm8 : int8s mm := fun z hz => Hl.out z (by rw [hlm]; simp [hz])
          have hC := check_ok a mm x' y' cap wr (by rw [← hlm]; exact Hc.out.below hB) hmm8 hx' hy' (by omega) (by omega) Hm.out H0.out
          rw [← hlen2] at hC
          have HLM := Lib.hid hlm
          have HLN := Lib.hid hlen2
          have hsub : (l.length : Int) - 2 = (mm.length : Int) := by omega
          have hmlen : mm.length ≤ 298 := by omega
          have HC := Lib.hid hC
          have HM8 := Lib.hid hmm8
          have nl2 : ¬ ((l.length : Int) < 2) := by omega
          clear hlm hlen2 hC hmm8
          go_wp2_with fail
          refine HC.out.mono ?_
          clear HC
          intro e w6 hCS
          by_cases hq : Chk.sixteen mm = x' + 256 * y'
          · obtain ⟨a6, c6, rfl, hF6, hn6, hm6, h06, hb6⟩ := hCS.yes hq
            have he' : (((Chk.sixteen mm : Nat) : Int) != (x' : Int) + 256 * (y' : Int)) = false := by rw [hq]; simp
            have HF6 := Lib.hid hF6
            have H06 := Lib.hid h06
            clear hCS hq hF6 h06
            have hBf : Below w.heap.size w w6 := hB.trans (hb6.mono zr)
            have hB2f : Below w2.heap.size w2 w6 := hB2r.trans (hb6.mono hB2r.size)
            have hc6 := Hc.out.below hBf
            obtain ⟨aa, hraa, hcaa, h0aa⟩ := cutHigh st8 hc6 (n8_len l).symm hcap H0.out mm.length (by rw [HLN.out]; omega)
            have htk : (n8 l).take mm.length = n8 mm := by rw [HLM.out]; simp [n8]
            rw [htk] at hcaa
            obtain ⟨b, off, rfl, hcc⟩ := hc6 (by intro e; have := congrArg List.length e; rw [n8_len, HLN.out] at this; simp at this)
            have cx : w6.cell? ⟨b, off + mm.length, none⟩ = some (.int .u8 x') := hcc mm.length (.int .u8 x') (by rw [HLM.out]; simp [n8])
            have cy : w6.cell? ⟨b, off + (mm.length + 1), none⟩ = some (.int .u8 y') := hcc (mm.length + 1) (.int .u8 y') (by rw [HLM.out]; simp [n8])
            have HCA := Lib.hid hcaa
            clear hcc hc6 htk hcaa
            have zf := hBf.size
            go_upto_region 18 with fail
            have hw1 : IntKind.i64.wrap ((mm.length : Int) + 1) = (mm.length : Int) + 1 := by rw [IntKind.wrap_i64]; omega
            have hw2 : IntKind.u64.wrap (256 * (y' : Int)) = 256 * (y' : Int) := by rw [IntKind.wrap_u64]; omega
            have hw3 : IntKind.u64.wrap ((x' : Int) + 256 * (y' : Int)) = (x' : Int) + 256 * (y' : Int) := by rw [IntKind.wrap_u64]; omega
            have hw4 : IntKind.u64.wrap (x' : Int) = (x' : Int) := by rw [IntKind.wrap_u64]; omega
            have hw5 : IntKind.u64.wrap (y' : Int) = (y' : Int) := by rw [IntKind.wrap_u64]; omega
            have hb1 : (mm.length : Int) < (l.length : Int) := by have := HLN.out; omega
            have hb2 : (mm.length : Int) + 1 < (l.length : Int) := by have := HLN.out; omega
            have hb3 : (0 : Int) ≤ (mm.length : Int) + 1 := by omega
            have HBf := Lib.hid hBf
            have HB2f := Lib.hid hB2f
            clear hBf hB2f
            go_cut [95] (fun s95 wx => s95 = .bool false ∧ Below w6.heap.size w6 wx)
            case first =>
              go_region_held3 (fun w' => w'.cell? ⟨b, off + mm.length, none⟩ = some (.int .u8 x') ∧ w'.cell? ⟨b, off + (mm.length + 1), none⟩ = some (.int .u8 y'))
                (first | (with_reducible assumption) | ((repeat' apply And.intro) <;> first | (with_reducible assumption) | (go_simp; done) | go_cell_look) | go_keep)
                (first | (go_at_call 20; (with_reducible refine (refSixteen_ok aa mm cap _ (HCA.out.below (by go_grown)) HM8.out (by omega)).mono ?_); rintro e w7 ⟨rfl, hb7⟩; have hB7 : Below w6.heap.size w6 w7 := Below.trans (by go_grown) (hb7.mono (by go_size)); have cx7 := kc hB7 cx; have cy7 := kc hB7 cy; have hz7 := hB7.size))
              all_goals
                go_wp2_with fail
                go_meet
                exact ⟨by first | rw [he'] | simp [he'], by go_grown⟩
            case rest =>
              obtain ⟨rfl, hB8⟩ := hcut
              have hBf : Below w.heap.size w wc := HBf.out.trans (hB8.mono zf)
              have hB2f : Below w2.heap.size w2 wc := HB2f.out.trans (hB8.mono HB2f.out.size)
              clear hw1 hw2 hw3 hw4 hw5
              have f1 : ∀ n, (convert 33 9 (.slice (some ⟨b, off, none⟩) l.length cap)).run Try.prog (wc.drewN n) = .ok (.string (strOf l)) (wc.drewN n) := fun n => run_str8 ((Hc.out.below hBf).below (drewN_below (Below.refl _ _))) rfl H0.out
              have f2 : ∀ n, (convert 33 9 (.slice a4 l.length c2)).run Try.prog (wc.drewN n) = .ok (.string (strOf l)) (wc.drewN n) := fun n => run_str8 ((HC4.out.below hB2f).below (drewN_below (Below.refl _ _))) rfl H04.out
              have hr4 := HR4.out
              have zf2 := hBf.size
              have f3 : ∀ n, (convert 33 9 (.slice a6 mm.length c6)).run Try.prog (wc.drewN n) = .ok (.string (strOf mm)) (wc.drewN n) := fun n => run_str8 ((HF6.out.cells.below hB8).below (drewN_below (Below.refl _ _))) rfl H06.out
              have f4 : (strOf l).extract 0 mm.length = strOf mm := by rw [strOf_take, HLM.out]; simp
              have f5 : (strOf l).size = l.length := strOf_size l
              have f6 : (mm.length : Int) ≤ (l.length : Int) := by have := HLN.out; omega
              have hwm : IntKind.i64.wrap (mm.length : Int) = (mm.length : Int) := by rw [IntKind.wrap_i64]; omega
              go_wp2_with fail
              go_quiet (fail)
              go_wp2_with (go_at_call 17; refine (lives_ok _).mono ?_; rintro e w9 ⟨rfl, hb9⟩)
              go_returns
              exact ⟨rfl, hBf.trans (Below.trans (drewN_below (Below.refl _ _)) (hb9.mono zf2))⟩
          · obtain ⟨rfl, hb6⟩ := hCS.no hq
            have he' : (((Chk.sixteen mm : Nat) : Int) != (x' : Int) + 256 * (y' : Int)) = true := by rw [bne_iff_ne]; omega
            clear hCS hq
            have hBf : Below w.heap.size w w6 := hB.trans (hb6.mono zr)
            have hB2f : Below w2.heap.size w2 w6 := hB2r.trans (hb6.mono hB2r.size)
            have hc6 := Hc.out.below hBf
            obtain ⟨aa, hraa, hcaa, h0aa⟩ := cutHigh st8 hc6 (n8_len l).symm hcap H0.out mm.length (by rw [HLN.out]; omega)
            have htk : (n8 l).take mm.length = n8 mm := by rw [HLM.out]; simp [n8]
            rw [htk] at hcaa
            obtain ⟨b, off, rfl, hcc⟩ := hc6 (by intro e; have := congrArg List.length e; rw [n8_len, HLN.out] at this; simp at this)
            have cx : w6.cell? ⟨b, off + mm.length, none⟩ = some (.int .u8 x') := hcc mm.length (.int .u8 x') (by rw [HLM.out]; simp [n8])
            have cy : w6.cell? ⟨b, off + (mm.length + 1), none⟩ = some (.int .u8 y') := hcc (mm.length + 1) (.int .u8 y') (by rw [HLM.out]; simp [n8])
            have HCA := Lib.hid hcaa
            clear hcc hc6 htk hcaa
            have zf := hBf.size
            go_upto_region 18 with fail
            have hw1 : IntKind.i64.wrap ((mm.length : Int) + 1) = (mm.length : Int) + 1 := by rw [IntKind.wrap_i64]; omega
            have hw2 : IntKind.u64.wrap (256 * (y' : Int)) = 256 * (y' : Int) := by rw [IntKind.wrap_u64]; omega
            have hw3 : IntKind.u64.wrap ((x' : Int) + 256 * (y' : Int)) = (x' : Int) + 256 * (y' : Int) := by rw [IntKind.wrap_u64]; omega
            have hw4 : IntKind.u64.wrap (x' : Int) = (x' : Int) := by rw [IntKind.wrap_u64]; omega
            have hw5 : IntKind.u64.wrap (y' : Int) = (y' : Int) := by rw [IntKind.wrap_u64]; omega
            have hb1 : (mm.length : Int) < (l.length : Int) := by have := HLN.out; omega
            have hb2 : (mm.length : Int) + 1 < (l.length : Int) := by have := HLN.out; omega
            have hb3 : (0 : Int) ≤ (mm.length : Int) + 1 := by omega
            have HBf := Lib.hid hBf
            have HB2f := Lib.hid hB2f
            clear hBf hB2f
            go_cut [95] (fun s95 wx => s95 = .bool true ∧ Below w6.heap.size w6 wx)
            case first =>
              go_region_held3 (fun w' => w'.cell? ⟨b, off + mm.length, none⟩ = some (.int .u8 x') ∧ w'.cell? ⟨b, off + (mm.length + 1), none⟩ = some (.int .u8 y'))
                (first | (with_reducible assumption) | ((repeat' apply And.intro) <;> first | (with_reducible assumption) | (go_simp; done) | go_cell_look) | go_keep)
                (first | (go_at_call 20; (with_reducible refine (refSixteen_ok aa mm cap _ (HCA.out.below (by go_grown)) HM8.out (by omega)).mono ?_); rintro e w7 ⟨rfl, hb7⟩; have hB7 : Below w6.heap.size w6 w7 := Below.trans (by go_grown) (hb7.mono (by go_size)); have cx7 := kc hB7 cx; have cy7 := kc hB7 cy; have hz7 := hB7.size))
              all_goals
                go_wp2_with fail
                go_meet
                exact ⟨by first | rw [he'] | simp [he'], by go_grown⟩
            case rest =>
              obtain ⟨rfl, hB8⟩ := hcut
              have hBf : Below w.heap.size w wc := HBf.out.trans (hB8.mono zf)
              have hB2f : Below w2.heap.size w2 wc := HB2f.out.trans (hB8.mono HB2f.out.size)
              clear hw1 hw2 hw3 hw4 hw5
              have f1 : ∀ n, (convert 33 9 (.slice (some ⟨b, off, none⟩) l.length cap)).run Try.prog (wc.drewN n) = .ok (.string (strOf l)) (wc.drewN n) := fun n => run_str8 ((Hc.out.below hBf).below (drewN_below (Below.refl _ _))) rfl H0.out
              have f2 : ∀ n, (convert 33 9 (.slice a4 l.length c2)).run Try.prog (wc.drewN n) = .ok (.string (strOf l)) (wc.drewN n) := fun n => run_str8 ((HC4.out.below hB2f).below (drewN_below (Below.refl _ _))) rfl H04.out
              have hr4 := HR4.out
              have zf2 := hBf.size
              go_wp2_with fail
              go_quiet (fail)
              go_wp2_with (go_at_call 17; refine (lives_ok _).mono ?_; rintro e w9 ⟨rfl, hb9⟩)
              go_returns
              exact ⟨rfl, hBf.trans (Below.trans (drewN_below (Below.refl _ _)) (hb9.mono zf2))⟩
end Go.Proofs.Ytolmhlikmjkkfaa
