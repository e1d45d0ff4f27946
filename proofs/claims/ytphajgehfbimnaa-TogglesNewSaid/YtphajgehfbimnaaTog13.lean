/-
  plugboardlaw05.TogglesNew: the walk.
-/
import Derived.Test.YtphajgehfbimnaaTogO
namespace Go.Proofs.Ytphajgehfbimnaa
open Go.RowKit
set_option linter.unusedVariables false

theorem nl_push {B n : Nat} {w w' : World} {v v' : Value} {ll : List (List Int)} {us : List Value} (hu : w.ownsRow B 32 1 v n us) (hr : OwnRows .u8 5 B w us ll) (ho : w'.ownsRow B 32 1 v' (n + 1) (us ++ [.slice none 0 0])) (hg : (w.alloc (.cells #[.slice none 0 0] 32)).grownBy w' v.ownBlock) : NewLL B w' v' (ll ++ [[]]) := by
  have hlen := Rows.length (OwnRows.rows hr)
  have hn := own_len hu
  refine ⟨us ++ [.slice none 0 0], ?_, ?_⟩
  · have e : n + 1 = (ll ++ [[]]).length := by simp; omega
    rw [← e]; exact ho
  · have r0 : OwnRows .u8 5 B (w.alloc (.cells #[.slice none 0 0] 32)) us ll := OwnRows.kept (World.grownBy_alloc w _ none) hr (by simp)
    exact OwnRows.append (OwnRows.kept hg r0 (OwnRows.sep (hu.alloc _) (by decide) r0)) ⟨World.ownsRow_nil _ _ _ _, trivial⟩

theorem LL.getAt {w : World} {a : Option Addr} {n cap : Nat} {ll : List (List Int)} (h : LL w a n cap ll) {k : Nat} (hk : k < n) :
    ∃ b off ao cv l, a = some ⟨b, off, none⟩ ∧ ll[k]? = some l ∧ w.cell? ⟨b, off + k, none⟩ = some (.slice ao l.length cv) ∧ l.length ≤ cv ∧ cv ≤ maxLen ∧ (ao = none → cv = 0) ∧ Cells w ao (l.map (.int .u8)) := by
  obtain ⟨vs, h1, h2, h3, h4, h5, h6⟩ := h
  obtain ⟨b, off, v, ha, hv, hc, -⟩ := h5.getV (k := k) (by omega)
  obtain ⟨l, hl, ao, cv, rfl, g1, g2, g3, g4⟩ := Rows.get h6 hv
  exact ⟨b, off, ao, cv, l, ha, hl, hc, g1, g2, g3, g4⟩

theorem par_eq (k : Nat) : ((k : Int) % 2 == 1) = decide (k % 2 = 1) := by
  rw [Bool.eq_iff_iff, beq_iff_eq, decide_eq_true_iff]; omega
theorem par_succ (k : Nat) : decide ((k + 1) % 2 = 1) = !decide (k % 2 = 1) := by
  rw [Bool.eq_iff_iff, Bool.not_eq_true', decide_eq_true_iff, decide_eq_false_iff_not]; omega

theorem dropLast_snoc_len {α : Type} (l : List α) (h : l ≠ []) (x : α) : (l.dropLast ++ [x]).length = l.length := by
  have : 0 < l.length := by cases l <;> simp_all
  simp; omega

theorem run_mk8 (n : Nat) (hn : n ≤ 1000000) (w : World) : (Instr.makeSlice 32 (.int .i64 (n : Int)) (.int .i64 (n : Int))).run Try.prog w = .ok (.slice (some ⟨w.heap.size, 0, none⟩) n n) (w.alloc (.cells (madeCells #[.int .u8 0] n) 5)) := by
  obtain ⟨i, hi, hz0, hz1, hz2⟩ := info_parts st8.info
  have := run_make (P := Try.prog) w 32 5 i _ st8.und hi hz0 .i64 .i64 n n (by omega) (by omega) (by rw [hz2]; omega) (by omega)
  rw [hz1, Int.toNat_natCast, Nat.mul_one] at this
  exact this

/-- The last packet of a list that the call owns is replaced by a new one of zeros. -/
theorem nl_last {B n c m : Nat} {w : World} {b : Nat} {ll : List (List Int)} (h : NewLL B w (.slice (some ⟨b, 0, none⟩) n c) ll) (hn : n = ll.length) (h0 : 0 < n) (hB : B ≤ w.heap.size) (hm : m ≤ 1000000) :
    NewLL B ((w.alloc (.cells (madeCells #[.int .u8 0] m) 5)).setCell ⟨b, n - 1, none⟩ (.slice (some ⟨w.heap.size, 0, none⟩) m m)) (.slice (some ⟨b, 0, none⟩) n c) (ll.dropLast ++ [List.replicate m 0]) := by
  obtain ⟨us, hu, hr⟩ := h
  subst hn
  have hun := own_len hu
  have hA := hu.alloc (.cells (madeCells #[.int .u8 0] m) 5)
  have hS := hA.stored (ll.length - 1) (.slice (some ⟨w.heap.size, 0, none⟩) m m)
  have hlen := Rows.length (OwnRows.rows hr)
  have hb : b < w.heap.size := (hu.lt b rfl).2
  have hne : us ≠ [] := by intro e; rw [e, List.length_nil] at hun; omega
  have hset : us.set (ll.length - 1) (.slice (some ⟨w.heap.size, 0, none⟩) m m) = us.dropLast ++ [.slice (some ⟨w.heap.size, 0, none⟩) m m] := by
    have e : us = us.dropLast ++ [us.getLast hne] := (List.dropLast_concat_getLast hne).symm
    have el : us.dropLast.length = ll.length - 1 := by simp; omega
    conv => lhs; rw [e]
    rw [List.set_append_right _ _ (by omega), el, Nat.sub_self, List.set_cons_zero]
  have hln : (ll.dropLast ++ [List.replicate m (0 : Int)]).length = ll.length := dropLast_snoc_len ll (by intro e; subst e; simp at h0) _
  have hnew : w.heap.size < (w.alloc (.cells (madeCells #[.int .u8 0] m) 5)).heap.size := by simp
  refine ⟨us.dropLast ++ [.slice (some ⟨w.heap.size, 0, none⟩) m m], by rw [hln, ← hset]; exact hS.1, ?_⟩
  have hr1 : OwnRows .u8 5 B w us.dropLast ll.dropLast := by
    have hd : ∀ (us : List Value) (ll : List (List Int)), OwnRows .u8 5 B w us ll → OwnRows .u8 5 B w us.dropLast ll.dropLast := by
      intro us
      induction us with
      | nil => intro ll h; cases ll with | nil => trivial | cons _ _ => exact h.elim
      | cons u us ih =>
        intro ll h
        cases ll with
        | nil => exact h.elim
        | cons l ll =>
          cases us with
          | nil => cases ll with | nil => trivial | cons _ _ => exact h.2.elim
          | cons u2 us =>
            cases ll with
            | nil => exact h.2.elim
            | cons l2 ll => exact ⟨h.1, ih (l2 :: ll) h.2⟩
    exact hd us ll hr
  have hr2 := OwnRows.kept (World.grownBy_alloc w (.cells (madeCells #[.int .u8 0] m) 5) none) hr1 (by simp)
  refine OwnRows.append (OwnRows.kept hS.2 hr2 (OwnRows.sep hA (by decide) hr2)) ⟨?_, trivial⟩
  have hz : (madeCells #[.int .u8 0] m).toList = List.replicate m (Value.int .u8 0) := toList_madeCells_one _ _
  have hown : (w.alloc (.cells (madeCells #[.int .u8 0] m) 5)).ownsRow B 5 1 (.slice (some ⟨w.heap.size, 0, none⟩) m m) m (List.replicate m (Value.int .u8 0)) :=
    ⟨by simp, .inr ⟨w.heap.size, m, _, rfl, hB, blk_new w _, Nat.le_refl _, by unfold maxLen; omega, by simp [madeCells], by rw [hz]; simp⟩⟩
  have := hown.kept hS.2 (.inr (by simp [Value.ownBlock]; omega))
  simpa using this

set_option maxRecDepth 100000 in
set_option maxHeartbeats 40000000 in
theorem new_walk (a : Option Addr) (n cap m g : Nat) (ll : List (List Int)) (w : World) (h : LL w a n cap ll) (hm : m < 65536) (hg : g < 65536) :
    Calls Try.prog 10 #[.slice a n cap, .int .u16 m, .int .u16 g] w fun e w' => e = .returned (.bool true) ∧ Below w.heap.size w w' := by
  have hlen := h.len
  subst hlen
  have H := Lib.hid h; clear h
  cases hs : smallB ll 40 with
  | false =>
    have HS := Lib.hid hs; clear hs
    go_enter Try.func10, Try.ntmps10
    go_wp2_with (go_at_call 24; refine (smallLL _ _ _ _ ll _ H.out).mono ?_; rw [HS.out]; rintro e w1 ⟨rfl, rfl⟩)
    go_returns
    exact ⟨rfl, Below.refl _ _⟩
  | true =>
    obtain ⟨hn, hsm⟩ := smallB_true hs
    have HS := Lib.hid hs; clear hs
    have Hsm := Lib.hid hsm; clear hsm
    go_enter Try.func10, Try.ntmps10
    go_wp2_with (first
      | (go_at_call 24; refine (smallLL _ _ _ _ ll _ H.out).mono ?_; rw [HS.out]; rintro e w1 ⟨rfl, rfl⟩)
      | (go_at_call 27; refine (cloneLL _ _ _ ll _ H.out (by omega) (fun l hl => by have := Hsm.out l hl; omega)).mono ?_; rintro e w1 ⟨a1, c1, rfl, n1, hb1⟩))
    go_loopw [7, 8] (fun v i wr => ∃ k : Nat, (k : Int) ≤ (m : Int) % 4200 ∧ i = .int .i64 k ∧ Hid (NewLL w.heap.size wr v (ll ++ List.replicate k [])) ∧ Below w.heap.size w wr) (fun _ i _ => ((m : Int) % 4200).toNat - (intOf i).toNat)
    case atStart => exact ⟨0, by omega, rfl, Lib.hid (by simpa using n1), hb1⟩
    case round =>
      obtain ⟨k, hk, rfl, HN, hB⟩ := hrel
      obtain ⟨us, hown, hrows⟩ := HN.out
      have hown0 := hown
      obtain ⟨av, capv, rfl, -, -, -⟩ := own_view hown0
      have hsB := hB.size
      have hL : (ll ++ List.replicate k ([] : List Int)).length ≤ 5000 := by simp; omega
      by_cases hlt : (k : Int) < (m : Int) % 4200
      · have Hrows := Lib.hid hrows
        go_wp2_with (at_builtin; refine wpList_push rfl _ _ rfl st88 w.heap.size _ _ us rfl rfl hown rfl (by omega) (by unfold maxLen; omega) (by omega) ?_; intro v5 w5 hown5 hg5)
        go_roundw
        case rel =>
          refine ⟨k + 1, by omega, by go_num, Lib.hid ?_, ?_⟩
          · have := nl_push hown hrows hown5 hg5
            rw [List.replicate_succ', ← List.append_assoc]
            exact this
          · exact (hB.alloc hsB _).grown hg5 (by simp; omega) (fun g e => (hown.lt g e).1)
        case measure => simp [intOf]; omega
      · have hsm : ∀ l ∈ ll ++ List.replicate k ([] : List Int), l.length ≤ 64 := by
          intro l hl
          rcases List.mem_append.1 hl with hl | hl
          · exact Hsm.out l hl
          · rw [(List.mem_replicate.1 hl).2]; simp
        clear hown hrows n1 hk
        generalize ll ++ List.replicate k ([] : List Int) = L0 at *
        have HL := Lib.hid hsm
        clear hsm
        go_upto_region 8 with fail
        clear hlt
        go_cut [40] (fun s40 wx => ∃ b : Bool, s40 = .bool b ∧ wx = wr ∧ (b = true → 0 < L0.length))
        case first => --LONG
          by_cases h0 : 0 < L0.length
          · by_cases h4 : (g : Int) % 4 = 0
            all_goals
              go_wp2_with fail
              go_meet
              exact ⟨_, rfl, rfl, fun _ => h0⟩
          · go_wp2_with fail
            go_meet
            exact ⟨_, rfl, rfl, fun e => by cases e⟩
        case rest =>
          obtain ⟨b, rfl, rfl, hb⟩ := hcut

          go_upto_if 40 with fail
          go_cut [7] (fun s7 wx => ∃ a7 c7 L, s7 = .slice a7 (List.length L) c7 ∧ Hid (NewLL w.heap.size wx (.slice a7 L.length c7) L) ∧ L.length ≤ 5000 ∧ Hid ((∀ l ∈ L.dropLast, l.length ≤ 64) ∧ ∀ l ∈ L, l.length ≤ 1100) ∧ Below w.heap.size w wx)
          case first => --LONG
            cases b with
            | false =>
              go_wp2_with fail
              go_meet
              exact ⟨av, capv, L0, rfl, HN, by omega, Lib.hid ⟨fun l hl => HL.out l (List.dropLast_subset _ hl), fun l hl => Nat.le_trans (HL.out l hl) (by omega)⟩, hB⟩
            | true =>
              have h0 := hb rfl
              obtain ⟨us, hu, -⟩ := HN.out
              rcases hu.2 with ⟨he, -⟩ | ⟨bg, c0, cur, he, -⟩
              · simp only [Value.slice.injEq] at he; omega
              · simp only [Value.slice.injEq, true_and] at he
                obtain ⟨rfl, rfl⟩ := he
                obtain ⟨q, hq, hq1⟩ : ∃ q : Nat, (g : Int) / 4 % 1100 = (q : Int) ∧ q < 1100 := ⟨((g : Int) / 4 % 1100).toNat, by omega, by omega⟩
                have hA := hu.alloc (.cells (madeCells #[.int .u8 0] q) 5)
                have e0 := hA.cellAt (L0.length - 1) (by have := own_len hu; omega)
                obtain ⟨y, hy⟩ : ∃ y, us[L0.length - 1]? = some y := ⟨us[L0.length - 1]'(by have := own_len hu; omega), by simp [show L0.length - 1 < us.length from by have := own_len hu; omega]⟩
                rw [hy] at e0
                have ef := hA.frozenAt (L0.length - 1)
                have hmk := run_mk8 q (by omega)
                have hidx : ((L0.length : Int) - 1) = ((L0.length - 1 : Nat) : Int) := by omega
                have hN' := nl_last HN.out rfl h0 hB.size (m := q) (by omega)
                have HN' := Lib.hid hN'
                have hbg := (hu.lt bg rfl).1
                clear hu hA hy hb hN'
                go_wp2_with fail
                go_meet
                refine ⟨some ⟨bg, 0, none⟩, capv, L0.dropLast ++ [List.replicate q 0], ?_, ?_, ?_, Lib.hid ⟨?_, ?_⟩, ?_⟩
                · rw [dropLast_snoc_len _ (by intro e; subst e; simp at h0)]
                · rw [dropLast_snoc_len _ (by intro e; subst e; simp at h0)]; exact Lib.hid HN'.out
                · rw [dropLast_snoc_len _ (by intro e; subst e; simp at h0)]; omega
                · rw [List.dropLast_concat]; exact fun l hl => HL.out l (List.dropLast_subset _ hl)
                · intro l hl
                  rcases List.mem_append.1 hl with hl | hl
                  · exact Nat.le_trans (HL.out l (List.dropLast_subset _ hl)) (by omega)
                  · simp at hl; subst hl; simp; omega
                · go_grown
          case rest =>
            obtain ⟨a7, c7, L, rfl, HN7, hL, HP, hB7⟩ := hcut
            clear hb HN HL hB
            have z7 := hB7.size
            have HL7 := Lib.hid HN7.out.ll
            by_cases hmany : 4096 < L.length
            · have td : decide ((4096 : Int) < (L.length : Int)) = true := by rw [decide_eq_true_iff]; omega
              go_wp2_with (first
                | (go_at_call 32; refine (newMany _ _ _ _ L HL7.out hmany).mono ?_; rintro e w2 ⟨rfl, hb2⟩; have hB2 := hB7.trans (hb2.mono z7); have z2 : w.heap.size ≤ w2.heap.size := hB2.size)
                | (go_at_call 31; refine (lives_ok _).mono ?_; rintro e w3 ⟨rfl, hb3⟩; have hB3 : Below w.heap.size w w3 := Below.trans (hB2.trans (by go_grown)) (hb3.mono (by go_size)); have z3 := hB3.size))
              go_returns
              exact ⟨rfl, by go_grown⟩
            · by_cases hbad : 0 < L.length ∧ ∃ l, L[L.length - 1]? = some l ∧ 1024 < l.length
              · obtain ⟨hpos, l, hl, hll⟩ := hbad
                obtain ⟨b, off, ao, cv, l', rfl, hl', hcell, hc1, hc2, -, -⟩ := HL7.out.getAt (k := L.length - 1) (by omega)
                obtain rfl : l = l' := by rw [hl] at hl'; simpa using hl'
                have hlm := List.mem_of_getElem? hl
                have HX := Lib.hid (⟨l, hlm, hll⟩ : ∃ l ∈ L, 1024 < l.length)
                have hidx : ((L.length : Int) - 1) = ((L.length - 1 : Nat) : Int) := by omega
                unfold maxLen at hc2
                have td : decide ((4096 : Int) < (L.length : Int)) = false := by rw [decide_eq_false_iff_not]; omega
                have te : decide ((1024 : Int) < (l.length : Int)) = true := by rw [decide_eq_true_iff]; omega
                clear hl hl' hlm
                go_wp2_with (first
                  | (go_at_call 32; refine (newBad _ _ _ _ L HL7.out (by omega) HX.out).mono ?_; rintro e w2 ⟨rfl, hb2⟩; have hcell2 := cell_alloc_old (ob := Obj.cells #[Value.bool false, Value.slice none 0 0] 55) (kc hb2 hcell); have hB2 := hB7.trans (hb2.mono z7); have z2 : w.heap.size ≤ w2.heap.size := hB2.size)
                  | (go_at_call 31; refine (lives_ok _).mono ?_; rintro e w3 ⟨rfl, hb3⟩; have hB3 : Below w.heap.size w w3 := Below.trans (hB2.trans (by go_grown)) (hb3.mono (by go_size)); have z3 := hB3.size))
                go_returns
                exact ⟨rfl, by go_grown⟩
              · have hall : ∀ l ∈ L, l.length ≤ 1024 := by
                  intro l hl
                  by_cases h : L = []
                  · subst h; simp at hl
                  · have hl2 : l ∈ L.dropLast ++ [L.getLast h] := by rw [List.dropLast_concat_getLast]; exact hl
                    rcases List.mem_append.1 hl2 with hl | hl
                    · exact Nat.le_trans (HP.out.1 l hl) (by omega)
                    · simp at hl
                      subst hl
                      have hpos : 0 < L.length := List.length_pos_iff.2 h
                      rcases Nat.lt_or_ge 1024 (L.getLast h).length with h' | h'
                      · exact absurd ⟨hpos, _, by rw [← List.getLast?_eq_getElem?, List.getLast?_eq_some_getLast h], h'⟩ hbad
                      · exact h'
                have Hall := Lib.hid hall
                clear hall
                go_upto_region 11 with (go_at_call 32; refine (newLL _ _ _ _ L HL7.out (by omega) Hall.out).mono ?_; rintro e w2 ⟨x2, k2, rfl, n2, hb2⟩; have hB2 : Below wc.heap.size wc w2 := hb2; have z2 : wc.heap.size ≤ w2.heap.size := hB2.size; have N2 := Lib.hid n2.ll; clear n2 hb2)
                obtain ⟨wo, rfl⟩ : ∃ wo : World, wo = wc := ⟨_, rfl⟩
                go_cut [73] (fun s73 wx => s73 = .bool false ∧ Below w.heap.size w wx ∧ Below wo.heap.size wo wx ∧ Hid (LL wx x2 L.length k2 L) ∧ wx.heap[w2.heap.size]? = some (.cells #[.bool false, .slice x2 L.length k2] 55))
                case first => --LONG
                  by_cases hpos : 0 < L.length
                  · obtain ⟨b, off, ao, cv, l', rfl, hl', hcell, hc1, hc2, -, -⟩ := HL7.out.getAt (k := L.length - 1) (by omega)
                    have hidx : ((L.length : Int) - 1) = ((L.length - 1 : Nat) : Int) := by omega
                    have hle := Hall.out l' (List.mem_of_getElem? hl')
                    have hcell2 := cell_alloc_old (ob := Obj.cells #[Value.bool false, Value.slice x2 L.length k2] 55) (kc hB2 hcell)
                    unfold maxLen at hc2
                    have td : decide ((4096 : Int) < (L.length : Int)) = false := by rw [decide_eq_false_iff_not]; omega
                    have te : decide ((1024 : Int) < (l'.length : Int)) = false := by rw [decide_eq_false_iff_not]; omega
                    clear hl' hcell hbad
                    go_wp2_with fail
                    go_meet
                    exact ⟨rfl, (hB7.trans (hB2.mono z7)).alloc (Nat.le_trans z7 z2) _, hB2.alloc z2 _, Lib.hid (N2.out.below (by go_grown)), blk_new _ _⟩
                  · obtain rfl : L = [] := List.eq_nil_of_length_eq_zero (by omega)
                    go_wp2_with fail
                    go_meet
                    exact ⟨rfl, (hB7.trans (hB2.mono z7)).alloc (Nat.le_trans z7 z2) _, hB2.alloc z2 _, Lib.hid (N2.out.below (by go_grown)), blk_new _ _⟩
                case rest =>
                  obtain ⟨rfl, hBd, hBo, N2d, hblk⟩ := hcut
                  have HLd := Lib.hid (HL7.out.below hBo)
                  obtain ⟨e0, e1, ff, hlt2⟩ := blk2 hblk
                  have Hblk := Lib.hid hblk
                  have zd := hBd.size
                  have zg : w.heap.size ≤ w2.heap.size := Nat.le_trans z7 z2
                  clear hblk hB7 hB2 HN7 N2 hbad hmany
                  by_cases h50 : 50 < L.length
                  · have td : decide ((50 : Int) < (L.length : Int)) = true := by rw [decide_eq_true_iff]; omega
                    go_wp2_with (first
                      | (go_at_call 30; refine (listsLL x2 a7 _ _ k2 c7 L _ N2d.out HLd.out (by omega)).mono ?_; rintro e w9 ⟨rfl, hb9⟩; have hB9 := hBd.trans (hb9.mono zd); have z9 := hB9.size)
                      | (go_at_call 31; refine (lives_ok _).mono ?_; rintro e w10 ⟨rfl, hb10⟩; have hB10' := hB9.trans (hb10.mono z9)))
                    go_returns
                    exact ⟨rfl, hB10'⟩
                  · have td : decide ((50 : Int) < (L.length : Int)) = false := by rw [decide_eq_false_iff_not]; omega
                    go_wp2_with (go_at_call 30; refine (listsLL x2 a7 _ _ k2 c7 L _ N2d.out HLd.out (by omega)).mono ?_; rintro e w9 ⟨rfl, hb9⟩; have hB9 := hBd.trans (hb9.mono zd); have z9 := hB9.size)
                    have K9 := Lib.hid (kb hb9 Hblk.out)
                    have N9 := Lib.hid (N2d.out.below hb9)
                    have hB9o := hBo.trans (hb9.mono hBo.size)
                    have hlt9 : w2.heap.size < w9.heap.size := Nat.lt_of_lt_of_le hlt2 hb9.size
                    clear e0 e1 ff hlt2 hb9 HLd N2d hBd hBo Hblk td
                    go_loopw [11] (fun i wr => ∃ (k : Nat) (x : Option Addr) (c : Nat), k ≤ L.length ∧ i = .int .i64 k ∧ Hid (wr.heap[w2.heap.size]? = some (.cells #[.bool (decide (k % 2 = 1)), .slice x (L.length - k) c] 55)) ∧ Hid (LL wr x (L.length - k) c (L.drop k)) ∧ Below w.heap.size w wr ∧ Below wo.heap.size wo wr ∧ w2.heap.size < wr.heap.size) (fun i _ => L.length - (intOf i).toNat)
                    case atStart => exact ⟨0, x2, k2, by omega, rfl, Lib.hid (by simpa using K9.out), Lib.hid (by simpa using N9.out), hB9, hB9o, hlt9⟩
                    case round =>
                      obtain ⟨k', x, c, hk', rfl, HB, HN, hBw, hBow, hltr⟩ := hrel
                      obtain ⟨b0, b1, bf, bl⟩ := blk2 HB.out
                      have zr := hBw.size
                      clear K9 N9 hB9 hB9o z9 hlt9
                      by_cases hlt' : k' < L.length
                      · have hdrop : L.drop k' = L[k'] :: L.drop (k' + 1) := List.drop_eq_getElem_cons hlt'
                        have hN' := HN.out
                        rw [hdrop] at hN'
                        generalize hl0 : L[k'] = l0 at hN' hdrop
                        have hlm : l0 ∈ L := hl0 ▸ List.getElem_mem hlt'
                        have hll := Hall.out l0 hlm
                        have HNl := Lib.hid hN'
                        obtain ⟨b, off, ao, cv, l', rfl, hl', hcell, hc1, hc2, hc3, hc4⟩ := (HL7.out.below hBow).getAt hlt'
                        obtain rfl : l0 = l' := by have : L[k']? = some l0 := by rw [← hl0]; simp [hlt']
                                                   rw [this] at hl'; simpa using hl'
                        have hrest : ∀ l ∈ L.drop (k' + 1), l.length ≤ 1000000 := fun l hl => by have := Hall.out l (List.mem_of_mem_drop hl); omega
                        have Hrest := Lib.hid hrest
                        have Hc3 := Lib.hid hc3
                        have Hc4 := Lib.hid hc4
                        have hlen1 : (L.drop (k' + 1)).length = L.length - (k' + 1) := by simp
                        have Hlen1 := Lib.hid hlen1
                        obtain ⟨t, ht, hpar⟩ : ∃ t : Bool, decide (k' % 2 = 1) = t ∧ ((k' : Int) % 2 == 1) = t := ⟨decide (k' % 2 = 1), rfl, par_eq k'⟩
                        rw [ht] at b0
                        have Ht := Lib.hid ht
                        unfold maxLen at hc2
                        clear hN' hl0 hl' hlm hc3 hc4 hdrop ht hrest hlen1
                        go_wp2_with (go_at_call 34; refine (offerLL t x _ c l0 (L.drop (k' + 1)) _ HNl.out (by omega)).mono ?_; rintro e w11 ⟨x11, c11, rfl, o11, hb11⟩; have hB11 := hBw.trans (hb11.mono zr); have z11 := hB11.size; have hB11o := hBow.trans (hb11.mono hBow.size); have b0' := kc hb11 b0; have b1' := kc hb11 b1; have hcell' := kc hb11 hcell)
                        have s1 : ∀ n, (convert 32 9 (.slice x11 l0.length c11)).run Try.prog (w11.drewN n) = .ok (.string (strOfNums l0)) (w11.drewN n) := fun n => run_str Try.underlying32 Try.underlying5 Try.underlying9 ((own_cells o11).below (drewN_below (Below.refl _ _))) rfl (own_val o11 |>.elim fun _ h => h.elim fun _ h => by simp only [Value.slice.injEq] at h; obtain ⟨⟨rfl, -, rfl⟩, -, -, -, h0⟩ := h; exact h0)
                        have s2 : ∀ n, (convert 32 9 (.slice ao l0.length cv)).run Try.prog (w11.drewN n) = .ok (.string (strOfNums l0)) (w11.drewN n) := fun n => run_str Try.underlying32 Try.underlying5 Try.underlying9 ((Hc4.out.below hb11).below (drewN_below (Below.refl _ _))) rfl Hc3.out
                        have HKB := Lib.hid (kb hb11 HB.out)
                        have HNl' := Lib.hid (HNl.out.below hb11)
                        have hlt11 : w2.heap.size < w11.heap.size := Nat.lt_of_lt_of_le hltr hb11.size
                        clear o11 hb11 b0 b1 bf hcell
                        go_quiet (fail)
                        go_wp2_with (go_at_call 35; refine (acknowledgeLL t x _ c l0 (L.drop (k' + 1)) _ (HNl'.out.below (drewN_below (Below.refl _ _))) (by rw [Hlen1.out]; omega) Hrest.out).mono ?_; rintro e w12 ⟨x12, c12, rfl, n12, hb12⟩; rw [Hlen1.out] at n12; have hB12 : Below w.heap.size w w12 := hB11.trans (Below.trans (drewN_below (Below.refl _ _)) (hb12.mono z11)); have hB12o : Below wo.heap.size wo w12 := hB11o.trans (Below.trans (drewN_below (Below.refl _ _)) (hb12.mono hB11o.size)); have hK12 : w12.heap[w2.heap.size]? = _ := kb (hb12) HKB.out; obtain ⟨d0, d1, df, dl⟩ := blk2 hK12; have HK12 := Lib.hid hK12; clear hK12; have N12 := Lib.hid n12; clear n12)
                        go_roundw
                        case rel =>
                          refine ⟨k' + 1, x12, c12, by omega, by go_num, Lib.hid ?_, Lib.hid ?_, ?_, ?_, ?_⟩
                          · have := blk_set (o := 1) (blk_set (o := 0) HK12.out (.bool !t)) (.slice x12 (L.length - (k' + 1)) c12)
                            rw [par_succ, Ht.out]
                            simpa using this
                          · exact ((N12.out.setBelow hlt11 _).setBelow hlt11 _).ll
                          · exact (hB12.setCell zg _).setCell zg _
                          · exact (hB12o.setCell z2 _).setCell z2 _
                          · simpa using dl
                        case measure => simp [intOf]; omega
                      · have hkl : k' = L.length := by omega
                        subst hkl
                        have hx0 : L.length - L.length = 0 := Nat.sub_self _
                        rw [hx0] at b1
                        clear hx0 hlt' hk'
                        have HB2 := Lib.hid (HB.out)
                        go_wp2_with (first
                          | (go_at_call 34; refine (offer_none _ _ _ _).mono ?_; rintro e w11 ⟨rfl, hb11⟩; have hB11 := hBw.trans (hb11.mono zr); have z11 := hB11.size; have b0' := kc hb11 b0; have b1' := kc hb11 b1)
                          | (go_at_call 35; refine (acknowledge_none _ _ _ _).mono ?_; rintro e w12 ⟨rfl, hb12⟩; have hB12 := hB11.trans (hb12.mono z11); have z12 := hB12.size)
                          | (go_at_call 31; refine (lives_ok _).mono ?_; rintro e w13 ⟨rfl, hb13⟩; have hB13 := hB12.trans (hb13.mono z12)))
                        go_returns
                        exact ⟨rfl, hB13⟩
end Go.Proofs.Ytphajgehfbimnaa
