/-
  The contracts of package checks' longer check: Sixteen; and of the reference's Sixteen.
-/
import Derived.Test.YtmjocalgekfodaaChk5
namespace Go.Proofs.Ytmjocalgekfodaa
open Go.RowKit
set_option linter.unusedVariables false

theorem and1_u16 (n : Nat) (h : n < 65536) : bits .and .u16 (n : Int) 1 = ((n % 2 : Nat) : Int) := by
  have := u16_and_nat n 1 h (by decide)
  rw [Nat.and_one_is_mod] at this
  exact this

set_option maxRecDepth 100000 in
set_option maxHeartbeats 400000 in
theorem step16_ok (r : Nat) (hr : r < 65536) (w : World) :
    Calls Try.prog 74 #[.int .u16 r, .int .u16 40961, .int .u16 0] w fun e w' => e = .returned (.int .u16 (Chk.T 40961 r : Nat)) ∧ w = w' := by
  have hx : bits .xor .u16 (r : Int) 0 = (r : Int) := by have := u16_xor_nat r 0 hr (by decide); simpa using this
  have hy := and1_u16 r hr
  have hs : (r : Int) / 2 = ((r >>> 1 : Nat) : Int) := by rw [Nat.shiftRight_eq_div_pow]; omega
  have hz := u16_xor_nat (r >>> 1) 40961 (by rw [Nat.shiftRight_eq_div_pow]; omega) (by decide)
  rw [← hs] at hz
  have Hs := Lib.hid hs; clear hs
  by_cases h : r % 2 = 1
  · have HS : Hid (Chk.T 40961 r = r >>> 1 ^^^ 40961) := Lib.hid (by unfold Chk.T; rw [if_pos h])
    rw [h] at hy
    clear h
    go_enter Try.func74, Try.ntmps74
    go_wp2_with fail
    go_returns
    exact ⟨ret_int (by rw [HS.out]; first | rfl | exact hz), rfl⟩
  · have HS : Hid (Chk.T 40961 r = r >>> 1) := Lib.hid (by unfold Chk.T; rw [if_neg h])
    have h0 : r % 2 = 0 := by omega
    rw [h0] at hy
    clear h h0
    go_enter Try.func74, Try.ntmps74
    go_wp2_with fail
    go_returns
    exact ⟨ret_int (by rw [HS.out]; exact Hs.out), rfl⟩

def tab (k : Nat) : List Value := (List.range 16).map fun i => if i < k then .int .u16 (Chk.T4 40961 i : Nat) else .int .u16 0

theorem T4_lt {i : Nat} (h : i < 65536) : Chk.T4 40961 i < 65536 := by
  unfold Chk.T4
  exact Chk.T_lt 40961 16 _ (by decide) (Chk.T_lt 40961 16 _ (by decide) (Chk.T_lt 40961 16 _ (by decide) (Chk.T_lt 40961 16 _ (by decide) h)))

theorem byteStep_lt (r x : Nat) (hr : r < 65536) : Chk.byteStep 40961 r x < 65536 := by
  unfold Chk.byteStep
  exact Nat.xor_lt_two_pow (n := 16) (Nat.lt_of_le_of_lt (Nat.div_le_self _ _) (Nat.xor_lt_two_pow (n := 16) (by omega) (T4_lt (by omega)))) (T4_lt (by omega))
theorem fold_lt : ∀ (l : List Nat) (r : Nat), r < 65536 → l.foldl (Chk.byteStep 40961) r < 65536 := by
  intro l
  induction l with
  | nil => intro r h; exact h
  | cons x l ih => intro r h; exact ih _ (byteStep_lt r x h)
theorem compl_all : ∀ (d r : Nat), r < 2 ^ d → r ^^^ (2 ^ d - 1) = 2 ^ d - 1 - r := by
  intro d
  induction d with
  | zero => intro r hr; simp at hr; subst hr; rfl
  | succ d ih =>
    intro r hr
    have hp := Nat.one_le_two_pow (n := d)
    have h1 : (r ^^^ (2 ^ (d + 1) - 1)) / 2 = (r / 2) ^^^ (2 ^ d - 1) := by
      have := Chk.shr_xor r (2 ^ (d + 1) - 1) 1
      simp only [Nat.shiftRight_eq_div_pow, Nat.pow_one] at this
      rw [this, Chk.ones_half]
    have h2 : (r ^^^ (2 ^ (d + 1) - 1)) % 2 = 1 - r % 2 := by
      rw [Chk.xor_mod2, Nat.pow_succ]; omega
    rw [ih (r / 2) (by rw [Nat.pow_succ] at hr; omega)] at h1
    rw [Nat.pow_succ] at *
    omega
theorem compl16 (r : Nat) (hr : r < 65536) : r ^^^ 65535 = 65535 - r := compl_all 16 r hr
theorem and15 (y : Nat) (h : y < 65536) : bits .and .u16 (y : Int) 15 = ((y % 16 : Nat) : Int) := by
  have := u16_and_nat y 15 h (by decide)
  rw [show y &&& 15 = y % 16 from Nat.and_two_pow_sub_one_eq_mod y 4] at this
  exact this
theorem notu16 (r : Nat) (h : r < 65536) : bits .xor .u16 IntKind.u16.max (r : Int) = ((65535 - r : Nat) : Int) := by
  have := u16_xor_nat 65535 r (by decide) h
  rw [Nat.xor_comm, compl16 r h] at this
  exact this
theorem tab_zero : #[Value.int .u16 0, .int .u16 0, .int .u16 0, .int .u16 0, .int .u16 0, .int .u16 0, .int .u16 0, .int .u16 0, .int .u16 0, .int .u16 0, .int .u16 0, .int .u16 0, .int .u16 0, .int .u16 0, .int .u16 0, .int .u16 0] = (tab 0).toArray := by
  simp [tab, List.range_succ]
theorem tab_set (k : Nat) (hk : k < 16) : (tab k).toArray.setIfInBounds k (.int .u16 (Chk.T4 40961 k : Nat)) = (tab (k + 1)).toArray := by
  rw [List.setIfInBounds_toArray]
  congr 1
  apply List.ext_getElem?
  intro i
  rw [List.getElem?_set]
  unfold tab
  simp only [List.length_map, List.length_range, List.getElem?_map]
  by_cases h1 : k = i
  · subst h1; simp [hk]
  · rw [if_neg h1]
    by_cases hi : i < 16
    · simp only [List.getElem?_range hi, Option.map_some]
      by_cases h2 : i < k
      · simp [h2, show i < k + 1 from by omega]
      · simp [h2, show ¬ i < k + 1 from by omega]
    · simp [hi]
theorem tab_get {i : Nat} (h : i < 16) : (tab 16).toArray[i]? = some (.int .u16 (Chk.T4 40961 i : Nat)) := by
  simp [tab, h]
set_option maxRecDepth 100000 in
set_option maxHeartbeats 4000000 in
theorem sixteen_ok (a : Option Addr) (l : List Nat) (cap : Nat) (w : World) (hc : Cells w a (n8 l)) (hl : int8s l) (hn : l.length ≤ 1000000) :
    Calls Try.prog 49 #[.slice a l.length cap] w fun e w' => e = .returned (.int .u16 (Chk.sixteen l : Nat)) ∧ Below w.heap.size w w' := by
  have Hc := Lib.hid hc; clear hc
  have Hl := Lib.hid hl; clear hl
  go_enter Try.func49, Try.ntmps49
  go_wp2_with fail
  have H0 : Hid ((w.alloc (Obj.cells (tab 0).toArray 155)).heap[w.heap.size]? = some (.cells (tab 0).toArray 155 (0, 0))) := Lib.hid (blk_new _ _)
  rw [← tab_zero] at H0
  go_loopw [9] (fun i wr => ∃ k : Nat, k ≤ 16 ∧ i = .int .i64 k ∧ Hid (wr.heap[w.heap.size]? = some (.cells (tab k).toArray 155 (0, 0))) ∧ Below w.heap.size w wr) (fun i _ => 16 - (intOf i).toNat)
  case atStart => exact ⟨0, by omega, rfl, Lib.hid (by rw [← tab_zero]; exact H0.out), by go_grown⟩
  case round =>
    obtain ⟨k, hk, rfl, HG, hB⟩ := hrel
    clear H0
    by_cases hlt : k < 16
    · obtain ⟨wo, rfl⟩ : ∃ wo : World, wo = wr := ⟨_, rfl⟩
      have hd : decide ((k : Int) < 16) = true := by rw [decide_eq_true_iff]; omega
      go_wp2_with fail
      go_loop [5, 14] (fun r j => ∃ m : Nat, m ≤ 4 ∧ j = .int .i64 m ∧ r = .int .u16 (Chk.iter 40961 m k : Nat)) (fun _ j => 4 - (intOf j).toNat)
      case atStart => exact ⟨0, by omega, rfl, rfl⟩
      case round =>
        obtain ⟨m, hm, rfl, rfl⟩ := hrel
        have hit := Chk.iter_lt 40961 16 (by decide) m k (by omega)
        by_cases hlt2 : m < 4
        · have HT : Hid (Chk.T 40961 (Chk.iter 40961 m k) = Chk.iter 40961 (m + 1) k) := Lib.hid (Chk.iter_T 40961 m k).symm
          go_wp2_with (go_at_call 74; refine (step16_ok _ hit _).mono ?_; rintro e w1 ⟨rfl, rfl⟩)
          go_round
          case rel => exact ⟨m + 1, by omega, by go_num, by rw [HT.out]⟩
          case measure => simp [intOf]; omega
        · obtain rfl : m = 4 := by omega
          have hlg := (Array.getElem?_eq_some_iff.1 HG.out).1
          have ff := blk_frozen HG.out
          have ec : wo.cell? ⟨w.heap.size, k, none⟩ = (tab k).toArray[k]? := blk_cell HG.out k
          obtain ⟨v0, hv0⟩ : ∃ v0, (tab k).toArray[k]? = some v0 := ⟨_, by simp [tab, hlt]; rfl⟩
          rw [hv0] at ec
          have hS := blk_set (o := k) HG.out (.int .u16 (Chk.T4 40961 k : Nat))
          rw [tab_set k hlt] at hS
          have HS := Lib.hid hS
          clear hS hv0
          go_wp2_with fail
          go_roundw
          case rel => exact ⟨k + 1, by omega, by go_num, Lib.hid HS.out, hB.setCell (Nat.le_refl _) _⟩
          case measure => simp [intOf]; omega
    · obtain rfl : k = 16 := by omega
      clear hlt hk
      go_wp2_with fail
      go_loopw [6, 25] (fun r i wr => ∃ k : Nat, k ≤ l.length ∧ i = .int .i64 k ∧ r = .int .u16 ((l.take k).foldl (Chk.byteStep 40961) 65535 : Nat) ∧ Hid (wr.heap[w.heap.size]? = some (.cells (tab 16).toArray 155 (0, 0))) ∧ Below w.heap.size w wr) (fun _ i _ => l.length - (intOf i).toNat)
      case atStart => exact ⟨0, by omega, rfl, rfl, HG, hB⟩
      case round =>
        obtain ⟨k, hk, rfl, rfl, HG2, hB2⟩ := hrel
        have hrl := fold_lt (l.take k) 65535 (by decide)
        by_cases hlt : k < l.length
        · obtain ⟨bb, off, x, rfl, hx, hxm, hcx, hbx⟩ := Cells.get (α := Nat) (f := fun n : Nat => Value.int .u8 (n : Int)) (Hc.out.below hB2) hlt
          have hx2 := Hl.out x hxm
          have HX : Hid ((l.take (k + 1)).foldl (Chk.byteStep 40961) 65535 = Chk.byteStep 40961 ((l.take k).foldl (Chk.byteStep 40961) 65535) x) := Lib.hid (by rw [take_snoc hx]; simp)
          generalize (l.take k).foldl (Chk.byteStep 40961) 65535 = r at *
          clear hx hxm
          have hlg := (Array.getElem?_eq_some_iff.1 HG2.out).1
          obtain ⟨i1, hi1, hi1l⟩ : ∃ i1, (r ^^^ x) % 16 = i1 ∧ i1 < 16 := ⟨_, rfl, Nat.mod_lt _ (by decide)⟩
          obtain ⟨r1, hr1⟩ : ∃ r1, r / 16 ^^^ Chk.T4 40961 i1 = r1 := ⟨_, rfl⟩
          have hr1l : r1 < 65536 := by rw [← hr1]; exact Nat.xor_lt_two_pow (n := 16) (by omega) (T4_lt (by omega))
          obtain ⟨i2, hi2, hi2l⟩ : ∃ i2, (r1 ^^^ x / 16) % 16 = i2 ∧ i2 < 16 := ⟨_, rfl, Nat.mod_lt _ (by decide)⟩
          obtain ⟨r2, hr2⟩ : ∃ r2, r1 / 16 ^^^ Chk.T4 40961 i2 = r2 := ⟨_, rfl⟩
          have HB : Hid (Chk.byteStep 40961 r x = r2) := Lib.hid (by
            unfold Chk.byteStep
            have e1 : (r ^^^ x % 16) % 16 = i1 := by
              rw [← hi1]
              have h1 := Nat.xor_mod_two_pow (a := r) (b := x % 16) (n := 4)
              have h2 := Nat.xor_mod_two_pow (a := r) (b := x) (n := 4)
              simp only [Nat.reducePow] at h1 h2
              rw [h1, h2, Nat.mod_mod]
            simp only [e1, hr1, hi2, hr2])
          have c1 : wr.cell? ⟨w.heap.size, i1, none⟩ = some (.int .u16 (Chk.T4 40961 i1 : Nat)) := by rw [cell_of_row wr w.heap.size i1 _ _ _ HG2.out]; exact tab_get hi1l
          have c2 : wr.cell? ⟨w.heap.size, i2, none⟩ = some (.int .u16 (Chk.T4 40961 i2 : Nat)) := by rw [cell_of_row wr w.heap.size i2 _ _ _ HG2.out]; exact tab_get hi2l
          have x1 := u16_xor_nat r x hrl (by omega)
          have x2 : bits .and .u16 ((r ^^^ x : Nat) : Int) 15 = (i1 : Int) := by
            rw [and15 _ (Nat.xor_lt_two_pow (n := 16) hrl (by omega)), hi1]
          have x3 : bits .xor .u16 ((r : Int) / 16) ((Chk.T4 40961 i1 : Nat) : Int) = (r1 : Int) := by
            have := u16_xor_nat (r / 16) (Chk.T4 40961 i1) (by omega) (T4_lt (by omega))
            rw [hr1] at this; rw [← this]; simp
          have x4 : bits .xor .u16 (r1 : Int) ((x : Int) / 16) = ((r1 ^^^ x / 16 : Nat) : Int) := by
            have := u16_xor_nat r1 (x / 16) hr1l (by omega)
            rw [← this]; simp
          have x5 : bits .and .u16 ((r1 ^^^ x / 16 : Nat) : Int) 15 = (i2 : Int) := by
            rw [and15 _ (Nat.xor_lt_two_pow (n := 16) hr1l (by omega)), hi2]
          have x6 : bits .xor .u16 ((r1 : Int) / 16) ((Chk.T4 40961 i2 : Nat) : Int) = (r2 : Int) := by
            have := u16_xor_nat (r1 / 16) (Chk.T4 40961 i2) (by omega) (T4_lt (by omega))
            rw [hr2] at this; rw [← this]; simp
          clear hi1 hr1 hi2 hr2
          go_wp2_with fail
          go_roundw
          case rel => exact ⟨k + 1, by omega, by go_num, by rw [HX.out, HB.out], HG2, hB2⟩
          case measure => simp [intOf]; omega
        · obtain rfl : k = l.length := by omega
          have HS : Hid (Chk.sixteen l = 65535 - (l.take l.length).foldl (Chk.byteStep 40961) 65535) := Lib.hid (by
            rw [List.take_length]
            unfold Chk.sixteen
            rw [Chk.run_bytes 40961 l 65535 Hl.out, compl16 _ (by rw [List.take_length] at hrl; exact hrl)])
          generalize (l.take l.length).foldl (Chk.byteStep 40961) 65535 = r at *
          clear hlt hk
          go_wp2_with fail
          go_returns
          exact ⟨ret_int (by rw [HS.out]; exact notu16 r hrl), hB2⟩
end Go.Proofs.Ytmjocalgekfodaa

