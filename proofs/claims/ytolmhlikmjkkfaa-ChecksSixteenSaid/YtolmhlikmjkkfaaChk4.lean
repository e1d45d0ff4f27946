/-
  The contract of the reference's division of polynomials (plugboardref02.Behind).
-/
import Derived.Test.YtolmhlikmjkkfaaChk3
import Derived.StillTailTactics
namespace Go.Proofs.Ytolmhlikmjkkfaa
open Go.RowKit
set_option linter.unusedVariables false

theorem refStep_len (p r : List Nat) (b : Nat) : (Chk.refStep p r b).length = r.length := by simp [Chk.refStep]
theorem refStep_lt (p r : List Nat) (b : Nat) (hp : ∀ x ∈ p, x < 2) : ∀ x ∈ Chk.refStep p r b, x < 2 := by
  intro x hx
  obtain ⟨j, _, rfl⟩ := List.mem_map.1 hx
  split
  · have h1 : p.getD 0 0 < 2 := by
      cases p with
      | nil => simp
      | cons y p => exact hp y (by simp)
    have h2 := Nat.mod_lt (r.getD (r.length - 1) 0 + b) (show 2 > 0 by decide)
    have h3 : (r.getD (r.length - 1) 0 + b) % 2 = 0 ∨ (r.getD (r.length - 1) 0 + b) % 2 = 1 := by omega
    rcases h3 with h | h <;> rw [h] <;> omega
  · exact Nat.mod_lt _ (by decide)
def behind (p l : List Nat) : List Nat := l.foldl (Chk.refStep p) (List.replicate p.length 1)
theorem behind_snoc (p l : List Nat) (b : Nat) : behind p (l ++ [b]) = Chk.refStep p (behind p l) b := by simp [behind]
theorem behind_len (p : List Nat) : ∀ (l : List Nat) (r : List Nat), (l.foldl (Chk.refStep p) r).length = r.length := by
  intro l
  induction l with
  | nil => intro r; rfl
  | cons b l ih => intro r; rw [List.foldl_cons, ih, refStep_len]
theorem behind_lt (p : List Nat) (hp : ∀ x ∈ p, x < 2) : ∀ (l : List Nat) (r : List Nat), (∀ x ∈ r, x < 2) → ∀ x ∈ l.foldl (Chk.refStep p) r, x < 2 := by
  intro l
  induction l with
  | nil => intro r h; exact h
  | cons b l ih => intro r h; exact ih _ (refStep_lt p r b hp)

/-- While the register is being shifted: old ones up to j, new ones behind. -/
def half (old new : List Nat) (j : Nat) : List Nat := old.take (j + 1) ++ new.drop (j + 1)
theorem half_len {old new : List Nat} (h : old.length = new.length) (j : Nat) : (half old new j).length = old.length := by simp [half]; omega
theorem half_get_le {old new : List Nat} {j i : Nat} (hi : i ≤ j) (hj : j < old.length) : (half old new j)[i]? = old[i]? := by
  unfold half
  rw [List.getElem?_append_left (by simp; omega), List.getElem?_take, if_pos (by omega)]
theorem half_get_gt {old new : List Nat} {j i : Nat} (h : old.length = new.length) (hi : j < i) (hj : j < old.length) : (half old new j)[i]? = new[i]? := by
  unfold half
  rw [List.getElem?_append_right (by simp; omega)]
  simp only [List.length_take, List.getElem?_drop]
  congr 1; omega
theorem half_set {old new : List Nat} {j x : Nat} (h : old.length = new.length) (hj : j + 1 < old.length) (hx : new[j + 1]? = some x) : (half old new (j + 1)).set (j + 1) x = half old new j := by
  apply List.ext_getElem?
  intro i
  rw [List.getElem?_set, half_len h]
  by_cases h1 : j + 1 = i
  · subst h1
    rw [if_pos rfl, if_pos hj, half_get_gt h (by omega) (by omega), hx]
  · rw [if_neg h1]
    rcases Nat.lt_or_ge i (j + 1) with h2 | h2
    · rw [half_get_le (by omega) (by omega), half_get_le (by omega) (by omega)]
    · rw [half_get_gt h (by omega) (by omega), half_get_gt h (by omega) (by omega)]
theorem half_last {old new : List Nat} (h : old.length = new.length) (d : Nat) (hd : d + 1 = old.length) : half old new d = old := by
  unfold half
  rw [List.take_of_length_le (by omega), List.drop_eq_nil_of_le (by omega), List.append_nil]
theorem half_first {old new : List Nat} {x : Nat} (h : old.length = new.length) (h0 : 0 < old.length) (hx : new[0]? = some x) : (half old new 0).set 0 x = new := by
  apply List.ext_getElem?
  intro i
  rw [List.getElem?_set, half_len h]
  by_cases h1 : 0 = i
  · subst h1; rw [if_pos rfl, if_pos h0, hx]
  · rw [if_neg h1, half_get_gt h (by omega) h0]
theorem rep01 {k d : Nat} (h : k < d) : (List.replicate k 1 ++ List.replicate (d - k) 0)[k]? = some 0 := by
  rw [List.getElem?_append_right (by simp), List.length_replicate, Nat.sub_self, List.getElem?_replicate, if_pos (by omega)]
theorem n8_set (l : List Nat) (i x : Nat) : (n8 l).set i (.int .u8 x) = n8 (l.set i x) := by simp [n8]

set_option maxRecDepth 100000 in
set_option maxHeartbeats 4000000 in
theorem behind_ok (a a' : Option Addr) (l p : List Nat) (cap cap' : Nat) (w : World) (hc : Cells w a (n8 l)) (hc' : Cells w a' (n8 p)) (hl : ∀ b ∈ l, b < 2) (hp : ∀ b ∈ p, b < 2) (hn : l.length ≤ 1000000) (hd0 : 0 < p.length) (hd : p.length ≤ 32) :
    Calls Try.prog 69 #[.slice a l.length cap, .slice a' p.length cap'] w fun e w' => e = .returned (.slice (some ⟨w.heap.size, 0, none⟩) p.length p.length) ∧ w'.ownsRow w.heap.size 5 1 (.slice (some ⟨w.heap.size, 0, none⟩) p.length p.length) p.length (n8 (behind p l)) ∧ Below w.heap.size w w' := by
  have Hc := Lib.hid hc; clear hc
  have Hc' := Lib.hid hc'; clear hc'
  have Hl := Lib.hid hl; clear hl
  have Hp := Lib.hid hp; clear hp
  obtain ⟨d, hd1⟩ : ∃ d, p.length = d := ⟨_, rfl⟩
  rw [hd1] at hd0 hd ⊢
  have Hd := Lib.hid hd1; clear hd1
  go_enter Try.func69, Try.ntmps69
  go_wp2_with (at_make; refine wpList_mkfull rfl _ _ rfl st8 rfl w.heap.size d _ _ _ _ rfl rfl rfl rfl (by omega) (by unfold maxLen; omega) (by omega) ?_; intro w2 hown2 hg2; have hb2 := grown_none hg2; have hs2 := hb2.size)
  go_loopw [7] (fun i wr => ∃ k : Nat, k ≤ d ∧ i = .int .i64 k ∧ Hid (wr.ownsRow w.heap.size 5 1 (.slice (some ⟨w.heap.size, 0, none⟩) d d) d (n8 (List.replicate k 1 ++ List.replicate (d - k) 0))) ∧ Below w.heap.size w wr) (fun i _ => d - (intOf i).toNat)
  case atStart => exact ⟨0, by omega, rfl, Lib.hid (by simpa [n8] using hown2), hb2⟩
  case round =>
    obtain ⟨k, hk, rfl, HO, hB⟩ := hrel
    have ho := HO.out
    have zg : w.heap.size < wr.heap.size := (ho.lt _ rfl).2
    by_cases hlt : k < d
    · have e0 := (ho.cellAt k (by simp [n8]; omega)).trans (n8_get (x := 0) (rep01 hlt))
      have f0 := ho.frozenAt k
      have hS := ho.stored k (.int .u8 (1 : Nat))
      rw [n8_set] at hS
      have HS := Lib.hid hS.1
      clear hS ho
      go_wp2_with fail
      go_roundw
      case rel =>
        refine ⟨k + 1, by omega, by go_num, Lib.hid ?_, hB.setCell (by simp) _⟩
        have e : (List.replicate k 1 ++ List.replicate (d - k) 0).set k 1 = List.replicate (k + 1) 1 ++ List.replicate (d - (k + 1)) 0 := by
          rw [List.set_append_right _ _ (by simp), List.length_replicate, Nat.sub_self, show d - k = (d - (k + 1)) + 1 from by omega, List.replicate_succ, List.set_cons_zero, List.replicate_succ', List.append_assoc]; rfl
        rw [← e]; exact HS.out
      case measure => simp [intOf]; omega
    · obtain rfl : d = k := by omega
      have HO2 : Hid (wr.ownsRow w.heap.size 5 1 (.slice (some ⟨w.heap.size, 0, none⟩) d d) d (n8 (behind p (l.take 0)))) := Lib.hid (by simpa [behind, Hd.out] using HO.out)
      clear ho HO hlt hk hown2 hg2 hb2
      go_wp2_with fail
      obtain ⟨wo, rfl⟩ : ∃ wo : World, wo = wr := ⟨_, rfl⟩
      go_loopw [8] (fun i wr => ∃ m : Nat, m ≤ l.length ∧ i = .int .i64 m ∧ Hid (wr.ownsRow w.heap.size 5 1 (.slice (some ⟨w.heap.size, 0, none⟩) d d) d (n8 (behind p (l.take m)))) ∧ Below w.heap.size w wr) (fun i _ => l.length - (intOf i).toNat)
      case atStart => exact ⟨0, by omega, rfl, HO2, hB⟩
      case round =>
        obtain ⟨m, hm, rfl, HO, hB2⟩ := hrel
        clear HO2
        by_cases hlt : m < l.length
        · obtain ⟨bb, off, b, rfl, hbx, hbm, hcb, hbb⟩ := Cells.get (α := Nat) (f := fun n : Nat => Value.int .u8 (n : Int)) (Hc.out.below hB2) hlt
          have hb2 := Hl.out b hbm
          obtain ⟨old, hold⟩ : ∃ old, behind p (l.take m) = old := ⟨_, rfl⟩
          have hol : old.length = d := by rw [← hold, ← Hd.out]; unfold behind; rw [behind_len]; simp
          have holt : ∀ x ∈ old, x < 2 := by rw [← hold]; exact behind_lt p Hp.out _ _ (by intro x hx; rw [(List.mem_replicate.1 hx).2]; decide)
          have hnew : behind p (l.take (m + 1)) = Chk.refStep p old b := by rw [take_snoc hbx, behind_snoc, hold]
          rw [hold] at HO
          have HN := Lib.hid hnew
          have HOL := Lib.hid hol
          have HOT := Lib.hid holt
          obtain ⟨x0, hx0⟩ : ∃ x, old[d - 1]? = some x := ⟨old[d - 1]'(by omega), by simp [show d - 1 < old.length from by omega]⟩
          have hx2 := holt x0 (List.mem_of_getElem? hx0)
          have ho := HO.out
          have e0 := (ho.cellAt (d - 1) (by simp [n8]; omega)).trans (n8_get hx0)
          obtain ⟨s, hs, hs2⟩ : ∃ s, (x0 + b) % 2 = s ∧ s < 2 := ⟨_, rfl, Nat.mod_lt _ (by decide)⟩
          have hw1 : IntKind.i64.wrap ((d : Int) - 1) = ((d - 1 : Nat) : Int) := by rw [IntKind.wrap_i64]; omega
          have hw2 : IntKind.u8.wrap ((x0 : Int) + (b : Int)) = ((x0 + b : Nat) : Int) := by rw [IntKind.wrap_u8]; omega
          have HX0 := Lib.hid hx0
          have HSs := Lib.hid hs
          have HB2 := Lib.hid hB2
          have HBX := Lib.hid hbx
          clear hold hol holt hnew hbx hbm hx0 hs hB2 ho
          go_wp2_with fail
          go_quiet (fail)
          clear hw1 hw2
          go_wp2_with fail
          clear e0
          obtain ⟨wp, rfl⟩ : ∃ wp : World, wp = wr := ⟨_, rfl⟩
          go_loopw [10] (fun j wr => ∃ q : Nat, q < d ∧ j = .int .i64 q ∧ Hid (wr.ownsRow w.heap.size 5 1 (.slice (some ⟨w.heap.size, 0, none⟩) d d) d (n8 (half old (Chk.refStep p old b) q))) ∧ Below w.heap.size w wr) (fun j _ => (intOf j).toNat)
          case atStart => exact ⟨d - 1, by omega, congrArg (Value.int .i64) (by omega), Lib.hid (by rw [half_last (by rw [refStep_len]) (d - 1) (by rw [HOL.out]; omega)]; exact ownsRow_below HO.out (drewN_below (Below.refl _ _))), drewN_below HB2.out⟩
          case round =>
            obtain ⟨q, hq, rfl, HO3, hB3⟩ := hrel
            clear HO
            have ho := HO3.out
            have zg3 : w.heap.size < wr.heap.size := (ho.lt _ rfl).2
            by_cases hq0 : 0 < q
            · obtain ⟨j, rfl⟩ : ∃ j, q = j + 1 := ⟨q - 1, by omega⟩
              obtain ⟨y, hy⟩ : ∃ y, old[j]? = some y := ⟨old[j]'(by have := HOL.out; omega), by simp [show j < old.length from by have := HOL.out; omega]⟩
              have hy2 := HOT.out y (List.mem_of_getElem? hy)
              obtain ⟨pb, poff, z, rfl, hz, hzm, hcz, hbz⟩ := Cells.get (α := Nat) (f := fun n : Nat => Value.int .u8 (n : Int)) (Hc'.out.below hB3) (k := j + 1) (by rw [Hd.out]; exact hq)
              have hz2 := Hp.out z hzm
              have e3 := (ho.cellAt j (by omega)).trans (n8_get ((half_get_le (by omega) (by rw [HOL.out]; omega)).trans hy))
              obtain ⟨u, hu⟩ : ∃ u, old[j + 1]? = some u := ⟨old[j + 1]'(by have := HOL.out; omega), by simp [show j + 1 < old.length from by have := HOL.out; omega]⟩
              have e4 := (ho.cellAt (j + 1) (by omega)).trans (n8_get ((half_get_le (by omega) (by rw [HOL.out]; omega)).trans hu))
              have f4 := ho.frozenAt (j + 1)
              obtain ⟨t, ht, ht2⟩ : ∃ t : Nat, (((x0 : Int) + (b : Int)) % 2 * (z : Int)) = (t : Int) ∧ t < 2 := ⟨s * z, by rw [show ((x0 : Int) + (b : Int)) % 2 = (s : Int) from by have := HSs.out; omega]; simp, by have : s = 0 ∨ s = 1 := (by omega); rcases this with h | h <;> subst h <;> omega⟩
              obtain ⟨v, hv, hv2⟩ : ∃ v : Nat, ((y : Int) + (t : Int)) % 2 = (v : Int) ∧ v < 2 := ⟨(y + t) % 2, by simp, Nat.mod_lt _ (by decide)⟩
              have hnv : (Chk.refStep p old b)[j + 1]? = some v := by
                have hpz : p.getD (j + 1) 0 = z := by rw [List.getD_eq_getElem?_getD, hz]; rfl
                have hoj : old.getD j 0 = y := by rw [List.getD_eq_getElem?_getD, hy]; rfl
                have hol : old.getD (old.length - 1) 0 = x0 := by rw [HOL.out, List.getD_eq_getElem?_getD, HX0.out]; rfl
                unfold Chk.refStep
                rw [List.getElem?_map, List.getElem?_range (by rw [HOL.out]; exact hq), Option.map_some, if_neg (by omega), hpz, hol, HSs.out]
                rw [show j + 1 - 1 = j from rfl, hoj]
                have htn : s * z = t := by have := ht; rw [show ((x0 : Int) + (b : Int)) % 2 = (s : Int) from by have := HSs.out; omega, ← Int.natCast_mul] at this; exact Int.ofNat_inj.1 this
                rw [htn]
                congr 1; omega
              have hS := ho.stored (j + 1) (.int .u8 (v : Nat))
              rw [n8_set, half_set (by rw [refStep_len]) (by rw [HOL.out]; exact hq) hnv] at hS
              have HS3 := Lib.hid hS.1
              have hw1 : IntKind.i64.wrap (j : Int) = (j : Int) := by rw [IntKind.wrap_i64]; omega
              have hw2 : IntKind.u8.wrap (t : Int) = (t : Int) := by rw [IntKind.wrap_u8]; omega
              have hw3 : IntKind.u8.wrap ((y : Int) + (t : Int)) = (y : Int) + (t : Int) := by rw [IntKind.wrap_u8]; omega
              clear hS hnv hu hy hz hzm ho
              go_wp2_with fail
              go_region
              all_goals
                go_wp2_with fail
                go_roundw
                case rel =>
                  refine ⟨j, by omega, by first | rfl | exact congrArg (Value.int .i64) (by omega), Lib.hid ?_, ?_⟩
                  · exact ownsRow_below (w := wr.setCell ⟨w.heap.size, j + 1, none⟩ (.int .u8 (v : Nat))) HS3.out (drewN_below (n := 1) (Below.refl _ _))
                  · go_grown
                case measure => simp [intOf]
            · obtain rfl : q = 0 := by omega
              obtain ⟨pb, poff, z, rfl, hz, hzm, hcz, hbz⟩ := Cells.get (α := Nat) (f := fun n : Nat => Value.int .u8 (n : Int)) (Hc'.out.below hB3) (k := 0) (by rw [Hd.out]; exact hd0)
              simp only [Nat.add_zero] at hcz
              have hz2 := Hp.out z hzm
              obtain ⟨u, hu⟩ : ∃ u, old[0]? = some u := ⟨old[0]'(by have := HOL.out; omega), by simp [show 0 < old.length from by have := HOL.out; omega]⟩
              have e4 := (ho.cellAt 0 (by omega)).trans (n8_get ((half_get_le (by omega) (by rw [HOL.out]; omega)).trans hu))
              have f4 := ho.frozenAt 0
              obtain ⟨t, ht, ht2⟩ : ∃ t : Nat, (((x0 : Int) + (b : Int)) % 2 * (z : Int)) = (t : Int) ∧ t < 2 := ⟨s * z, by rw [show ((x0 : Int) + (b : Int)) % 2 = (s : Int) from by have := HSs.out; omega]; simp, by have : s = 0 ∨ s = 1 := (by omega); rcases this with h | h <;> subst h <;> omega⟩
              have hnv : (Chk.refStep p old b)[0]? = some t := by
                have hpz : p.getD 0 0 = z := by rw [List.getD_eq_getElem?_getD, hz]; rfl
                have hol : old.getD (old.length - 1) 0 = x0 := by rw [HOL.out, List.getD_eq_getElem?_getD, HX0.out]; rfl
                unfold Chk.refStep
                rw [List.getElem?_map, List.getElem?_range (by rw [HOL.out]; exact hd0), Option.map_some, if_pos rfl, hpz, hol, HSs.out]
                have htn : s * z = t := by have := ht; rw [show ((x0 : Int) + (b : Int)) % 2 = (s : Int) from by have := HSs.out; omega, ← Int.natCast_mul] at this; exact Int.ofNat_inj.1 this
                rw [htn]
              have hS := ho.stored 0 (.int .u8 (t : Nat))
              rw [n8_set, half_first (by rw [refStep_len]) (by rw [HOL.out]; exact hd0) hnv, ← HN.out] at hS
              have HS3 := Lib.hid hS.1
              have hw2 : IntKind.u8.wrap (t : Int) = (t : Int) := by rw [IntKind.wrap_u8]; omega
              clear hS hnv hu hz hzm ho
              go_wp2_with fail
              go_roundw
              case rel => exact ⟨m + 1, by omega, by go_num, Lib.hid HS3.out, by go_grown⟩
              case measure => simp [intOf]; omega
        · obtain rfl : m = l.length := by omega
          rw [List.take_length] at HO
          go_wp2_with fail
          go_returns
          exact ⟨rfl, HO.out, hB2⟩
end Go.Proofs.Ytolmhlikmjkkfaa
