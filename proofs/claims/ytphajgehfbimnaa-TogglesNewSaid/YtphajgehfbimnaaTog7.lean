/-
  The contracts of toggles' Clear and of the law's helpers small, exchanges, lost and the reference's Step.
-/
import Derived.Test.YtphajgehfbimnaaTog6
import Derived.Deep.RegionLaw
namespace Go.Proofs.Ytphajgehfbimnaa
open Go.RowKit
set_option linter.unusedVariables false

set_option maxRecDepth 100000 in
set_option maxHeartbeats 1000000 in
theorem clear_ok (st rt : Bool) (a a' : Option Addr) (us vs : List Value) (ls gs : List (List Int)) (cap cap' : Nat) (w : World)
    (hc : Cells w a us) (hr : Rows .u8 w us ls) (hc' : Cells w a' vs) (hr' : Rows .u8 w vs gs) (hn : us.length ≤ 100000) (hn' : vs.length ≤ 100000) (hl : ∀ l ∈ ls, l.length ≤ 1000000) (hl' : ∀ l ∈ gs, l.length ≤ 1000000) (hcap' : vs.length ≤ cap') (hcm' : cap' ≤ 9223372036854775807) :
    Calls Try.prog 33 #[.agg #[.bool st, .slice a us.length cap], .agg #[.bool rt, .slice a' vs.length cap']] w fun e w' =>
      ∃ x y, e = .returned (.tuple #[.agg #[.bool false, .slice (some ⟨x, 0, none⟩) us.length us.length], .agg #[.bool false, .slice (some ⟨y, 0, none⟩) vs.length vs.length]]) ∧
        NewLL w.heap.size w' (.slice (some ⟨x, 0, none⟩) us.length us.length) ls ∧ NewLL w.heap.size w' (.slice (some ⟨y, 0, none⟩) vs.length vs.length) gs ∧ Below w.heap.size w w' := by
  have Hc := Lib.hid hc; clear hc
  have Hr := Lib.hid hr; clear hr
  have Hl := Lib.hid hl; clear hl
  have Hc' := Lib.hid hc'; clear hc'
  have Hr' := Lib.hid hr'; clear hr'
  have Hl' := Lib.hid hl'; clear hl'
  go_enter Try.func33, Try.ntmps33
  go_wp2_with (go_at_call 42; refine (begin_ok _ _ _ _ _ _ _ hcap' hcm').mono ?_; rintro e w1 ⟨rfl, KP, b1⟩)
  have K2 := kb b1 (blk_old (blk_new ((w.alloc (.cells #[.bool false, .slice a us.length cap] 55)).alloc (.cells #[.bool false, .slice a' vs.length cap'] 57)) (.cells #[.bool false, .slice none 0 0] 55)))
  have K3 := kb b1 (blk_new (((w.alloc (.cells #[.bool false, .slice a us.length cap] 55)).alloc (.cells #[.bool false, .slice a' vs.length cap'] 57)).alloc (.cells #[.bool false, .slice none 0 0] 55)) (.cells #[.bool false, .slice none 0 0] 57))
  have hB1 : Below w.heap.size w w1 := Below.trans (by go_grown) (b1.mono (by go_size))
  simp only [World.size_alloc] at KP K2 K3
  clear b1
  refine (copied_ok _ false false a a' us vs ls gs cap vs.length _ KP (Hc.out.below hB1) (Rows.below hB1 Hr.out) (Hc'.out.below hB1) (Rows.below hB1 Hr'.out) (by omega) Hl.out (by omega) Hl'.out).mono ?_
  rintro e w5 ⟨x, y, rfl, cus, cvs, o1, o2, o3, o4, hb5⟩
  have hl1 := Rows.length Hr.out
  have hl2 := Rows.length Hr'.out
  replace K2 := kb hb5 K2
  replace K3 := kb hb5 K3
  have hB5 := hB1.trans (hb5.mono hB1.size)
  have hz2 : w.heap.size + 1 + 1 + 1 < w1.heap.size := by have := (Array.getElem?_eq_some_iff.1 KP).1; omega
  have HN1 : NewLL w1.heap.size w5 (.slice (some ⟨x, 0, none⟩) us.length us.length) ls := ⟨cus, by rw [← hl1]; exact o1, o2⟩
  have HN2 : NewLL w1.heap.size w5 (.slice (some ⟨y, 0, none⟩) vs.length vs.length) gs := ⟨cvs, by rw [← hl2]; exact o3, o4⟩
  replace HN1 := Lib.hid HN1
  replace HN2 := Lib.hid HN2
  clear KP o1 o2 o3 o4 hl1 hl2
  obtain ⟨m0, m1, mf, ml⟩ := blk2 K2
  obtain ⟨n0, n1, nf, nl⟩ := blk2 K3
  have hz3 : w.heap.size + 1 < w5.heap.size := by omega
  clear K2 K3
  go_wp2_with fail
  have dis : ∀ q : Nat, q ≤ w.heap.size + 1 + 1 + 1 → q < w1.heap.size := fun q hq => by omega
  refine bodyPost_ret ?_ rfl ⟨x, y, rfl, ?_, ?_, ?_⟩
  · simp [results, Try.results33, go_sem, m0, m1, n0, n1]
  · exact NewLL.base (((HN1.out.setBelow (dis _ (by simp)) _).setBelow (dis _ (by simp)) _).setBelow (dis _ (by simp)) _ |>.setBelow (dis _ (by simp)) _) hB1.size
  · exact NewLL.base (((HN2.out.setBelow (dis _ (by simp)) _).setBelow (dis _ (by simp)) _).setBelow (dis _ (by simp)) _ |>.setBelow (dis _ (by simp)) _) hB1.size
  · exact (((hB5.setCell (by simp; omega) _).setCell (by simp; omega) _).setCell (by simp; omega) _).setCell (by simp; omega) _

set_option maxRecDepth 100000 in
set_option maxHeartbeats 400000 in
theorem small_many (a : Option Addr) (n cap : Nat) (m : Int) (w : World) (hn : n ≤ 9223372036854775807) (hm : m < n) :
    Calls Try.prog 24 #[.slice a n cap, .int .i64 m] w fun e w' => e = .returned (.bool false) ∧ w = w' := by
  go_enter Try.func24, Try.ntmps24
  go_wp2_with fail
  go_returns
  exact ⟨rfl, rfl⟩

def smallB (ll : List (List Int)) (m : Int) : Bool := decide (ll.length ≤ m) && ll.all (fun l => decide (l.length ≤ 64))
set_option maxRecDepth 100000 in
set_option maxHeartbeats 400000 in
theorem small_ok (a : Option Addr) (vs : List Value) (ll : List (List Int)) (cap : Nat) (m : Int) (w : World) (hc : Cells w a vs) (hr : Rows .u8 w vs ll) (hn : vs.length ≤ 9223372036854775807) :
    Calls Try.prog 24 #[.slice a vs.length cap, .int .i64 m] w fun e w' => e = .returned (.bool (smallB ll m)) ∧ w = w' := by
  have Hc := Lib.hid hc; clear hc
  have Hr := Lib.hid hr; clear hr
  have Hlen := Lib.hid (Rows.length Hr.out)
  by_cases hm : m < vs.length
  · refine (small_many a _ cap m w hn hm).mono ?_
    rintro e w' ⟨rfl, rfl⟩
    refine ⟨?_, rfl⟩
    have := Hlen.out
    simp [smallB, show ¬ ((ll.length : Int) ≤ m) by omega]
  go_enter Try.func24, Try.ntmps24
  go_wp2_with fail
  go_loop [5] (fun i => ∃ k : Nat, k ≤ vs.length ∧ i = .int .i64 k ∧ Hid (∀ l ∈ ll.take k, l.length ≤ 64)) (fun i => vs.length - (intOf i).toNat)
  case atStart => exact ⟨0, by omega, rfl, Lib.hid (by simp)⟩
  case round =>
    obtain ⟨k, hk, rfl, hall⟩ := hrel
    by_cases hlt : k < vs.length
    · obtain ⟨b, off, v, rfl, hv, hcv, hbv⟩ := Hc.out.getV hlt
      obtain ⟨l, hl, ao, cv, rfl, h1, h2, h3, hcells⟩ := Rows.get Hr.out hv
      unfold maxLen at h2
      have HL := Lib.hid hl
      clear hv hl h3 hcells
      by_cases h64 : 64 < l.length
      · go_wp2_with fail
        go_returns
        refine ⟨?_, rfl⟩
        have : smallB ll m = false := by
          unfold smallB
          rw [Bool.and_eq_false_iff]
          refine .inr ?_
          rw [List.all_eq_false]
          exact ⟨l, List.mem_of_getElem? HL.out, by simp; omega⟩
        rw [this]; rfl
      · go_wp2_with fail
        go_round
        case rel => exact ⟨k + 1, by omega, by go_num, Lib.hid (by
          rw [take_snoc HL.out]; intro x hx
          rcases List.mem_append.1 hx with h | h
          · exact hall.out x h
          · simp at h; subst h; omega)⟩
        case measure => simp [intOf]; omega
    · have hkl : k = vs.length := by omega
      subst hkl
      go_wp2_with fail
      go_returns
      refine ⟨?_, rfl⟩
      have hh := hall.out
      have hl := Hlen.out
      rw [take_all (by omega)] at hh
      have : smallB ll m = true := by
        unfold smallB
        rw [Bool.and_eq_true, List.all_eq_true]
        exact ⟨by simp; omega, fun l hl => by simpa using hh l hl⟩
      rw [this]; rfl

def lostB (n : Int) : Int := if n % 2 = 1 then 1 else if n % 4 / 2 = 1 then 2 else 0
theorem u8_and2 : ∀ n : Fin 256, bits .and .u8 (n : Nat) 2 = ((n : Nat) % 4 / 2 * 2 : Nat) := by decide +kernel
theorem and2_of (n : Int) (h0 : 0 ≤ n) (h1 : n < 256) : bits .and .u8 n 2 = n % 4 / 2 * 2 := by
  obtain ⟨k, rfl⟩ := Int.eq_ofNat_of_zero_le h0
  have := u8_and2 ⟨k, by omega⟩
  simp at this
  rw [this]
set_option maxRecDepth 100000 in
set_option maxHeartbeats 400000 in
theorem lost_ok (n : Int) (w : World) (h0 : 0 ≤ n) (h1 : n < 256) :
    Calls Try.prog 26 #[.int .u8 n] w fun e w' => e = .returned (.int .i64 (lostB n)) ∧ w = w' := by
  have ha := and2_of n h0 h1
  by_cases hp : n % 2 = 1
  · have hL : lostB n = 1 := by unfold lostB; rw [if_pos hp]
    rw [hL]
    clear ha
    go_enter Try.func26, Try.ntmps26
    go_wp2_with fail
    go_returns
    exact ⟨rfl, rfl⟩
  · have hp2 : n % 2 = 0 := by omega
    by_cases hq : n % 4 / 2 = 1
    · have hL : lostB n = 2 := by unfold lostB; rw [if_neg hp, if_pos hq]
      rw [hL]
      rw [hq] at ha
      go_enter Try.func26, Try.ntmps26
      go_wp2_with fail
      go_returns
      exact ⟨rfl, rfl⟩
    · have hL : lostB n = 0 := by unfold lostB; rw [if_neg hp, if_neg hq]
      rw [hL]
      have hq2 : n % 4 / 2 = 0 := by omega
      rw [hq2] at ha
      go_enter Try.func26, Try.ntmps26
      go_wp2_with fail
      go_returns
      exact ⟨rfl, rfl⟩

theorem stex : SliceTy Try.prog 67 101 (.agg #[.bool false, .bool false]) 2 2 := ⟨Try.underlying67, by kernel_rfl, rfl, by decide⟩

/-- The exchanges that numbers are. -/
def exOf (l : List Int) : List (Bool × Bool) := l.map fun n => (decide (n % 2 = 1), decide (n % 4 / 2 = 1))
theorem exCells_snoc (xs : List (Bool × Bool)) (x : Bool × Bool) : exCells (xs ++ [x]) = exCells xs ++ [.bool x.1, .bool x.2] := by simp [exCells]

set_option maxRecDepth 100000 in
set_option maxHeartbeats 1000000 in
theorem exchanges_ok (a : Option Addr) (l : List Int) (cap : Nat) (w : World) (hc : Cells w a (l.map (.int .u8))) (hl : ∀ x ∈ l, 0 ≤ x ∧ x < 256) (hn : l.length ≤ 1000000) :
    Calls Try.prog 29 #[.slice a l.length cap] w fun e w' => ∃ v : Value, e = .returned v ∧ w'.ownsRow w.heap.size 101 2 v l.length (exCells (exOf l)) ∧ Below w.heap.size w w' := by
  have Hc := Lib.hid hc; clear hc
  have Hl := Lib.hid hl; clear hl
  go_enter Try.func29, Try.ntmps29
  go_wp2_with fail
  go_loopw [3, 4] (fun v i wr => ∃ k : Nat, k ≤ l.length ∧ i = .int .i64 k ∧ wr.ownsRow w.heap.size 101 2 v k (exCells (exOf (l.take k))) ∧ Below w.heap.size w wr) (fun _ i _ => l.length - (intOf i).toNat)
  case atStart => exact ⟨0, by omega, rfl, World.ownsRow_nil _ _ _ _, Below.refl _ _⟩
  case round =>
    obtain ⟨k, hk, rfl, hown, hB⟩ := hrel
    have hsB := hB.size
    by_cases hlt : k < l.length
    · obtain ⟨b, off, x, rfl, hx, hxm, hcw, hbx⟩ := Hc.out.get hlt
      have hcx := kc hB hcw
      obtain ⟨hx1, hx2⟩ := Hl.out x hxm
      have ha := and2_of x hx1 hx2
      have HX := Lib.hid hx; clear hx
      have hsn : exCells (exOf (l.take (k + 1))) = exCells (exOf (l.take k)) ++ [.bool (decide (x % 2 = 1)), .bool (decide (x % 4 / 2 = 1))] := by
        rw [take_snoc HX.out]; unfold exOf; rw [List.map_append, List.map_singleton, exCells_snoc]
      have HS := Lib.hid hsn; clear hsn
      have E1 : Hid ((x.tmod 2 == 1) = decide (x % 2 = 1)) := Lib.hid (by rw [Int.tmod_eq_emod_of_nonneg hx1, Bool.eq_iff_iff]; simp)
      have E2 : Hid ((x % 4 / 2 * 2 == 2) = decide (x % 4 / 2 = 1)) := Lib.hid (by rw [Bool.eq_iff_iff]; simp; omega)
      have Hown := Lib.hid hown; clear hown
      go_wp2_with fail
      go_region_held3 (fun w' => w'.cell? ⟨b, off + k, none⟩ = some (.int .u8 x)) (first | assumption | go_keep)
        ((refine step_push (by rfl) _ _ (by rfl) stex w.heap.size _ k _ (by rfl) (ownsRow_below Hown.out (by go_grown)) wr.heap.size _ (by rfl) (by first | exact blk_new _ _ | simp) (by rfl) (by rfl) (by unfold maxLen; omega) (by omega) (by simp; omega) ?_; intro v5 w5 hown5 hg5 hv5; obtain ⟨g5, c5, rfl⟩ := hv5; have hcx5 := kg hg5 (kc (W := wr) (by go_grown) hcx) (fun g e => by have := (Hown.out.lt g e).1; omega)))
      go_wp2_with fail
      go_roundw
      case rel => exact ⟨k + 1, by omega, by go_num, by rw [HS.out, ← E1.out, ← E2.out]; exact hown5, Below.grown (by go_grown) hg5 (by simp; omega) (fun g e => (Hown.out.lt g e).1)⟩
      case measure => simp [intOf]; omega
    · have hkl : k = l.length := by omega
      subst hkl
      rw [take_all (Nat.le_refl _)] at hown
      have hown' := hown
      obtain ⟨ga, gc, rfl, -, -, -⟩ := own_val hown'
      clear hown'
      go_wp2_with fail
      go_returns
      exact ⟨_, rfl, hown, hB⟩
end Go.Proofs.Ytphajgehfbimnaa
