/-
  The contracts of the reference of plugboardlaw02: what is sent behind bits; Five and Sixteen.
-/
import Derived.Test.YtolmhlikmjkkfaaChk4
namespace Go.Proofs.Ytolmhlikmjkkfaa
open Go.RowKit
set_option linter.unusedVariables false

theorem sentOf_cons (x : Nat) (m : List Nat) : Chk.sentOf (x :: m) = Chk.sentOf m ++ [1 - x] := by simp [Chk.sentOf]
theorem sentOf_len (m : List Nat) : (Chk.sentOf m).length = m.length := by simp [Chk.sentOf]
theorem sentOf_lt (m : List Nat) : ∀ x ∈ Chk.sentOf m, x < 2 := by
  intro x hx
  simp only [Chk.sentOf, List.mem_reverse, List.mem_map] at hx
  obtain ⟨y, _, rfl⟩ := hx
  omega

/-- A slice of bytes in new memory, given back. -/
def Bytes8 (w : World) (l : List Nat) (e : Ending) (w' : World) : Prop := ∃ a c, e = .returned (.slice a l.length c) ∧ w'.ownsRow w.heap.size 5 1 (.slice a l.length c) l.length (n8 l) ∧ Below w.heap.size w w'

set_option maxRecDepth 100000 in
set_option maxHeartbeats 1000000 in
theorem sent_ok (a a' : Option Addr) (l p : List Nat) (cap cap' : Nat) (w : World) (hc : Cells w a (n8 l)) (hc' : Cells w a' (n8 p)) (hl : ∀ b ∈ l, b < 2) (hp : ∀ b ∈ p, b < 2) (hn : l.length ≤ 1000000) (hd0 : 0 < p.length) (hd : p.length ≤ 32) :
    Calls Try.prog 49 #[.slice a l.length cap, .slice a' p.length cap'] w (Bytes8 w (Chk.sentOf (behind p l))) := by
  have HR : Hid (∀ x ∈ behind p l, x < 2) := Lib.hid (behind_lt p hp _ _ (by intro x hx; rw [(List.mem_replicate.1 hx).2]; decide))
  obtain ⟨d, hd1⟩ : ∃ d, p.length = d := ⟨_, rfl⟩
  have HL : Hid ((behind p l).length = d) := Lib.hid (by unfold behind; rw [behind_len]; simpa using hd1)
  rw [hd1] at hd0 hd ⊢
  have Hd := Lib.hid hd1; clear hd1
  have Hc := Lib.hid hc; clear hc
  have Hc' := Lib.hid hc'; clear hc'
  have Hl := Lib.hid hl; clear hl
  have Hp := Lib.hid hp; clear hp
  go_enter Try.func49, Try.ntmps49
  go_wp2_with (go_at_call 69; have HB := behind_ok a a' l p cap cap' w Hc.out Hc'.out Hl.out Hp.out hn (by rw [Hd.out]; exact hd0) (by rw [Hd.out]; exact hd); rw [Hd.out] at HB; refine HB.mono ?_; clear HB; rintro e w1 ⟨rfl, o1, hb1⟩; have hz1 := hb1.size)
  have O1 := Lib.hid o1; clear o1
  generalize behind p l = R at *
  go_loopw [6, 7] (fun s i wr => ∃ k : Nat, k ≤ d ∧ i = .int .i64 ((k : Int) - 1) ∧ Hid (wr.ownsRow w1.heap.size 5 1 s (d - k) (n8 (Chk.sentOf (R.drop k)))) ∧ Below w1.heap.size w1 wr) (fun _ i _ => (intOf i + 1).toNat)
  case atStart => exact ⟨d, by omega, rfl, Lib.hid (by rw [List.drop_eq_nil_of_le (by rw [HL.out]; exact Nat.le_refl _), Nat.sub_self]; exact World.ownsRow_nil _ _ _ _), Below.refl _ _⟩
  case round =>
    obtain ⟨k, hk, rfl, HO, hB⟩ := hrel
    have ho := HO.out
    obtain ⟨av, cv, rfl, -, -, -⟩ := own_view ho
    have zB := hB.size
    by_cases hlt : 0 < k
    · obtain ⟨j, rfl⟩ : ∃ j, k = j + 1 := ⟨k - 1, by omega⟩
      have e : ((((j + 1 : Nat) : Int)) - 1) = (j : Int) := by omega
      rw [e]
      obtain ⟨bb, off, x, hbb, hx, hxm, hcx, hbx⟩ := Cells.get (α := Nat) (f := fun n : Nat => Value.int .u8 (n : Int)) ((own_cells O1.out).below hB) (k := j) (by rw [HL.out]; omega)
      simp only [Option.some.injEq, Addr.mk.injEq, and_true] at hbb
      obtain ⟨rfl, rfl⟩ := hbb
      simp only [Nat.zero_add] at hcx
      have hx2 := HR.out x hxm
      have hdr : R.drop j = x :: R.drop (j + 1) := by
        have hj : j < R.length := by rw [HL.out]; omega
        rw [List.drop_eq_getElem_cons hj]
        congr 1
        have : R[j]? = some R[j] := by simp [hj]
        rw [this] at hx; exact Option.some.inj hx
      obtain ⟨y, hy, hy2⟩ : ∃ y : Nat, (1 : Int) - (x : Int) = (y : Int) ∧ y = 1 - x := ⟨1 - x, by omega, rfl⟩
      have HD : Hid (n8 (Chk.sentOf (R.drop j)) = n8 (Chk.sentOf (R.drop (j + 1))) ++ [.int .u8 y]) := Lib.hid (by rw [hdr, sentOf_cons, n8_snoc, hy2])
      clear hdr hx hxm e hy2
      go_wp2_with (at_builtin; refine wpList_push rfl _ _ rfl st8 w1.heap.size _ (d - (j + 1)) _ rfl rfl ho rfl (by omega) (by unfold maxLen; omega) (by omega) ?_; intro v5 w5 hown5 hg5)
      go_roundw
      case rel => exact ⟨j, by omega, by first | rfl | exact congrArg (Value.int .i64) (by omega), Lib.hid (by rw [HD.out]; rw [show d - (j + 1) + 1 = d - j from by omega] at hown5; exact hown5), (hB.alloc zB _).grown hg5 (by simp; omega) (fun g e => (ho.lt g e).1)⟩
      case measure => simp [intOf]
    · obtain rfl : k = 0 := by omega
      rw [show (((0 : Nat) : Int) - 1) = -1 from by omega]
      go_wp2_with fail
      go_returns
      have h2 := own_base HO.out hz1
      rw [List.drop_zero] at h2
      have hs : (Chk.sentOf R).length = d := by rw [sentOf_len, HL.out]
      refine ⟨av, cv, by rw [hs]; rfl, ?_, hb1.trans (hB.mono hz1)⟩
      rw [hs]; exact h2

theorem regOf_short : Chk.regOf 5 20 = [1, 0, 1, 0, 0] := by decide
theorem regOf_long : Chk.regOf 16 40961 = [1, 0, 1, 0, 0, 0, 0, 0, 0, 0, 0, 0, 0, 0, 0, 1] := by decide
theorem behind_ref (d P : Nat) (l : List Nat) (hd : 0 < d) (hP : P < 2 ^ d) (hl : ∀ b ∈ l, b < 2) : Chk.num (Chk.sentOf (behind (Chk.regOf d P) l)) = Chk.run P (2 ^ d - 1) l ^^^ (2 ^ d - 1) := by
  rw [← Chk.refCheck_eq d P l hd hP hl]
  unfold Chk.refCheck behind
  have h : List.replicate (Chk.regOf d P).length 1 = Chk.regOf d (2 ^ d - 1) := by
    rw [Chk.regOf_len]
    unfold Chk.regOf
    apply List.ext_getElem
    · simp
    · intro i h1 h2
      simp at h1
      simp only [List.getElem_replicate, List.getElem_map, List.getElem_range]
      have h3 : (2 ^ d - 1) >>> (d - 1 - i) = 2 ^ (i + 1) - 1 := by
        rw [Nat.shiftRight_eq_div_pow]
        have hp : 2 ^ d = 2 ^ (i + 1) * 2 ^ (d - 1 - i) := by rw [← Nat.pow_add]; congr 1; omega
        rw [hp]
        have hq := Nat.one_le_two_pow (n := d - 1 - i)
        have hr := Nat.one_le_two_pow (n := i + 1)
        rw [Nat.div_eq_iff (by omega)]
        have : (2 ^ (i + 1) - 1) * 2 ^ (d - 1 - i) = 2 ^ (i + 1) * 2 ^ (d - 1 - i) - 2 ^ (d - 1 - i) := by rw [Nat.sub_mul, Nat.one_mul]
        have hge : 2 ^ (d - 1 - i) ≤ 2 ^ (i + 1) * 2 ^ (d - 1 - i) := Nat.le_mul_of_pos_left _ (by omega)
        omega
      rw [h3]
      have := Nat.one_le_two_pow (n := i)
      rw [Nat.pow_succ]; omega
  rw [h]

set_option maxRecDepth 100000 in
theorem short_ok (w : World) : Calls Try.prog 51 #[] w (Bytes8 w [1, 0, 1, 0, 0]) := by
  go_enter Try.func51, Try.ntmps51
  go_wp2_with fail
  go_returns
  exact ⟨some ⟨w.heap.size, 0, none⟩, 5, rfl, ⟨by rfl, .inr ⟨w.heap.size, 5, _, rfl, Nat.le_refl _, blk_new w _, by simp, by unfold maxLen; omega, rfl, rfl⟩⟩, by go_grown⟩

set_option maxRecDepth 100000 in
theorem long_ok (w : World) : Calls Try.prog 53 #[] w (Bytes8 w [1, 0, 1, 0, 0, 0, 0, 0, 0, 0, 0, 0, 0, 0, 0, 1]) := by
  go_enter Try.func53, Try.ntmps53
  go_wp2_with fail
  go_returns
  exact ⟨some ⟨w.heap.size, 0, none⟩, 16, rfl, ⟨by rfl, .inr ⟨w.heap.size, 16, _, rfl, Nat.le_refl _, blk_new w _, by simp, by unfold maxLen; omega, rfl, rfl⟩⟩, by go_grown⟩

set_option maxRecDepth 100000 in
set_option maxHeartbeats 1000000 in
theorem refFive_ok (v n : Nat) (w : World) (hv : v < 4294967296) (hn : n ≤ 32) :
    Calls Try.prog 18 #[.int .u32 v, .int .i64 n] w fun e w' => e = .returned (.int .u64 (Chk.five v n : Nat)) ∧ Below w.heap.size w w' := by
  have HB : Hid ([1, 0, 1, 0, 0] = Chk.regOf 5 20) := Lib.hid regOf_short.symm
  have HF : Hid (Chk.num (Chk.sentOf (behind [1, 0, 1, 0, 0] (Chk.bitsN v n))) = Chk.five v n) := Lib.hid (by rw [HB.out, behind_ref 5 20 _ (by decide) (by decide) (Chk.bitsN_lt v n)]; rfl)
  have HL : Hid ((Chk.bitsN v n).length = n) := Lib.hid (Chk.bitsN_len v n)
  go_enter Try.func18, Try.ntmps18
  go_wp2_with (go_at_call 50; refine (low_ok v n _ (by omega) (by omega)).mono ?_; rintro e w1 ⟨a1, c1, rfl, o1, hb1⟩; have O1 := Lib.hid o1; clear o1; have hz1 := hb1.size)
  refine (short_ok _).mono ?_
  rintro e w2 ⟨a2, c2, rfl, o2, hb2⟩
  have hz2 := hb2.size
  have C1 := Lib.hid ((own_cells O1.out).below hb2)
  have C2 := Lib.hid (own_cells o2)
  clear o2
  go_wp2_with fail
  have hS := sent_ok a1 a2 (Chk.bitsN v n) [1, 0, 1, 0, 0] c1 c2 w2 C1.out C2.out (Chk.bitsN_lt v n) (by decide) (by rw [HL.out]; omega) (by decide) (by decide)
  rw [HL.out] at hS
  refine hS.mono ?_
  clear hS
  rintro e w3 ⟨a3, c3, rfl, o3, hb3⟩
  have HL3 : Hid ((Chk.sentOf (behind [1, 0, 1, 0, 0] (Chk.bitsN v n))).length = 5) := Lib.hid (by rw [sentOf_len]; unfold behind; rw [behind_len]; rfl)
  have C3 := Lib.hid (own_cells o3)
  have HS := Lib.hid (sentOf_lt (behind [1, 0, 1, 0, 0] (Chk.bitsN v n)))
  clear o3
  generalize Chk.sentOf (behind [1, 0, 1, 0, 0] (Chk.bitsN v n)) = R at *
  go_wp2_with fail
  refine (num_ok a3 R c3 _ C3.out HS.out (by rw [HL3.out]; decide)).mono ?_
  rintro e w4 ⟨rfl, rfl⟩
  go_wp2_with fail
  go_returns
  exact ⟨ret_int (by rw [HF.out]), hb1.trans ((hb2.mono hz1).trans (hb3.mono (Nat.le_trans hz1 hz2)))⟩

def int8s (l : List Nat) : Prop := ∀ x ∈ l, x < 256

set_option maxRecDepth 100000 in
set_option maxHeartbeats 1000000 in
theorem all_ok (a : Option Addr) (l : List Nat) (cap : Nat) (w : World) (hc : Cells w a (n8 l)) (hl : int8s l) (hn : l.length ≤ 100000) :
    Calls Try.prog 52 #[.slice a l.length cap] w (Bytes8 w (Chk.allBits l)) := by
  have Hc := Lib.hid hc; clear hc
  have Hl := Lib.hid hl; clear hl
  go_enter Try.func52, Try.ntmps52
  go_wp2_with fail
  go_loopw [3, 4] (fun s i wr => ∃ k : Nat, k ≤ l.length ∧ i = .int .i64 k ∧ Hid (wr.ownsRow w.heap.size 5 1 s (8 * k) (n8 (Chk.allBits (l.take k)))) ∧ Below w.heap.size w wr) (fun _ i _ => l.length - (intOf i).toNat)
  case atStart => exact ⟨0, by omega, rfl, Lib.hid (World.ownsRow_nil _ _ _ _), Below.refl _ _⟩
  case round =>
    obtain ⟨k, hk, rfl, HO, hB⟩ := hrel
    have ho := HO.out
    obtain ⟨av, cv, rfl, -, -, -⟩ := own_view ho
    have zB := hB.size
    by_cases hlt : k < l.length
    · obtain ⟨bb, off, x, rfl, hx, hxm, hcx, hbx⟩ := Cells.get (α := Nat) (f := fun n : Nat => Value.int .u8 (n : Int)) (Hc.out.below hB) hlt
      have hx2 := Hl.out x hxm
      have HX : Hid (n8 (Chk.allBits (l.take (k + 1))) = n8 (Chk.allBits (l.take k)) ++ n8 (Chk.bitsN x 8)) := Lib.hid (by rw [take_snoc hx, Chk.allBits_append]; simp [n8, Chk.allBits])
      have HL8 : Hid ((n8 (Chk.bitsN x 8)).length = 8) := Lib.hid (by rw [n8_len, Chk.bitsN_len])
      clear hx hxm
      go_wp2_with (first
        | (go_at_call 50; refine (low_ok x 8 _ (by omega) (by omega)).mono ?_; rintro e w1 ⟨a1, c1, rfl, o1, hb1⟩; have hz1 := hb1.size; have ho1 := ownsRow_below ho hb1; obtain ⟨a1', c1', hv1, hC1, hn1, hn2, hn3⟩ := own_val o1; simp only [Value.slice.injEq, true_and] at hv1; obtain ⟨rfl, rfl⟩ := hv1; have O1 := Lib.hid hC1; have N3 := Lib.hid hn3; clear o1 hC1 hn3)
        | (at_builtin; refine wpList_cat rfl _ _ rfl st8 a1 8 c1 (n8 (Chk.bitsN x 8)) rfl rfl ho1 O1.out HL8.out.symm N3.out (n8_one _) (by omega) (by unfold maxLen; omega) (by omega) ?_; intro v5 w5 hown5 hg5))
      go_roundw
      case rel => exact ⟨k + 1, by omega, by go_num, Lib.hid (by rw [HX.out]; rw [show 8 * k + 8 = 8 * (k + 1) from by omega] at hown5; exact hown5), (hB.trans (hb1.mono zB)).grown hg5 (by omega) (fun g e => (ho1.lt g e).1)⟩
      case measure => simp [intOf]; omega
    · obtain rfl : k = l.length := by omega
      have hs : (Chk.allBits l).length = 8 * l.length := Chk.allBits_len l
      rw [take_all (Nat.le_refl _)] at ho
      go_wp2_with fail
      go_returns
      refine ⟨av, cv, by rw [hs]; rfl, by rw [hs]; exact ho, hB⟩
end Go.Proofs.Ytolmhlikmjkkfaa
