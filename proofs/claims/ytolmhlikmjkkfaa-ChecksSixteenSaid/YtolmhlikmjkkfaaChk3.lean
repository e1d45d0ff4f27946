/-
  The contracts of the reference of plugboardlaw02: bits, the register as a list, the number of bits.
-/
import Derived.Test.YtolmhlikmjkkfaaChk2
namespace Go.Proofs.Ytolmhlikmjkkfaa
open Go.RowKit
set_option linter.unusedVariables false

theorem st8 : SliceTy Try.prog 33 5 (.int .u8 0) 1 1 := ⟨Try.underlying33, by kernel_rfl, rfl, by decide⟩
/-- Bytes in memory. -/
def n8 (l : List Nat) : List Value := l.map fun n : Nat => .int .u8 (n : Int)
theorem n8_snoc (l : List Nat) (x : Nat) : n8 (l ++ [x]) = n8 l ++ [.int .u8 x] := by simp [n8]
theorem n8_one (l : List Nat) : ∀ u ∈ n8 l, u.oneCell' = true := by
  intro u hu; obtain ⟨x, _, rfl⟩ := List.mem_map.1 hu; rfl
theorem n8_len (l : List Nat) : (n8 l).length = l.length := by simp [n8]
theorem n8_get {l : List Nat} {k x : Nat} (h : l[k]? = some x) : (n8 l)[k]? = some (.int .u8 x) := by simp [n8, h]

theorem and1_u64 (v k : Nat) : bits .and .u8 ((v : Int) / 2 ^ k % 256) 1 = ((v / 2 ^ k % 2 : Nat) : Int) := by
  have := and1_u8 (v / 2 ^ k % 256) (Nat.mod_lt _ (by decide))
  rw [show v / 2 ^ k % 256 % 2 = v / 2 ^ k % 2 from by omega] at this
  rw [← this]
  simp

set_option maxRecDepth 100000 in
set_option maxHeartbeats 400000 in
theorem low_ok (v n : Nat) (w : World) (hv : v < 18446744073709551616) (hn : n ≤ 63) :
    Calls Try.prog 50 #[.int .u64 v, .int .i64 n] w fun e w' => ∃ a c, e = .returned (.slice a n c) ∧ w'.ownsRow w.heap.size 5 1 (.slice a n c) n (n8 (Chk.bitsN v n)) ∧ Below w.heap.size w w' := by
  go_enter Try.func50, Try.ntmps50
  go_wp2_with fail
  go_loopw [5, 6] (fun s i wr => ∃ k : Nat, k ≤ n ∧ i = .int .i64 k ∧ Hid (wr.ownsRow w.heap.size 5 1 s k (n8 (Chk.bitsN v k))) ∧ Below w.heap.size w wr) (fun _ i _ => n - (intOf i).toNat)
  case atStart => exact ⟨0, by omega, rfl, Lib.hid (World.ownsRow_nil _ _ _ _), Below.refl _ _⟩
  case round =>
    obtain ⟨k, hk, rfl, HO, hB⟩ := hrel
    have ho := HO.out
    obtain ⟨av, cv, rfl, -, -, -⟩ := own_view ho
    have zB := hB.size
    by_cases hlt : k < n
    · obtain ⟨b, hb, hb2⟩ : ∃ b : Nat, v / 2 ^ k % 2 = b ∧ b < 2 := ⟨_, rfl, Nat.mod_lt _ (by decide)⟩
      have hbit := and1_u64 v k
      rw [hb] at hbit
      have HB : Hid (n8 (Chk.bitsN v (k + 1)) = n8 (Chk.bitsN v k) ++ [.int .u8 b]) := Lib.hid (by rw [Chk.bitsN_succ, n8_snoc, hb])
      have hk64 : (k : Int) < 64 := by omega
      clear hb
      go_wp2_with (at_builtin; refine wpList_push rfl _ _ rfl st8 w.heap.size _ k _ rfl rfl ho rfl (by omega) (by unfold maxLen; omega) (by omega) ?_; intro v5 w5 hown5 hg5)
      go_roundw
      case rel => exact ⟨k + 1, by omega, by go_num, Lib.hid (by rw [HB.out]; exact hown5), (hB.alloc zB _).grown hg5 (by simp; omega) (fun g e => (ho.lt g e).1)⟩
      case measure => simp [intOf]; omega
    · obtain rfl : k = n := by omega
      clear hlt hk
      go_wp2_with fail
      go_returns
      exact ⟨av, cv, rfl, ho, hB⟩

theorem num_lt : ∀ (l : List Nat), (∀ b ∈ l, b < 2) → Chk.num l < 2 ^ l.length := by
  intro l
  induction l with
  | nil => intro _; decide
  | cons b l ih =>
    intro h
    have h1 := ih (fun c hc => h c (by simp [hc]))
    have h2 := h b (by simp)
    show 2 * Chk.num l + b < 2 ^ (l.length + 1)
    rw [Nat.pow_succ]; omega

set_option maxRecDepth 100000 in
set_option maxHeartbeats 400000 in
theorem num_ok (a : Option Addr) (l : List Nat) (cap : Nat) (w : World) (hc : Cells w a (n8 l)) (hl : ∀ b ∈ l, b < 2) (hn : l.length ≤ 32) :
    Calls Try.prog 48 #[.slice a l.length cap] w fun e w' => e = .returned (.int .u64 (Chk.num l : Nat)) ∧ w = w' := by
  have Hc := Lib.hid hc; clear hc
  have Hl := Lib.hid hl; clear hl
  go_enter Try.func48, Try.ntmps48
  go_wp2_with fail
  go_loop [3, 4] (fun s i => ∃ k : Nat, k ≤ l.length ∧ i = .int .i64 ((k : Int) - 1) ∧ s = .int .u64 (Chk.num (l.drop k) : Nat)) (fun _ i => (intOf i + 1).toNat)
  case atStart => exact ⟨l.length, by omega, rfl, by simp [Chk.num]⟩
  case round =>
    obtain ⟨k, hk, rfl, rfl⟩ := hrel
    by_cases hlt : 0 < k
    · obtain ⟨j, rfl⟩ : ∃ j, k = j + 1 := ⟨k - 1, by omega⟩
      obtain ⟨b, off, x, rfl, hx, hxm, hcx, hbx⟩ := Cells.get (α := Nat) (f := fun n : Nat => Value.int .u8 (n : Int)) Hc.out (k := j) (by omega)
      have hd : l.drop j = x :: l.drop (j + 1) := by
        have hj : j < l.length := by omega
        rw [List.drop_eq_getElem_cons hj]
        congr 1
        have : l[j]? = some l[j] := by simp [hj]
        rw [this] at hx; exact Option.some.inj hx
      have HD : Hid (Chk.num (l.drop j) = 2 * Chk.num (l.drop (j + 1)) + x) := Lib.hid (by rw [hd]; rfl)
      have hnl := num_lt (l.drop (j + 1)) (fun b hb => Hl.out b (List.mem_of_mem_drop hb))
      have hp : 2 ^ (l.drop (j + 1)).length ≤ 2 ^ 32 := Nat.pow_le_pow_right (by decide) (by simp; omega)
      have hx2 := Hl.out x hxm
      have hnl' : Chk.num (l.drop (j + 1)) < 4294967296 := Nat.lt_of_lt_of_le hnl hp
      have e : ((((j + 1 : Nat) : Int)) - 1) = (j : Int) := by omega
      rw [e]
      generalize Chk.num (l.drop (j + 1)) = q at *
      clear hd hx hxm hnl hp e
      go_wp2_with fail
      go_round
      case rel => exact ⟨j, by omega, rfl, by rw [HD.out]; go_num⟩
      case measure => simp [intOf]
    · obtain rfl : k = 0 := by omega
      rw [show (((0 : Nat) : Int) - 1) = -1 from by omega]
      go_wp2_with fail
      go_returns
      exact ⟨rfl, rfl⟩
end Go.Proofs.Ytolmhlikmjkkfaa
