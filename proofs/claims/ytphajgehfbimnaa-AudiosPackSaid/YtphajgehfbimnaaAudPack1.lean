/-
  The contracts of audios.Pack and audios.Unpack where they answer an error, and of Unpack where it does not.
-/
import Derived.Test.YtphajgehfbimnaaAud1
namespace Go.Proofs.Ytphajgehfbimnaa
open Go.RowKit
set_option linter.unusedVariables false

def fmtOk (ch by_ : Int) : Prop := 1 ≤ ch ∧ ch ≤ 8 ∧ 1 ≤ by_ ∧ by_ ≤ 4

theorem bits_or_i32 (x y : Int) : bits .or .i32 x y = IntKind.i32.wrap (((x % 4294967296).toNat ||| (y % 4294967296).toNat : Nat) : Int) := by
  show IntKind.i32.wrap ((BitVec.ofInt 32 x ||| BitVec.ofInt 32 y).toNat : Int) = _
  rw [BitVec.toNat_or, BitVec.toNat_ofInt, BitVec.toNat_ofInt]
  rfl

/-- 'a | b << k' on int32, the bits apart. -/
theorem or_i32 (a b y : Int) (k : Nat) (h0 : 0 ≤ a) (h1 : a < 2 ^ k) (h2 : 0 ≤ b) (h3 : b * 2 ^ k < 4294967296) (h4 : a < 4294967296) (hy : y % 4294967296 = b * 2 ^ k) : bits .or .i32 a y = IntKind.i32.wrap (a + b * 2 ^ k) := by
  have hk : (0 : Int) ≤ 2 ^ k := Int.pow_nonneg (by decide)
  rw [bits_or_i32, hy, Int.emod_eq_of_lt h0 h4]
  have e1 : (b * 2 ^ k).toNat = b.toNat * 2 ^ k := by
    rw [Int.toNat_mul h2 hk]
    congr 1
  have e2 : ((2 ^ k : Nat) : Int) = 2 ^ k := by simp
  rw [e1, nat_or_shift _ _ _ (by omega)]
  congr 1
  have : ((b.toNat * 2 ^ k : Nat) : Int) = b * 2 ^ k := by
    rw [Int.natCast_mul, Int.toNat_of_nonneg h2]; simp
  omega

set_option maxRecDepth 100000 in
set_option maxHeartbeats 1000000 in
theorem fright_no (ch by_ : Int) (w : World) (h : ¬ fmtOk ch by_) :
    Calls Try.prog 40 #[.agg #[.int .i64 ch, .int .i64 by_]] w fun e w' => e = .returned (.bool false) ∧ Below w.heap.size w w' := by
  unfold fmtOk at h
  by_cases a1 : 1 ≤ ch
  · by_cases a2 : ch ≤ 8
    · by_cases a3 : 1 ≤ by_
      · have a4 : 4 < by_ := by omega
        clear h
        go_enter Try.func40, Try.ntmps40
        go_wp2
        go_returns
        exact ⟨by simp; omega, by go_grown⟩
      all_goals (clear h; go_enter Try.func40, Try.ntmps40; go_wp2; go_returns; exact ⟨rfl, by go_grown⟩)
    all_goals (clear h; go_enter Try.func40, Try.ntmps40; go_wp2; go_returns; exact ⟨rfl, by go_grown⟩)
  all_goals (clear h; go_enter Try.func40, Try.ntmps40; go_wp2; go_returns; exact ⟨rfl, by go_grown⟩)

set_option maxRecDepth 100000 in
set_option maxHeartbeats 1000000 in
theorem pack_form (ch by_ : Int) (a : Option Addr) (n cap : Nat) (w : World) (h : ¬ fmtOk ch by_) :
    Calls Try.prog 19 #[.agg #[.int .i64 ch, .int .i64 by_], .slice a n cap] w fun e w' => e = .returned (.tuple #[.slice none 0 0, .int .i64 1]) ∧ Below w.heap.size w w' := by
  have H := Lib.hid h; clear h
  go_enter Try.func19, Try.ntmps19
  go_wp2_with fail
  refine (fright_no _ _ _ H.out).mono ?_
  rintro e w1 ⟨rfl, hb1⟩
  have hB1 : Below w.heap.size w w1 := Below.trans (by go_grown) (hb1.mono (by go_size))
  go_wp2_with fail
  go_returns
  exact ⟨rfl, hB1⟩

set_option maxRecDepth 100000 in
set_option maxHeartbeats 1000000 in
theorem unpack_form (ch by_ : Int) (a : Option Addr) (n cap : Nat) (w : World) (h : ¬ fmtOk ch by_) :
    Calls Try.prog 20 #[.agg #[.int .i64 ch, .int .i64 by_], .slice a n cap] w fun e w' => e = .returned (.tuple #[.slice none 0 0, .int .i64 1]) ∧ Below w.heap.size w w' := by
  have H := Lib.hid h; clear h
  go_enter Try.func20, Try.ntmps20
  go_wp2_with fail
  refine (fright_no _ _ _ H.out).mono ?_
  rintro e w1 ⟨rfl, hb1⟩
  have hB1 : Below w.heap.size w w1 := Below.trans (by go_grown) (hb1.mono (by go_size))
  go_wp2_with fail
  go_returns
  exact ⟨rfl, hB1⟩

set_option maxRecDepth 100000 in
set_option maxHeartbeats 1000000 in
theorem pack_width (ch by_ : Int) (a : Option Addr) (n cap : Nat) (w : World) (h : fmtOk ch by_) (hn : (n : Int) % ch ≠ 0) (hm : n ≤ 9223372036854775807) :
    Calls Try.prog 19 #[.agg #[.int .i64 ch, .int .i64 by_], .slice a n cap] w fun e w' => e = .returned (.tuple #[.slice none 0 0, .int .i64 5]) ∧ Below w.heap.size w w' := by
  obtain ⟨a1, a2, a3, a4⟩ := h
  have hn' : ((n : Int) % ch == 0) = false := by simpa using hn
  have hn'' : ((n : Int) % ch != 0) = true := by simpa using hn
  clear hn
  go_enter Try.func19, Try.ntmps19
  go_wp2_with fail
  refine (fright_yes _ _ _ a1 a2 a3 a4).mono ?_
  rintro e w1 ⟨rfl, hb1⟩
  have K0 := kb hb1 (blk_new w _)
  obtain ⟨e0, e1, ff, hlt⟩ := blk2 K0
  have hB1 : Below w.heap.size w w1 := Below.trans (by go_grown) (hb1.mono (by go_size))
  clear hb1
  go_wp2_with fail
  go_returns
  exact ⟨rfl, hB1⟩

set_option maxRecDepth 100000 in
set_option maxHeartbeats 1000000 in
theorem unpack_width (ch by_ : Int) (a : Option Addr) (n cap : Nat) (w : World) (h : fmtOk ch by_) (hn : (n : Int) % (ch * by_) ≠ 0) (hm : n ≤ 9223372036854775807) (hp : 1 ≤ ch * by_ ∧ ch * by_ ≤ 32) :
    Calls Try.prog 20 #[.agg #[.int .i64 ch, .int .i64 by_], .slice a n cap] w fun e w' => e = .returned (.tuple #[.slice none 0 0, .int .i64 5]) ∧ Below w.heap.size w w' := by
  obtain ⟨a1, a2, a3, a4⟩ := h
  obtain ⟨p1, p2⟩ := hp
  have hn' : ((n : Int) % (ch * by_) == 0) = false := by simpa using hn
  have hn'' : ((n : Int) % (ch * by_) != 0) = true := by simpa using hn
  clear hn
  go_enter Try.func20, Try.ntmps20
  go_wp2_with fail
  refine (fright_yes _ _ _ a1 a2 a3 a4).mono ?_
  rintro e w1 ⟨rfl, hb1⟩
  have K0 := kb hb1 (blk_new w _)
  obtain ⟨e0, e1, ff, hlt⟩ := blk2 K0
  have hB1 : Below w.heap.size w w1 := Below.trans (by go_grown) (hb1.mono (by go_size))
  clear hb1
  go_wp2_with fail
  go_returns
  exact ⟨rfl, hB1⟩

end Go.Proofs.Ytphajgehfbimnaa
