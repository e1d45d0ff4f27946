/-
  plugboardlaw42.AudiosPack: the walk.
-/
import Derived.Test.YtphajgehfbimnaaAudPack4
namespace Go.Proofs.Ytphajgehfbimnaa
open Go.RowKit
set_option linter.unusedVariables false

theorem six9 : Try.prog.underlying 9 = some .string := Try.underlying9

set_option maxRecDepth 100000 in
set_option maxHeartbeats 2000000 in
theorem audpack_long (ch by_ : Int) (a : Option Addr) (n cap : Nat) (a' : Option Addr) (n' cap' : Nat) (w : World) (h : 60 < n ∨ 100 < n') (hm : n ≤ 9223372036854775807) (hm' : n' ≤ 9223372036854775807) :
    Calls Try.prog 5 #[.agg #[.int .i64 ch, .int .i64 by_], .slice a n cap, .slice a' n' cap'] w fun e w' => e = .returned (.bool true) ∧ Below w.heap.size w w' := by
  by_cases h1 : 60 < n
  all_goals
    try have h2 : 100 < n' := by omega
    clear h
    go_enter Try.func5, Try.ntmps5
    go_wp2_with fail
    refine (lives_ok _).mono ?_
    rintro e w5 ⟨rfl, hb5⟩
    go_wp2_with fail
    go_returns
    exact ⟨rfl, Below.trans (by go_grown) (hb5.mono (by go_size))⟩

set_option maxRecDepth 100000 in
set_option maxHeartbeats 2000000 in
theorem audpack_form (ch by_ : Int) (a : Option Addr) (n cap : Nat) (a' : Option Addr) (n' cap' : Nat) (w : World) (h : ¬ fmtOk ch by_) (hm : n ≤ 60) (hm' : n' ≤ 100) :
    Calls Try.prog 5 #[.agg #[.int .i64 ch, .int .i64 by_], .slice a n cap, .slice a' n' cap'] w fun e w' => e = .returned (.bool true) ∧ Below w.heap.size w w' := by
  have H := Lib.hid h
  have hcases : ch < 1 ∨ (1 ≤ ch ∧ 8 < ch) ∨ (1 ≤ ch ∧ ch ≤ 8 ∧ by_ < 1) ∨ (1 ≤ ch ∧ ch ≤ 8 ∧ 1 ≤ by_ ∧ 4 < by_) := by unfold fmtOk at h; omega
  clear h
  rcases hcases with c1 | ⟨c1, c2⟩ | ⟨c1, c2, c3⟩ | ⟨c1, c2, c3, c4⟩
  all_goals
    try have hdec : decide (by_ ≤ 4) = false := by simp; omega
    go_enter Try.func5, Try.ntmps5
    go_wp2_with fail
    refine (pack_form _ _ _ _ _ _ H.out).mono ?_
    rintro e w1 ⟨rfl, hb1⟩
    have K0 := kb hb1 (blk_new w _)
    obtain ⟨e0, e1, ff, hlt⟩ := blk2 K0
    have hB1 : Below w.heap.size w w1 := Below.trans (by go_grown) (hb1.mono (by go_size))
    clear hb1
    go_wp2_with fail
    refine (unpack_form _ _ _ _ _ _ H.out).mono ?_
    rintro e w2 ⟨rfl, hb2⟩
    replace hB1 := hB1.trans (hb2.mono hB1.size)
    have hsB := hB1.size
    clear hb2 K0 e0 e1 ff hlt
    go_wp2_with fail
    refine (lives_ok _).mono ?_
    rintro e w5 ⟨rfl, hb5⟩
    go_wp2_with fail
    go_returns
    exact ⟨rfl, Below.trans (by go_grown) (hb5.mono (by go_size))⟩

def inr (h x : Int) : Bool := decide (-h ≤ x) && decide (x < h)
def wantOf (h : Int) (l : List Int) : Int := if l.all (inr h) then 0 else 1
theorem wantOf_snoc (h : Int) (l : List Int) (x : Int) : wantOf h (l ++ [x]) = if inr h x then wantOf h l else 1 := by
  unfold wantOf
  cases h1 : l.all (inr h) <;> cases h2 : inr h x <;> simp [h1, h2]

end Go.Proofs.Ytphajgehfbimnaa
