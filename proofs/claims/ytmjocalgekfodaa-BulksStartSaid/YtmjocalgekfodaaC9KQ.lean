/-
  The statement BulksStart: the plain law, its end.
  Conditions: none.
-/
import Derived.Test.YtmjocalgekfodaaC9KP
namespace Go.Proofs.Ytmjocalgekfodaa
set_option linter.unusedVariables false
set_option linter.unusedSimpArgs false
set_option maxRecDepth 100000
set_option maxHeartbeats 2000000

theorem rerr9_eq (m : Nat) (p : Pl9) (h : 0 ≤ p.2.1) : rerr9_D m p = some (err9 p, ()) := by
  obtain ⟨I, E, M, tg, d, z, L, u⟩ := p
  simp only at h
  unfold rerr9_D rerr9_J0 rerr9_J1 rerr9_J2 err9
  simp only
  by_cases h1 : E = 0
  · simp [h1]
  by_cases h2 : 15 < E
  · simp [h1, h2]
  by_cases h3 : M < 1
  · simp [h1, h2, h3]
  by_cases h4 : 1024 < M
  · simp [h1, h2, h3, h4]
  have hc : ¬ (E = 0 ∨ 15 < E ∨ M < 1 ∨ 1024 < M) := by omega
  rw [if_neg hc]
  simp only [h1, h2, h3, h4, decide_false, cond_false]
  have tail : (bif decide ((65536 : Int) < (d.length : Int)) then (bif true then some ((3 : Int), ()) else some (0, ())) else (bif decide ((65536 : Int) < L) then some ((3 : Int), ()) else some (0, ()))) = some ((if 65536 < d.length ∨ 65536 < L then (3 : Int) else 0), ()) := by
    by_cases a : 65536 < d.length
    · rw [dT (show (65536 : Int) < (d.length : Int) by omega)]; simp [a]
    · rw [dF (show ¬ (65536 : Int) < (d.length : Int) by omega)]
      by_cases b : 65536 < L
      · simp [a, b]
      · simp [a, b]
  cases I with
  | true =>
    by_cases g1 : d.length = 0
    · cases z with
      | true => simp [g1]
      | false =>
        by_cases g2 : L < 0
        · simp [g1, g2]
        · simp [g1, g2] at tail ⊢; exact tail
    · simp [g1]
  | false =>
    by_cases g3 : L = 0
    · simp [g3] at tail ⊢; exact tail
    · simp [g3]
abbrev Tr9 := Bool × Int × Int × Bool × List Int × Bool × Int × List (List Int) × List Int × Int × Int × Bool × Int × Unit
def zero9 : Tr9 := (false, 0, 0, false, [], false, 0, [], [], 0, 0, false, 0, ())
def st9 (p : Pl9) : Tr9 := if err9 p = 0 then (if p.1 = true then (p.1, p.2.1, p.2.2.1, p.2.2.2.1, [], p.2.2.2.2.2.1, p.2.2.2.2.2.2.1, [], [], 0, 0, decide (p.2.2.2.2.2.2.1 = 0), 0, ())
  else (p.1, p.2.1, p.2.2.1, p.2.2.2.1, [], p.2.2.2.2.2.1, p.2.2.2.2.2.2.1, cut9 p.2.2.2.2.1 p.2.2.1.toNat p.2.2.2.2.2.1, [], 0, 0, false, 0, ())) else zero9
theorem bstart_eq (m : Nat) (p : Pl9) (h : 0 ≤ p.2.1) (hd : p.2.2.2.2.1.length ≤ 70000) (hm : 70000 < m) : bstart_D m p = some ((st9 p, err9 p, ()), ()) := by
  obtain ⟨I, E, M, tg, d, z, L, u⟩ := p
  simp only at h hd
  unfold bstart_D bstart_J0 bstart_J1 bstart_J2 st9 err9
  simp only
  by_cases h1 : E = 0
  · simp [h1, zero9]
  have h1' : ¬ E < 1 := by omega
  by_cases h2 : 15 < E
  · simp [h1, h1', h2, zero9]
  by_cases h3 : M < 1
  · simp [h1, h1', h2, h3, zero9]
  by_cases h4 : 1024 < M
  · simp [h1, h1', h2, h3, h4, zero9]
  have hc : ¬ (E = 0 ∨ 15 < E ∨ M < 1 ∨ 1024 < M) := by omega
  simp only [if_neg hc]
  simp only [h1', h2, h3, h4, decide_false, cond_false]
  obtain ⟨k, rfl⟩ : ∃ k : Nat, M = (k : Int) := ⟨M.toNat, by omega⟩
  have ec := fun z => bcut_eq m z k (by omega) (by omega) d (by omega) (by omega)
  cases I with
  | true =>
    by_cases g1 : d.length = 0
    · cases z with
      | true => simp [g1, zero9]
      | false =>
        by_cases g2 : L < 0
        · simp [g1, g2, zero9]
        · by_cases b : 65536 < L
          · simp [g1, g2, b, zero9]
          · simp [g1, g2, b]
    · have : 0 < d.length := by omega
      simp [g1, this, zero9]
  | false =>
    by_cases g3 : L = 0
    · by_cases a : 65536 < d.length
      · rw [dT (show (65536 : Int) < (d.length : Int) by omega)]
        simp [g3, a, zero9]
      · rw [dF (show ¬ (65536 : Int) < (d.length : Int) by omega)]
        simp [g3, a, ec, bnd]
    · simp [g3, zero9]
theorem lives9_big : lives9_D 80000 = some (true, ()) := by kernel_rfl
theorem bdone1' : bdone_D 80000 1 = some ((1, [0], ()), ()) := by kernel_rfl
theorem zero_answer : banswer_D 80000 zero9 (1, [0], ()) = some (zero9, ()) := by kernel_rfl
theorem zero_next : bnext_D 80000 zero9 = some (((0, 0, 0, false, false, 0, [], ()), false, ()), ()) := by kernel_rfl
theorem zero_end : bend_D 80000 zero9 = some (((0, [], 0, ()), false, ()), ()) := by kernel_rfl
theorem zero_J0 (k : Bool → Option (Bool × Unit)) : lawS_J0 80000 false false zero9 k = k true := by
  unfold lawS_J0
  have e1 : btog_D 80000 zero9 = some (false, ()) := by kernel_rfl
  have e2 : berr_D 80000 zero9 = some (0, ()) := by kernel_rfl
  rw [e1, e2, lives9_big]
  rfl
def coreS (p : Pl9) : Option (Bool × Unit) := (bnd (rerr9_D 80000 p) fun y472 => (bnd (bstart_D 80000 p) fun y475 => (bif !decide (y475.fst.snd.fst = y472.fst) then some ((false, ())) else (bif !decide (y475.fst.snd.fst = (0 : Int)) then (bnd (bdone_D 80000 (1 : Int)) fun y485 => (bnd (banswer_D 80000 y475.fst.fst y485.fst) fun y487 => (bnd (bnext_D 80000 y487.fst) fun y491 => (bnd (bend_D 80000 y487.fst) fun y498 => (lawS_J0 80000 (y491.fst.snd.fst) (y498.fst.snd.fst) (y487.fst) (fun d530 => some ((d530, ())))))))) else (bnd (bend_D 80000 y475.fst.fst) fun y534 => (bnd (bnext_D 80000 y475.fst.fst) fun y541 => (lawS_J1 80000 (y534.fst.snd.fst) (y541.fst.snd.fst) (p) (y475.fst.fst) (y534.fst.fst) (fun d713 => some ((d713, ()))))))))))
theorem coreS_true (p : Pl9) (h : 0 ≤ p.2.1) (hd : p.2.2.2.2.1.length ≤ 70000) : coreS p = some (true, ()) := by
  unfold coreS
  rw [rerr9_eq _ p h, bstart_eq _ p h hd (by omega)]
  simp only [bnd_some, decide_true, Bool.not_true, cond_false]
  by_cases he : err9 p = 0
  · rw [dT he]
    simp only [Bool.not_true, cond_false]
    unfold st9
    rw [if_pos he]
    obtain ⟨I, E, M, tg, d, z, L, u⟩ := p
    simp only at hd
    have hM : 1 ≤ M := by
      unfold err9 at he
      simp only at he
      by_cases hc : E = 0 ∨ 15 < E ∨ M < 1 ∨ 1024 < M
      · rw [if_pos hc] at he; omega
      · omega
    have c0 : bclone_D 80000 [] = some ([], ()) := bclone_eq _ _ (by simp)
    cases I with
    | true =>
      by_cases hL : L = 0
      · simp [hL, bend_D, bnext_D, bnext_J0, c0, bnd, lawS_J1, btog_D, lives9_big]
      · have : ¬ M = 0 := by omega
        simp [hL, this, bend_D, bnext_D, bnext_J0, c0, bnd, lawS_J1, btog_D, lives9_big]
    | false =>
      have hk := cut9_cons d M.toNat (by omega) z
      have : ¬ M = 0 := by omega
      have hf := chk9_facts M.toNat (by omega) d.length d (Nat.le_refl _)
      have c1 : bclone_D 80000 ((cut9 d M.toNat z).getD 0 []) = some ((cut9 d M.toNat z).getD 0 [], ()) := bclone_eq _ _ (by
        have := hk.2
        unfold cut9 at this ⊢
        cases hc : (chk9 M.toNat d.length d).1 with
        | nil => simp; omega
        | cons c l =>
          simp
          have := hf.2.2
          have h2 := List.length_take_le M.toNat d
          have : c.length ≤ d.length := by
            revert hc
            cases hd2 : d.length with
            | zero => simp [chk9]
            | succ n =>
              unfold chk9
              split
              · intro hc
                simp only [List.cons.injEq] at hc
                rw [← hc.1]; simp; omega
              · intro hc; cases hc
          omega)
      have hin : inB (0 : Int) (cut9 d M.toNat z).length = true := inT (by omega) (by omega)
      generalize cut9 d M.toNat z = W at hk c1 hin
      simp only [Bool.false_eq_true, if_false]
      unfold bend_D bnext_D bnext_J0
      simp only [Bool.not_false, cond_true, cond_false, bnd_some, dF this, hin]
      rw [show Int.toNat (0 : Int) = 0 from rfl, c1]
      simp [bnd, lawS_J1, btog_D, lives9_big]
  · rw [dF he]
    simp only [Bool.not_false, cond_true, bdone1', bnd_some]
    unfold st9
    rw [if_neg he, zero_answer]
    simp only [bnd_some, zero_next, zero_end, zero_J0]
theorem lawS_true (p : Pl9) (x : Int) (h : 0 ≤ p.2.1) (hx : 0 ≤ x ∧ x < 65536) : lawS_D 80000 p x = some (true, ()) := by
  unfold lawS_D
  by_cases hn : 300 < p.2.2.2.2.1.length
  · rw [dT (show (300 : Int) < (p.2.2.2.2.1.length : Int) by omega)]; rfl
  · rw [dF (show ¬ (300 : Int) < (p.2.2.2.2.1.length : Int) by omega)]
    simp only [cond_false]
    by_cases h8 : Int.tmod x 8 = 0
    · rw [dT h8]
      simp only [cond_true]
      have e1 : Go.IntKind.wrap .i64 ((65400 : Int) + Int.tmod (Go.IntKind.wrap .i64 (Go.IntKind.wrap .u16 (Int.tdiv x (8 : Int)))) (300 : Int)) = 65400 + x / 8 % 300 := by
        rw [Int.tdiv_eq_ediv_of_nonneg hx.1]
        have hw : Go.IntKind.wrap .u16 (x / 8) = x / 8 := by simp [Go.IntKind.wrap, Go.IntKind.bits, Go.IntKind.signed]; omega
        rw [hw, wi64 (x := x / 8) (by omega) (by omega), Int.tmod_eq_emod_of_nonneg (by omega), wi64 (by omega) (by omega)]
      rw [e1, gr1 _ (by omega), dT (show (0 : Int) ≤ 65400 + x / 8 % 300 by omega), gr1 _ (by simp; omega)]
      simp only [cond_true, Bool.and_self]
      exact coreS_true (p.1, p.2.1, p.2.2.1, p.2.2.2.1, [] ++ p.2.2.2.2.1 ++ List.replicate (Int.toNat (65400 + x / 8 % 300)) (0 : Int), p.2.2.2.2.2) h (by simp; omega)
    · rw [dF h8]
      simp only [cond_false]
      exact coreS_true p h (by omega)
end Go.Proofs.Ytmjocalgekfodaa

