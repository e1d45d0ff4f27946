/-
  The statement FramesNumbers: the law's plain function is true.
  Conditions: none.
-/
import Derived.Test.YtdigcibkfnolnaaDoorE11m
import Derived.Test.YtdigcibkfnolnaaDoorKF
import Derived.Lib.EndianBits
namespace Go.Proofs.YtdigcibkfnolnaaDoor
set_option linter.unusedVariables false
set_option linter.unusedSimpArgs false
set_option maxRecDepth 100000
set_option maxHeartbeats 4000000

theorem pw11 : (2 : Int) ^ Min.min (Int.toNat (11 : Int)) (Go.IntKind.bits Go.IntKind.u32) = 2048 := by decide
theorem pw0 : (2 : Int) ^ Min.min (Int.toNat (0 : Int)) (Go.IntKind.bits Go.IntKind.u32) = 1 := by decide
theorem mk11 : Go.IntKind.wrap .u32 (Go.IntKind.wrap .u32 ((1 : Int) * (2048 : Int)) - (1 : Int)) = 2047 := by decide
theorem wi64' {x : Int} (h0 : -9223372036854775808 ≤ x) (h1 : x < 9223372036854775808) : Go.IntKind.wrap .i64 x = x := by simp [Go.IntKind.wrap, Go.IntKind.bits, Go.IntKind.signed]; omega
theorem w16' {x : Int} (h0 : 0 ≤ x) (h1 : x < 65536) : Go.IntKind.wrap .u16 x = x := wraps_u16 x h0 (by omega)
theorem w32' {x : Int} (h0 : 0 ≤ x) (h1 : x < 4294967296) : Go.IntKind.wrap .u32 x = x := wraps_u32 x h0 (by omega)
theorem or0 {x : Int} (h0 : 0 ≤ x) (h1 : x < 4294967296) : Go.bits Go.BinOp.or Go.IntKind.u32 (0 : Int) x = x := by
  have := bits_join_low .u32 32 (by decide) wraps_u32 0 0 x (by omega) (by omega) (by omega) h0 (by omega) (by omega)
  rw [this]; omega
theorem and2047' : ∀ f : Fin 2048, Go.bits Go.BinOp.and Go.IntKind.u32 ((f.val : Nat) : Int) 2047 = ((f.val : Nat) : Int) := by decide +kernel

def sofP (k : Int) : Pkt := ((5 : Int), (0 : Int), (0 : Int), k, (0 : Int), (0 : Int), false, false, (0 : Int), [], ())
theorem chk_sof (m k : Nat) (hk : k < 2048) : pkChk_D m (sofP (k : Int)) = some (0, ()) := by
  have hs : shape11_D m 5 = some (3, ()) := rfl
  have e0 := and2047' ⟨k, hk⟩
  have e3 : Int.fdiv (Go.IntKind.wrap .u32 (k : Int)) 2048 = 0 := by rw [w32' (by omega) (by omega), Int.fdiv_eq_ediv_of_nonneg _ (by omega)]; omega
  have e1 : Go.IntKind.wrap .u16 (Go.bits Go.BinOp.and Go.IntKind.u32 (Go.bits Go.BinOp.or Go.IntKind.u32 (0 : Int) (Go.IntKind.wrap .u32 (Go.IntKind.wrap .u32 (k : Int) * 1))) 2047) = (k : Int) := by
    rw [w32' (x := (k : Int)) (by omega) (by omega), Int.mul_one, w32' (by omega) (by omega), or0 (by omega) (by omega)]
    simp only at e0
    rw [e0, w16' (by omega) (by omega)]
  unfold pkChk_D sofP
  simp only [hs, bnd_some, same11_D, same11_J0, show decide ((3 : Int) = 2) = false from rfl, show decide ((3 : Int) = 5) = false from rfl, show decide ((3 : Int) = 0) = false from rfl, show decide ((3 : Int) = 3) = true from rfl, show decide ((3 : Int) = 4) = false from rfl, cond_true, cond_false, pw11, pw0, mk11, e3, e1, decide_true, Bool.not_true, Bool.and_self, Bool.and_true]
  rfl
theorem spk_sof (m k : Nat) (hk : k < 2048) : ∃ p b, spk0_D m (sofP (k : Int)) = some ((p, b, [((5 : Int), (0 : Int), (0 : Int), (k : Int), (0 : Int), (0 : Int), false, false, (0 : Int), [], true, (0 : Int), ())], ()), ()) := by
  refine ⟨((0 : Int), (0 : Int), (0 : Int), (0 : Int), (0 : Int), (0 : Int), false, false, (0 : Int), [], ()), false, ?_⟩
  unfold spk0_D
  rw [chk_sof m k hk, bnd_some]
  rfl
abbrev Snt : Type := Int × Int × Int × Int × Int × Int × Bool × Bool × Int × List Int × Bool × Int × Unit
def sofS (k : Int) : Snt := ((5 : Int), (0 : Int), (0 : Int), k, (0 : Int), (0 : Int), false, false, (0 : Int), [], true, (0 : Int), ())
def stp (s : Int) : Nat := if s = 2 then 1 else 8
theorem rowEq_self' (e : Sh) (xs : List e.T) : rowEq e xs xs = true := rowEq_self e xs
theorem frm0_step (m t : Nat) (s : Int) (tr : List Snt) (ht : t < 1048576) : ∃ r, frm0_D m true s (t : Int) tr = some (r, (true, s, ((t + stp s : Nat) : Int), [sofS ((t / 8 % 2048 : Nat) : Int)], ()), ()) := by
  obtain ⟨p, b, h1⟩ := spk_sof m (t / 8 % 2048) (by omega)
  have e1 : Go.IntKind.wrap .u16 (Int.tmod (Go.IntKind.wrap .i64 (Int.tdiv (t : Int) (8 : Int))) (2048 : Int)) = ((t / 8 % 2048 : Nat) : Int) := by
    rw [Int.tdiv_eq_ediv_of_nonneg (by omega), wi64' (by omega) (by omega), Int.tmod_eq_emod_of_nonneg (by omega), w16' (by omega) (by omega)]
    omega
  refine ⟨(List.replicate (Int.toNat (0 : Int)) ((0 : Int), [], ()), (0 : Int), ()), ?_⟩
  unfold frm0_D frm0_J0 frm0_J1 frm0_J2
  simp only [Bool.not_true, cond_false, dF (show ¬ (1048576 : Int) ≤ (t : Int) by omega), e1, boolEq_self, rowEq_self', decide_true, cond_true]
  unfold sofP at h1
  by_cases hs : s = 2
  · rw [dT hs, cond_true, h1, bnd_some, cond_true, wi64' (by omega) (by omega)]
    simp only [stp, if_pos hs, sofS, Int.natCast_add]
    rfl
  · rw [dF hs, cond_false, h1, bnd_some, cond_false, wi64' (by omega) (by omega)]
    simp only [stp, if_neg hs, sofS, Int.natCast_add]
    cases decide (s = 1) <;> cases decide (s = 0) <;> rfl
theorem frm0_stop (m : Nat) (s t : Int) (tr : List Snt) (ht : 1048576 ≤ t) : ∃ r, frm0_D m true s t tr = some (r, (true, s, t, tr, ()), ()) := by
  refine ⟨([], (0 : Int), ()), ?_⟩
  unfold frm0_D frm0_J0
  simp only [Bool.not_true, cond_false, dT ht, cond_true]
def tcks (s : Int) (i : Nat) : Nat := min (i * stp s) 1048576
def trcs (s : Int) (i : Nat) : List Snt := if i = 0 then [] else [sofS ((((tcks s i) - 1) / 8 % 2048 : Nat) : Int)]
theorem frm0_at (m i : Nat) (s : Int) (hs : s = 1 ∨ s = 2) : ∃ r, frm0_D m true s ((tcks s i : Nat) : Int) (trcs s i) = some (r, (true, s, ((tcks s (i + 1) : Nat) : Int), trcs s (i + 1), ()), ()) := by
  have hst : stp s = 8 ∨ stp s = 1 := by rcases hs with rfl | rfl <;> simp [stp]
  have hmul : (i + 1) * stp s = i * stp s + stp s := by rw [Nat.add_mul, Nat.one_mul]
  by_cases h : tcks s i < 1048576
  · obtain ⟨r, hr⟩ := frm0_step m (tcks s i) s (trcs s i) h
    have e1 : tcks s i + stp s = tcks s (i + 1) := by
      unfold tcks at h ⊢
      rw [hmul]
      rcases hst with e | e <;> rw [e] at h ⊢ <;> omega
    have e2 : tcks s i / 8 = (tcks s (i + 1) - 1) / 8 := by
      unfold tcks at h ⊢
      rw [hmul]
      rcases hst with e | e <;> rw [e] at h ⊢ <;> omega
    refine ⟨r, ?_⟩
    rw [hr, e1, e2]
    simp [trcs]
  · have e1 : tcks s i = 1048576 := by unfold tcks at h ⊢; omega
    have e2 : tcks s (i + 1) = 1048576 := by
      unfold tcks at h ⊢; rw [hmul]; omega
    have e3 : i ≠ 0 := by
      rintro rfl
      unfold tcks at h; simp at h
    obtain ⟨r, hr⟩ := frm0_stop m s ((tcks s i : Nat) : Int) (trcs s i) (by rw [e1]; decide)
    refine ⟨r, ?_⟩
    rw [hr, e1, e2]
    simp [trcs, e3, e1, e2]
theorem numL_L0_eq (m : Nat) (x : Bool) (n : Nat) (hn : n ≤ 200000) (s : Int) (hs : s = 1 ∨ s = 2) : ∀ (f i : Nat), i ≤ n → n - i < f → numL_L0 m f x (n : Int) (i : Int) true s ((tcks s i : Nat) : Int) (trcs s i) = some ((x, ((1 : Int), ((n : Int), ()))), ((true, (s, (((tcks s n : Nat) : Int), (trcs s n, ())))), ())) := by
  intro f
  induction f with
  | zero => intro i _ h; omega
  | succ f ih =>
    intro i hi hf
    rw [numL_L0]
    by_cases hlt : i < n
    · obtain ⟨r, hr⟩ := frm0_at m i s hs
      rw [dT (show (i : Int) < (n : Int) by omega), cond_true, hr, bnd_some, wi64' (by omega) (by omega), show ((i : Int) + 1) = ((i + 1 : Nat) : Int) by omega]
      exact ih (i + 1) (by omega) (by omega)
    · have : i = n := by omega
      subst this
      rw [dF (show ¬ (i : Int) < (i : Int) by omega), cond_false]
theorem numL_L1_eq (m : Nat) (x : Bool) (n : Nat) (hn : n ≤ 200000) (s : Int) (hs : s = 1 ∨ s = 2) : ∀ (f i : Nat), i ≤ n → n - i < f → numL_L1 m f x (n : Int) (i : Int) true s ((tcks s i : Nat) : Int) (trcs s i) = some ((x, ((8 : Int), ((n : Int), ()))), ((true, (s, (((tcks s n : Nat) : Int), (trcs s n, ())))), ())) := by
  intro f
  induction f with
  | zero => intro i _ h; omega
  | succ f ih =>
    intro i hi hf
    rw [numL_L1]
    by_cases hlt : i < n
    · obtain ⟨r, hr⟩ := frm0_at m i s hs
      rw [dT (show (i : Int) < (n : Int) by omega), cond_true, hr, bnd_some, wi64' (by omega) (by omega), show ((i : Int) + 1) = ((i + 1 : Nat) : Int) by omega]
      exact ih (i + 1) (by omega) (by omega)
    · have : i = n := by omega
      subst this
      rw [dF (show ¬ (i : Int) < (i : Int) by omega), cond_false]
theorem trc_nil (m : Nat) (s t : Int) : trc_D (m + 1) true s t [] = some ([], (true, s, t, [], ()), ()) := by rfl
theorem trc_one (m : Nat) (s t k : Int) : trc_D (m + 2) true s t [sofS k] = some ([sofS k], (true, s, t, [sofS k], ()), ()) := by rfl
theorem num_k (t : Nat) (h1 : 1 ≤ t) (h2 : t ≤ 1048576) : Go.IntKind.wrap .u16 (Int.tmod (Go.IntKind.wrap .i64 (Int.tdiv (Go.IntKind.wrap .i64 ((t : Int) - (1 : Int))) (8 : Int))) (2048 : Int)) = (((t - 1) / 8 % 2048 : Nat) : Int) := by
  have a1 : Go.IntKind.wrap .i64 (((t - 1 : Nat) : Int)) = ((t - 1 : Nat) : Int) := wi64' (by omega) (by omega)
  rw [show ((t : Int) - 1) = ((t - 1 : Nat) : Int) by omega, a1, Int.tdiv_eq_ediv_of_nonneg (by omega), wi64' (by omega) (by omega), Int.tmod_eq_emod_of_nonneg (by omega), w16' (by omega) (by omega)]
  omega
theorem lv11 (m : Nat) : lives11_D m = some (true, ()) := rfl
theorem num_end (m n : Nat) (s : Int) (hs : s = 1 ∨ s = 2) (hm : 2 ≤ m) :
    (numL_J2 m (n : Int) ((tcks s n : Nat) : Int) true s ((tcks s n : Nat) : Int) (trcs s n) (fun d210 => (bif d210 then some ((false, ())) else (bif decide ((n : Int) = (0 : Int)) then (numL_J3 m true s ((tcks s n : Nat) : Int) (trcs s n) (fun d292 => some ((d292, ())))) else (bnd (trc_D m true s ((tcks s n : Nat) : Int) (trcs s n)) fun y299 => (numL_J4 m (Go.IntKind.wrap .u16 (Int.tmod (Go.IntKind.wrap .i64 (Int.tdiv (Go.IntKind.wrap .i64 (((tcks s n : Nat) : Int) - (1 : Int))) (8 : Int))) (2048 : Int))) (y299.fst) (y299.snd.fst.fst) (y299.snd.fst.snd.fst) (y299.snd.fst.snd.snd.fst) (y299.snd.fst.snd.snd.snd.fst) (fun d560 => some ((d560, ()))))))))) = some (true, ()) := by
  obtain ⟨m, rfl⟩ : ∃ k, m = k + 2 := ⟨m - 2, by omega⟩
  have hst : stp s = 8 ∨ stp s = 1 := by rcases hs with rfl | rfl <;> simp [stp]
  unfold numL_J2
  simp only [Bool.not_true, cond_false, decide_true]
  by_cases h0 : n = 0
  · subst h0
    have e1 : tcks s 0 = 0 := by simp [tcks]
    have e2 : trcs s 0 = [] := by simp [trcs]
    rw [e1, e2]
    unfold numL_J3
    simp only [trc_nil (m + 1), lv11, bnd_some, Bool.not_true, cond_false, cond_true, decide_true, List.length_nil, Int.natCast_zero]
  · have e2 : trcs s n = [sofS ((((tcks s n) - 1) / 8 % 2048 : Nat) : Int)] := by simp [trcs, h0]
    have h1 : 1 ≤ tcks s n := by
      have : 1 ≤ n * stp s := by rcases hst with e | e <;> rw [e] <;> omega
      unfold tcks; omega
    have h2 : tcks s n ≤ 1048576 := by unfold tcks; omega
    rw [dF (show ¬ (n : Int) = 0 by omega), cond_false, e2, trc_one, bnd_some, num_k _ h1 h2]
    unfold numL_J4
    simp only [Bool.not_true, cond_false, dF (show ¬ ((tcks s n : Nat) : Int) = 0 by omega), num_k _ h1 h2, decide_true, cond_true, lv11, bnd_some]
    generalize (tcks s n - 1) / 8 % 2048 = K
    simp [sofS, inB]
theorem numL_true (m : Nat) (hm : 132010 ≤ m) (x : Bool) (k : Nat) (hk : k < 4294967296) : numL_D m x (k : Int) = some (true, ()) := by
  unfold numL_D
  cases x with
  | true =>
    have e1 : Go.IntKind.wrap .i64 (Int.tmod (k : Int) (20001 : Int)) = ((k % 20001 : Nat) : Int) := by
      rw [Int.tmod_eq_emod_of_nonneg (by omega), wi64' (by omega) (by omega)]; rfl
    generalize hn : k % 20001 = n at e1
    have hn1 : n < 20001 := by omega
    have hL := numL_L0_eq m true n (by omega) 2 (.inr rfl) m 0 (by omega) (by omega)
    have t0 : tcks 2 0 = 0 := by simp [tcks]
    have r0 : trcs 2 0 = [] := by simp [trcs]
    rw [t0, r0, show ((0 : Nat) : Int) = (0 : Int) from rfl] at hL
    have et : tcks 2 n = n := by simp [tcks, stp]; omega
    have ew : Go.IntKind.wrap .i64 ((n : Int) * (1 : Int)) = ((tcks 2 n : Nat) : Int) := by rw [et, Int.mul_one, wi64' (by omega) (by omega)]
    have he := num_end m n 2 (.inr rfl) (by omega)
    unfold numL_J0 numL_J1
    simp only [cond_true, Bool.not_true, cond_false, e1, hL, bnd_some, ew]
    exact he
  | false =>
    have e1 : Go.IntKind.wrap .i64 (Int.tmod (k : Int) (132001 : Int)) = ((k % 132001 : Nat) : Int) := by
      rw [Int.tmod_eq_emod_of_nonneg (by omega), wi64' (by omega) (by omega)]; rfl
    generalize hn : k % 132001 = n at e1
    have hn1 : n < 132001 := by omega
    have hL := numL_L1_eq m false n (by omega) 1 (.inl rfl) m 0 (by omega) (by omega)
    have t0 : tcks 1 0 = 0 := by simp [tcks]
    have r0 : trcs 1 0 = [] := by simp [trcs]
    rw [t0, r0, show ((0 : Nat) : Int) = (0 : Int) from rfl] at hL
    have he := num_end m n 1 (.inl rfl) (by omega)
    unfold numL_J5 numL_J1
    simp only [cond_false, Bool.not_false, cond_true, e1, hL, bnd_some]
    by_cases hb : 131072 < n
    · have et : tcks 1 n = 1048576 := by simp [tcks, stp]; omega
      have ew : Go.IntKind.wrap .i64 ((131072 : Int) * (8 : Int)) = ((tcks 1 n : Nat) : Int) := by rw [et]; decide
      rw [dT (show (131072 : Int) < (n : Int) by omega), cond_true, ew]
      exact he
    · have et : tcks 1 n = n * 8 := by simp [tcks, stp]; omega
      have ew : Go.IntKind.wrap .i64 ((n : Int) * (8 : Int)) = ((tcks 1 n : Nat) : Int) := by rw [et, wi64' (by omega) (by omega)]; omega
      rw [dF (show ¬ (131072 : Int) < (n : Int) by omega), cond_false, ew]
      exact he
end Go.Proofs.YtdigcibkfnolnaaDoor

