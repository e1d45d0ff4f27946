/-
  The statement AudiosKnown: the plain law.
  Conditions: none.
-/
import Derived.Test.YtmjocalgekfodaaC9f
import Derived.Test.YtmjocalgekfodaaKqA
namespace Go.Proofs.Ytmjocalgekfodaa
set_option linter.unusedVariables false
set_option linter.unusedSimpArgs false
set_option maxRecDepth 100000
set_option maxHeartbeats 2000000

theorem wrR32 (x : Int) : 0 ≤ Go.IntKind.wrap .u32 x ∧ Go.IntKind.wrap .u32 x < 4294967296 := by simp [Go.IntKind.wrap, Go.IntKind.bits, Go.IntKind.signed]; omega
theorem wrR16 (x : Int) : 0 ≤ Go.IntKind.wrap .u16 x ∧ Go.IntKind.wrap .u16 x < 65536 := by simp [Go.IntKind.wrap, Go.IntKind.bits, Go.IntKind.signed]; omega
theorem wrR8 (x : Int) : 0 ≤ Go.IntKind.wrap .u8 x ∧ Go.IntKind.wrap .u8 x ≤ 255 := by simp [Go.IntKind.wrap, Go.IntKind.bits, Go.IntKind.signed]; omega
theorem wrRi32 (x : Int) : -2147483648 ≤ Go.IntKind.wrap .i32 x ∧ Go.IntKind.wrap .i32 x ≤ 2147483647 := by simp [Go.IntKind.wrap, Go.IntKind.bits, Go.IntKind.signed]; omega
theorem kn_step (f : Nat) (k n k' n' : Int) (hn : n < 20) (hk : Int.tmod (Go.IntKind.wrap .i64 (Go.IntKind.wrap .i64 (k * (31 : Int)) + (11 : Int))) (100003 : Int) = k') (hn' : Go.IntKind.wrap .i64 (n + (1 : Int)) = n')
    (hF : lawFb_D 70000 (Go.IntKind.wrap .u32 (Go.IntKind.wrap .u32 k * (173 : Int))) [Go.IntKind.wrap .u8 k, Go.IntKind.wrap .u8 (Go.IntKind.wrap .i64 (Int.tdiv k (256 : Int))), Go.IntKind.wrap .u8 n] = some (true, ()))
    (hS : lawSd_D 70000 ((0 : Int), Go.IntKind.wrap .u32 (Int.tmod k (65536 : Int)), ()) [Go.IntKind.wrap .u32 k, Go.IntKind.wrap .u32 (Go.IntKind.wrap .u32 k * (100 : Int)), (16777216 : Int)] = some (true, ())) :
    lawKn_L0 70000 (f + 1) k n = lawKn_L0 70000 f k' n' := by
  rw [lawKn_L0, dT hn, hk, hn']
  unfold lawKn_J0
  rw [lawKeep_all 70000 (by omega) lives42_big _ _ _ (wrR32 _) (wrR16 _) (wrR16 _) (wrR16 _) (wrR16 _) (fun x hx => by
    simp only [List.mem_cons, List.not_mem_nil, or_false] at hx
    rcases hx with rfl | rfl | rfl | rfl | rfl
    · exact wrRi32 _
    · exact wrRi32 _
    · omega
    · omega
    · exact wrRi32 _) (fun x hx => by
    simp only [List.mem_cons, List.not_mem_nil, or_false] at hx
    rcases hx with rfl | rfl | rfl | rfl
    · exact wrR8 _
    · exact wrR8 _
    · omega
    · omega) ⟨by simp, by simp⟩, hF, hS]
  rfl
theorem kn_all (f : Nat) : lawKn_L0 70000 (f + 21) 1 0 = some (.inr ((), ())) :=
  (kn_step (f + 20) 1 0 42 1 (by decide) (by kernel_rfl) (by kernel_rfl) (by kernel_rfl) (by kernel_rfl)).trans <|
  (kn_step (f + 19) 42 1 1313 2 (by decide) (by kernel_rfl) (by kernel_rfl) (by kernel_rfl) (by kernel_rfl)).trans <|
  (kn_step (f + 18) 1313 2 40714 3 (by decide) (by kernel_rfl) (by kernel_rfl) (by kernel_rfl) (by kernel_rfl)).trans <|
  (kn_step (f + 17) 40714 3 62109 4 (by decide) (by kernel_rfl) (by kernel_rfl) (by kernel_rfl) (by kernel_rfl)).trans <|
  (kn_step (f + 16) 62109 4 25333 5 (by decide) (by kernel_rfl) (by kernel_rfl) (by kernel_rfl) (by kernel_rfl)).trans <|
  (kn_step (f + 15) 25333 5 85313 6 (by decide) (by kernel_rfl) (by kernel_rfl) (by kernel_rfl) (by kernel_rfl)).trans <|
  (kn_step (f + 14) 85313 6 44636 7 (by decide) (by kernel_rfl) (by kernel_rfl) (by kernel_rfl) (by kernel_rfl)).trans <|
  (kn_step (f + 13) 44636 7 83688 8 (by decide) (by kernel_rfl) (by kernel_rfl) (by kernel_rfl) (by kernel_rfl)).trans <|
  (kn_step (f + 12) 83688 8 94264 9 (by decide) (by kernel_rfl) (by kernel_rfl) (by kernel_rfl) (by kernel_rfl)).trans <|
  (kn_step (f + 11) 94264 9 22108 10 (by decide) (by kernel_rfl) (by kernel_rfl) (by kernel_rfl) (by kernel_rfl)).trans <|
  (kn_step (f + 10) 22108 10 85341 11 (by decide) (by kernel_rfl) (by kernel_rfl) (by kernel_rfl) (by kernel_rfl)).trans <|
  (kn_step (f + 9) 85341 11 45504 12 (by decide) (by kernel_rfl) (by kernel_rfl) (by kernel_rfl) (by kernel_rfl)).trans <|
  (kn_step (f + 8) 45504 12 10593 13 (by decide) (by kernel_rfl) (by kernel_rfl) (by kernel_rfl) (by kernel_rfl)).trans <|
  (kn_step (f + 7) 10593 13 28385 14 (by decide) (by kernel_rfl) (by kernel_rfl) (by kernel_rfl) (by kernel_rfl)).trans <|
  (kn_step (f + 6) 28385 14 79922 15 (by decide) (by kernel_rfl) (by kernel_rfl) (by kernel_rfl) (by kernel_rfl)).trans <|
  (kn_step (f + 5) 79922 15 77521 16 (by decide) (by kernel_rfl) (by kernel_rfl) (by kernel_rfl) (by kernel_rfl)).trans <|
  (kn_step (f + 4) 77521 16 3090 17 (by decide) (by kernel_rfl) (by kernel_rfl) (by kernel_rfl) (by kernel_rfl)).trans <|
  (kn_step (f + 3) 3090 17 95801 18 (by decide) (by kernel_rfl) (by kernel_rfl) (by kernel_rfl) (by kernel_rfl)).trans <|
  (kn_step (f + 2) 95801 18 69755 19 (by decide) (by kernel_rfl) (by kernel_rfl) (by kernel_rfl) (by kernel_rfl)).trans <|
  (kn_step (f + 1) 69755 19 62353 20 (by decide) (by kernel_rfl) (by kernel_rfl) (by kernel_rfl) (by kernel_rfl)).trans <|
  (by rw [lawKn_L0]; rfl)
theorem kn_long (m : Nat) (l : SimT) (hl : l.length = 65537) : sim_D m ((0 : Int), (1 : Int), (0 : Int), (0 : Int), ()) (0 : Int) l = some ((([], [], 0, 0, ()), 1, ()), ()) := by
  unfold sim_D sim_J0
  rw [aRight_eq m 0 1 0 0 (by omega), dF (show ¬ (16777216 : Int) < 0 by omega), dT (show (65536 : Int) < (l.length : Int) by omega)]
  rfl
theorem kn_fit (m : Nat) (l : SimT) (hl : l.length = 65536) (hm : 65536 < m) (hz : ∀ t ∈ l, t = ((0 : Int), false, false, ())) : ∃ q, sim_D m ((0 : Int), (1 : Int), (0 : Int), (0 : Int), ()) (0 : Int) l = some ((q, 0, ()), ()) :=
  ⟨_, sim_eq m l 0 0 1 0 0 (by omega) (by omega) (by omega) (fun t ht => by
    rw [hz t ht]
    exact ⟨Int.le_refl 0, by omega⟩) (by simp only [kOk]; omega)⟩
theorem kn_j1 : lawKn_J1 (R := Bool × Unit) 70000 1 0 (fun d => some (d, ())) = some (true, ()) := by
  unfold lawKn_J1
  rw [lawRun_true (9, 9, 0, 0, ()) 16777216 [((16777216 : Int), false, false, ()), ((0 : Int), true, false, ()), ((65536 : Int), false, true, ()), ((0 : Int), false, false, ())] (by decide) (by decide) (fun t ht => by
    simp only [List.mem_cons, List.not_mem_nil, or_false] at ht
    rcases ht with rfl | rfl | rfl | rfl <;> decide), lives42_big]
  rfl
theorem kn_tail (l1 l2 : SimT) (h1 : l1.length = 65537) (h2 : l2.length = 65536) (hz : ∀ t ∈ l2, t = ((0 : Int), false, false, ())) :
    (bnd (sim_D 70000 ((0 : Int), (1 : Int), (0 : Int), (0 : Int), ()) (0 : Int) l1) fun y320 => (bnd (sim_D 70000 ((0 : Int), (1 : Int), (0 : Int), (0 : Int), ()) (0 : Int) l2) fun y328 => (lawKn_J1 70000 (y320.fst.snd.fst) (y328.fst.snd.fst) (fun d379 => some ((d379, ())))))) = some (true, ()) := by
  obtain ⟨q, hq⟩ := kn_fit 70000 l2 h2 (by omega) hz
  rw [kn_long 70000 l1 h1, hq]
  exact kn_j1
theorem kn_e0 : lawKn_L0 70000 70000 1 0 = some (.inr ((), ())) := by
  have h := kn_all 69979
  have e : (69979 + 21 : Nat) = 70000 := by omega
  rw [e] at h
  exact h
theorem kn_of (l1 l2 : SimT) (e1 : List.replicate (Int.toNat (65537 : Int)) ((0 : Int), false, false, ()) = l1) (e2 : List.replicate (Int.toNat (65536 : Int)) ((0 : Int), false, false, ()) = l2) (h1 : l1.length = 65537) (h2 : l2.length = 65536) (hz : ∀ t ∈ l2, t = ((0 : Int), false, false, ())) : lawKn_D 70000 = some (true, ()) := by
  unfold lawKn_D
  rw [e1, e2, kn_e0]
  exact kn_tail l1 l2 h1 h2 hz
theorem kn_len (a : Int) (n : Nat) (h : a = (n : Int)) : (List.replicate (Int.toNat a) ((0 : Int), false, false, ())).length = n := by
  rw [List.length_replicate, h, Int.toNat_natCast]
theorem lawKn_true : lawKn_D 70000 = some (true, ()) :=
  kn_of _ _ rfl rfl (kn_len _ _ rfl) (kn_len _ _ rfl) (fun _ ht => List.eq_of_mem_replicate ht)
end Go.Proofs.Ytmjocalgekfodaa

