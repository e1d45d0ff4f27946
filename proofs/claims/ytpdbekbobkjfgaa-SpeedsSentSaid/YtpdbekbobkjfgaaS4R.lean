/-
  The statement SpeedsSent: the law's plain function is true.
  Conditions: none.
-/
import Derived.Test.YtpdbekbobkjfgaaS4Q
namespace Go.Proofs.Ytpdbekbobkjfgaa
set_option linter.unusedVariables false
set_option linter.unusedSimpArgs false
set_option maxRecDepth 100000
set_option maxHeartbeats 2000000

abbrev PT : Type := Int × Int × Int × Int × Int × List Int × Unit
theorem pkt6 (m : Nat) (A B C E : Int) (D : List Int) : pkt_D m (6, A, B, C, E, D, ()) = some ((9, Int.tmod A 128, Int.tmod B 16, 0, 0, 0, false, false, 0, [], ()), ()) := by kernel_rfl
theorem pkt2X (m : Nat) (A B C E : Int) (D : List Int) : ∃ X, pkt_D m (2, A, B, C, E, D, ()) = (bif decide ((1024 : Int) < (↑(List.length D) : Int)) then X else (bif decide ((0 : Int) ≤ (↑(List.length D) : Int)) && decide (Int.toNat (↑(List.length D) : Int) ≤ List.length D) then (bif growOb (1 : Nat) ((0 : Nat) + List.length (List.take (Int.toNat (↑(List.length D) : Int)) D)) then some ((3, 0, 0, 0, 0, 0, false, false, 0, [] ++ List.take (Int.toNat (↑(List.length D) : Int)) D, ()), ()) else none) else none)) := ⟨bif decide ((0 : Int) ≤ (1024 : Int)) && decide (Int.toNat (1024 : Int) ≤ List.length D) then (bif growOb (1 : Nat) ((0 : Nat) + List.length (List.take (Int.toNat (1024 : Int)) D)) then some ((3, 0, 0, 0, 0, 0, false, false, 0, [] ++ List.take (Int.toNat (1024 : Int)) D, ()), ()) else none) else none, by kernel_rfl⟩
theorem pkt2 (m : Nat) (A B C E : Int) (D : List Int) (hD : D.length ≤ 200) : pkt_D m (2, A, B, C, E, D, ()) = some ((3, 0, 0, 0, 0, 0, false, false, 0, D, ()), ()) := by
  obtain ⟨X, h⟩ := pkt2X m A B C E D
  rw [h, dF (by omega), cond_false, dT (show (0 : Int) ≤ (D.length : Int) by omega), Int.toNat_natCast, dT (Nat.le_refl _), Bool.and_self, cond_true, List.take_length, gr1 _ (by omega), cond_true, List.nil_append]
theorem spSt (m f : Nat) (k s : Int) (i n : Nat) (P : PT) (l : List Pkt) (hi : i < l.length) (hl : l.length ≤ 100) (hn1 : 1 ≤ n) (hn2 : n ≤ 1027) (hm : 60000 ≤ m) (h0 : 0 ≤ s) (h1 : s ≤ 100000)
    (hx : ∃ ys, encode_D m (List.getD l i ((0 : Int), (0 : Int), (0 : Int), (0 : Int), (0 : Int), (0 : Int), false, false, (0 : Int), [], ())) = some ((ys, 0, ()), ()) ∧ ys.length = n) :
    ∃ z : Nat, z ≤ wst n + 8 ∧ spSent_L0 m (f + 1) k s (i : Int) P l = spSent_L0 m f k (s + (z : Int)) ((i + 1 : Nat) : Int) P l := by
  obtain ⟨zs, s1, s2⟩ := pkSend_len m _ n hn1 hn2 hm hx
  have w := wst_le n (by omega)
  refine ⟨zs.length + 8, by omega, ?_⟩
  rw [spSent_L0, dT (by omega), cond_true, inT (by omega) (by omega), cond_true, Int.toNat_natCast, dT hi, cond_true, s1, bnd_some]
  simp only [decide_true, Bool.not_true, cond_false]
  rw [wi64 (x := (zs.length : Int) + 8) (by omega) (by omega), wi64 (x := s + ((zs.length : Int) + 8)) (by omega) (by omega), wi64 (x := (i : Int) + 1) (by omega) (by omega), show ((i : Int) + 1) = ((i + 1 : Nat) : Int) by omega, show ((zs.length : Int) + 8) = ((zs.length + 8 : Nat) : Int) by omega]
theorem spEn (m f : Nat) (k s : Int) (P : PT) (l : List Pkt) : spSent_L0 m (f + 1) k s (l.length : Int) P l = some (Sum.inr ((k, (s, ())), (P, ()))) := by
  rw [spSent_L0, dF (by omega), cond_false]
theorem spTwo (m q : Nat) (hm : 60000 ≤ m) (k a e : Int) (ha0 : 0 ≤ a) (ha : a ≤ 127) (he0 : 0 ≤ e) (he : e ≤ 15) (d : List Int) (hd : d.length ≤ 200) (P : PT) :
    ∃ z : Nat, z ≤ wst 3 + 8 + (wst (d.length + 3) + 8) ∧ spSent_L0 m (q + 3) k 0 0 P [(9, a, e, 0, 0, 0, false, false, 0, [], ()), (3, 0, 0, 0, 0, 0, false, false, 0, d, ())] = some (Sum.inr ((k, ((z : Int), ())), (P, ()))) := by
  have w := wst_le (d.length + 3) (by omega)
  have w3 := wst_le 3 (by omega)
  obtain ⟨z1, h1, e1⟩ := spSt m (q + 2) k 0 0 3 P [(9, a, e, 0, 0, 0, false, false, 0, [], ()), (3, 0, 0, 0, 0, 0, false, false, 0, d, ())] (by simp) (by simp) (by omega) (by omega) hm (by omega) (by omega) (encIn m a e ha0 ha he0 he (by omega))
  obtain ⟨z2, h2, e2⟩ := spSt m (q + 1) k (0 + (z1 : Int)) 1 (d.length + 3) P [(9, a, e, 0, 0, 0, false, false, 0, [], ()), (3, 0, 0, 0, 0, 0, false, false, 0, d, ())] (by simp) (by simp) (by omega) (by omega) hm (by omega) (by omega) (encData m d hd (by omega))
  have e3 := spEn m q k (0 + (z1 : Int) + (z2 : Int)) P [(9, a, e, 0, 0, 0, false, false, 0, [], ()), (3, 0, 0, 0, 0, 0, false, false, 0, d, ())]
  refine ⟨z1 + z2, by omega, ?_⟩
  have h := (e1.trans e2).trans e3
  rw [show (0 + (z1 : Int) + (z2 : Int)) = ((z1 + z2 : Nat) : Int) by omega] at h
  exact h
theorem spThree (m q : Nat) (hm : 60000 ≤ m) (k a e : Int) (ha0 : 0 ≤ a) (ha : a ≤ 127) (he0 : 0 ≤ e) (he : e ≤ 15) (d : List Int) (hd : d.length ≤ 200) (P : PT) :
    ∃ z : Nat, z ≤ wst 3 + 8 + (wst (d.length + 3) + 8) + (wst 1 + 8) ∧ spSent_L0 m (q + 4) k 0 0 P [(9, a, e, 0, 0, 0, false, false, 0, [], ()), (3, 0, 0, 0, 0, 0, false, false, 0, d, ()), (2, 0, 0, 0, 0, 0, false, false, 0, [], ())] = some (Sum.inr ((k, ((z : Int), ())), (P, ()))) := by
  have w := wst_le (d.length + 3) (by omega)
  have w3 := wst_le 3 (by omega)
  have w1 := wst_le 1 (by omega)
  obtain ⟨z1, h1, e1⟩ := spSt m (q + 3) k 0 0 3 P [(9, a, e, 0, 0, 0, false, false, 0, [], ()), (3, 0, 0, 0, 0, 0, false, false, 0, d, ()), (2, 0, 0, 0, 0, 0, false, false, 0, [], ())] (by simp) (by simp) (by omega) (by omega) hm (by omega) (by omega) (encIn m a e ha0 ha he0 he (by omega))
  obtain ⟨z2, h2, e2⟩ := spSt m (q + 2) k (0 + (z1 : Int)) 1 (d.length + 3) P [(9, a, e, 0, 0, 0, false, false, 0, [], ()), (3, 0, 0, 0, 0, 0, false, false, 0, d, ()), (2, 0, 0, 0, 0, 0, false, false, 0, [], ())] (by simp) (by simp) (by omega) (by omega) hm (by omega) (by omega) (encData m d hd (by omega))
  obtain ⟨z3, h3, e3⟩ := spSt m (q + 1) k (0 + (z1 : Int) + (z2 : Int)) 2 1 P [(9, a, e, 0, 0, 0, false, false, 0, [], ()), (3, 0, 0, 0, 0, 0, false, false, 0, d, ()), (2, 0, 0, 0, 0, 0, false, false, 0, [], ())] (by simp) (by simp) (by omega) (by omega) hm (by omega) (by omega) (encAck m)
  have e4 := spEn m q k (0 + (z1 : Int) + (z2 : Int) + (z3 : Int)) P [(9, a, e, 0, 0, 0, false, false, 0, [], ()), (3, 0, 0, 0, 0, 0, false, false, 0, d, ()), (2, 0, 0, 0, 0, 0, false, false, 0, [], ())]
  refine ⟨z1 + z2 + z3, by omega, ?_⟩
  have h := ((e1.trans e2).trans e3).trans e4
  rw [show (0 + (z1 : Int) + (z2 : Int) + (z3 : Int)) = ((z1 + z2 + z3 : Nat) : Int) by omega] at h
  exact h
theorem spSent_true (m : Nat) (hm : 60000 ≤ m) (k0 A B C E : Int) (D0 : List Int) (k1 A1 B1 C1 E1 : Int) (d : List Int) (b : Bool) (hA : 0 ≤ A) (hB : 0 ≤ B) :
    spSent_D m (k0, A, B, C, E, D0, ()) (k1, A1, B1, C1, E1, d, ()) b = some (true, ()) := by
  unfold spSent_D
  simp only
  by_cases hd : d.length ≤ 200
  case neg => rw [dT (by omega), cond_true]
  rw [dF (by omega), cond_false, pkt6, bnd_some, pkt2 m A1 B1 C1 E1 d hd, bnd_some]
  have a0 : 0 ≤ Int.tmod A 128 := by rw [Int.tmod_eq_emod_of_nonneg hA]; omega
  have a1 : Int.tmod A 128 ≤ 127 := by rw [Int.tmod_eq_emod_of_nonneg hA]; omega
  have b0 : 0 ≤ Int.tmod B 16 := by rw [Int.tmod_eq_emod_of_nonneg hB]; omega
  have b1 : Int.tmod B 16 ≤ 15 := by rw [Int.tmod_eq_emod_of_nonneg hB]; omega
  obtain ⟨q, rfl⟩ : ∃ q, m = q + 4 := ⟨m - 4, by omega⟩
  have lv : lives4_D (q + 4) = some (true, ()) := rfl
  have w := wst_le (d.length + 3) (by omega)
  cases b
  · obtain ⟨z, h1, h2⟩ := spThree (q + 4) q hm 2 (Int.tmod A 128) (Int.tmod B 16) a0 a1 b0 b1 d hd (2, A1, B1, C1, E1, d, ())
    have hc := spCost_eq (q + 4) d.length hd hm 2 (.inr rfl)
    simp only [Bool.not_false, cond_true, List.cons_append, List.nil_append]
    rw [h2, bnd_some]
    simp only [sumK]
    rw [hc, bnd_some]
    unfold spSent_J0
    simp only [decide_true, cond_true]
    rw [dT (by simp only [show ((2 : Int) = 1) = False by decide, if_false]; omega), cond_true, lv, bnd_some]
  · obtain ⟨z, h1, h2⟩ := spTwo (q + 4) (q + 1) hm 1 (Int.tmod A 128) (Int.tmod B 16) a0 a1 b0 b1 d hd (2, A1, B1, C1, E1, d, ())
    have hc := spCost_eq (q + 4) d.length hd hm 1 (.inl rfl)
    simp only [Bool.not_true, cond_false]
    rw [h2, bnd_some]
    simp only [sumK]
    rw [hc, bnd_some]
    unfold spSent_J0
    simp only [decide_true, cond_true]
    rw [dT (by simp only [if_true]; omega), cond_true, lv, bnd_some]
end Go.Proofs.Ytpdbekbobkjfgaa
