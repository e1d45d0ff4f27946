/-
  The statement PacketsDecode: the law's plain function is true (4).
  Conditions: none.
-/
import Derived.Test.YtpdbekbobkjfgaaDoorD3W
namespace Go.Proofs.YtpdbekbobkjfgaaDoor
set_option linter.unusedVariables false
set_option linter.unusedSimpArgs false
set_option maxRecDepth 100000
set_option maxHeartbeats 2000000

theorem rbits2 (m p : Nat) (hp : p < 16) (hm : 100 ≤ m) (h : shv p = 2) (w : Nat) (hw : w < 2048) (F H P K : Int) (C L : Bool) (D : List Int) :
    rbits_D m ((p : Int), ((w % 128 : Nat) : Int), ((w / 128 : Nat) : Int), F, H, P, C, L, K, D, ()) = some (Sum.inl ((), nI (Chk.bitsN w 11), ())) := by
  unfold rbits_D
  rw [rbJ0_lit m p hp, dT h]
  simp only [cond_true]
  rw [w64 (x := ((w % 128 : Nat) : Int)) (by omega) (by omega), w64 (x := ((w / 128 : Nat) : Int)) (by omega) (by omega), show (7 : Int) = ((7 : Nat) : Int) from rfl, low_eq m _ 7 (by omega) (by omega) (by omega), bnd_some, show (4 : Int) = ((4 : Nat) : Int) from rfl, low_eq m _ 4 (by omega) (by omega) (by omega), bnd_some]
  simp only [nI_len, Chk.bitsN_len, nI_app]
  have e1 : Chk.bitsN (w % 128) 7 = Chk.bitsN w 7 := bitsN_mod w 7
  rw [gr1 _ (by omega), cond_true, e1, ← show Chk.bitsN w (7 + 4) = Chk.bitsN w 7 ++ Chk.bitsN (w / 128) 4 from bitsN_add w 7 4]
theorem rbits3 (m p : Nat) (hp : p < 16) (hm : 100 ≤ m) (h : shv p = 3) (w : Nat) (hw : w < 2048) (A E H P K : Int) (C L : Bool) (D : List Int) :
    rbits_D m ((p : Int), A, E, (w : Int), H, P, C, L, K, D, ()) = some (Sum.inl ((), nI (Chk.bitsN w 11), ())) := by
  unfold rbits_D
  rw [rbJ0_lit m p hp, dF (show ¬ shv p = 2 by omega)]
  simp only [cond_false, is5 p hp]
  rw [dT h, cond_true, w64 (x := (w : Int)) (by omega) (by omega), show (11 : Int) = ((11 : Nat) : Int) from rfl, low_eq m _ 11 (by omega) (by omega) (by omega), bnd_some]
theorem flag_eq (m : Nat) (b : Bool) : flag_D m b = some ((if b then (1 : Int) else 0), ()) := by cases b <;> rfl
theorem flag_dec (m q : Nat) : flag_D m (decide (q % 2 = 1)) = some (((q % 2 : Nat) : Int), ()) := by
  rw [flag_eq]
  by_cases h : q % 2 = 1
  · rw [if_pos (by simpa using h), h]; rfl
  · rw [if_neg (by simpa using h), show q % 2 = 0 by omega]; rfl
theorem bits19 (w : Nat) : Chk.bitsN w 7 ++ [w / 128 % 2] ++ Chk.bitsN (w / 256) 7 ++ [w / 32768 % 2, w / 65536 % 2] ++ Chk.bitsN (w / 131072) 2 = Chk.bitsN w 19 := by
  have e1 := bitsN_add w 7 12
  have e2 : Chk.bitsN (w / 2 ^ 7) 12 = w / 128 % 2 :: Chk.bitsN (w / 256) 11 := by
    rw [Chk.bitsN_cons (w / 2 ^ 7) 11, Nat.div_div_eq_div_mul]
  have e3 := bitsN_add (w / 256) 7 4
  have e4 : Chk.bitsN (w / 256 / 2 ^ 7) 4 = w / 32768 % 2 :: w / 65536 % 2 :: Chk.bitsN (w / 131072) 2 := by
    rw [Chk.bitsN_cons, Chk.bitsN_cons, Nat.div_div_eq_div_mul, Nat.div_div_eq_div_mul, Nat.div_div_eq_div_mul]
  rw [show (19 : Nat) = 7 + 12 from rfl, e1, e2, show (11 : Nat) = 7 + 4 from rfl, e3, e4]
  simp only [List.append_assoc, List.cons_append, List.nil_append]
theorem rbits4 (m p : Nat) (hp : p < 16) (hm : 100 ≤ m) (h : shv p = 4) (w : Nat) (hw : w < 524288) (hz : w / 65536 % 2 = 0) (A E F : Int) (D : List Int) :
    rbits_D m ((p : Int), A, E, F, ((w % 128 : Nat) : Int), ((w / 256 % 128 : Nat) : Int), decide (w / 128 % 2 = 1), decide (w / 32768 % 2 = 1), ((w / 131072 : Nat) : Int), D, ()) = some (Sum.inl ((), nI (Chk.bitsN w 19), ())) := by
  unfold rbits_D
  rw [rbJ0_lit m p hp, dF (show ¬ shv p = 2 by omega)]
  simp only [cond_false, is5 p hp, is8 p hp]
  rw [dF (show ¬ shv p = 3 by omega), cond_false, dT h, Bool.not_true, cond_false]
  rw [w64 (x := ((w % 128 : Nat) : Int)) (by omega) (by omega), w64 (x := ((w / 256 % 128 : Nat) : Int)) (by omega) (by omega), w64 (x := ((w / 131072 : Nat) : Int)) (by omega) (by omega), show (7 : Int) = ((7 : Nat) : Int) from rfl, low_eq m _ 7 (by omega) (by omega) (by omega), bnd_some, flag_dec, bnd_some]
  simp only [nI_one, nI_app, nI_len, List.length_append, List.length_cons, List.length_nil, Chk.bitsN_len]
  rw [gr1 _ (by omega), cond_true, low_eq m _ 7 (by omega) (by omega) (by omega), bnd_some]
  simp only [nI_one, nI_app, nI_len, List.length_append, List.length_cons, List.length_nil, Chk.bitsN_len]
  rw [gr1 _ (by omega), cond_true, flag_dec, bnd_some]
  have e2 : [((w / 32768 % 2 : Nat) : Int), (0 : Int)] = nI [w / 32768 % 2, w / 65536 % 2] := by rw [hz]; rfl
  simp only [e2, nI_app, nI_len, List.length_append, List.length_cons, List.length_nil, Chk.bitsN_len]
  rw [gr1 _ (by omega), cond_true, show (2 : Int) = ((2 : Nat) : Int) from rfl, low_eq m _ 2 (by omega) (by omega) (by omega), bnd_some]
  simp only [nI_app, nI_len, List.length_append, List.length_cons, List.length_nil, Chk.bitsN_len]
  have e3 : Chk.bitsN (w % 128) 7 = Chk.bitsN w 7 := bitsN_mod w 7
  have e4 : Chk.bitsN (w / 256 % 128) 7 = Chk.bitsN (w / 256) 7 := bitsN_mod (w / 256) 7
  rw [gr1 _ (by omega), cond_true, e3, e4, bits19]
theorem rencode1 (m p : Nat) (hp : p < 16) (h : shv p = 1) (A E F H P K : Int) (C L : Bool) (D : List Int) : rencode_D m ((p : Int), A, E, F, H, P, C, L, K, D, ()) = some (nI [p + 16 * (15 - p)], ()) := by
  unfold rencode_D
  simp only [rfirst_eq m p hp, bnd_some]
  rw [rJ0_lit m p hp, dF (show ¬ shv p = 5 by omega)]
  simp only [cond_false]
  unfold rencode_J1 rbits_D
  rw [rbJ0_lit m p hp, dF (show ¬ shv p = 2 by omega)]
  simp only [cond_false, is5 p hp, is8 p hp]
  rw [dF (show ¬ shv p = 3 by omega), cond_false, dF (show ¬ shv p = 4 by omega), Bool.not_false, cond_true, bnd_some, sumK_r]
  rfl
theorem rencode5 (m p : Nat) (hp : p < 16) (hm : 10000 ≤ m) (h : shv p = 5) (A E F H P K : Int) (C L : Bool) (l : List Nat) (hl : ∀ x ∈ l, x < 256) (hn : l.length ≤ 1100) (a b : Nat) (ha : a < 256) (hb : b < 256) (hs : Chk.sixteen l = a + 256 * b) :
    rencode_D m ((p : Int), A, E, F, H, P, C, L, K, nI l, ()) = some (nI ((p + 16 * (15 - p)) :: (l ++ [a, b])), ()) := by
  unfold rencode_D
  simp only [rfirst_eq m p hp, bnd_some]
  rw [rJ0_lit m p hp, dT h]
  simp only [cond_true]
  rw [r16_eq m l hl (by omega) (by omega) (by omega), bnd_some, hs]
  have e1 : Go.IntKind.wrap .u8 (Int.tmod ((a + 256 * b : Nat) : Int) 256) = (a : Int) := by rw [Int.tmod_eq_emod_of_nonneg (by omega), w8 (by omega) (by omega)]; omega
  have e2 : Go.IntKind.wrap .u8 (Go.IntKind.wrap .u64 (Int.tdiv ((a + 256 * b : Nat) : Int) 256)) = (b : Int) := by rw [Int.tdiv_eq_ediv_of_nonneg (by omega), w64 (by omega) (by omega), w8 (by omega) (by omega)]; omega
  have e3 : [(a : Int), (b : Int)] = nI [a, b] := rfl
  have e4 : [((p + 16 * (15 - p) : Nat) : Int)] = nI [p + 16 * (15 - p)] := rfl
  simp only [e1, e2]
  rw [e3, e4]
  simp only [nI_app, nI_len, List.length_append, List.length_cons, List.length_nil]
  rw [gr1 _ (by omega), cond_true, gr1 _ (by omega), cond_true]
  simp only [List.cons_append, List.nil_append]
theorem df3_nopk (m : Nat) : df3_D m nopk nopk = some (0, ()) := by
  unfold df3_D df3_J0
  simp
/-- Both sides: the same error; without one the packet is encoded to the bytes again. -/
theorem decL_fin (m : Nat) (l : List Nat) (P : Pkt) (e : Int) (h1 : decode_D m (nI l) = some ((P, e, ()), ())) (h2 : rerror_D m (nI l) = some (e, ())) (h3 : e ≠ 0 → P = nopk) (h4 : e = 0 → rfCheck_D m P = some (0, ()) ∧ rencode_D m P = some (nI l, ())) : decL_D m (nI l) = some (true, ()) := by
  unfold decL_D
  by_cases hlen : 1100 < l.length
  · rw [nI_len, dT (by omega), cond_true]
  · rw [nI_len, dF (by omega), cond_false, h1, bnd_some]
    unfold decL_J0
    simp only [h2, bnd_some, decide_true, Bool.not_true, cond_false]
    by_cases he : e = 0
    · subst he
      obtain ⟨h5, h6⟩ := h4 rfl
      rw [dT rfl, Bool.not_true, cond_false]
      unfold decL_J2
      simp only [h5, h6, bnd_some, decide_true, cond_true, lives3_D]
    · rw [dF he, Bool.not_false, cond_true, h3 he]
      unfold decL_J1
      simp only [df3_nopk, bnd_some, decide_true, cond_true, lives3_D]
theorem two_of {α : Type} {l : List α} (h : l.length = 2) : ∃ a b, l = [a, b] := by
  match l, h with
  | [a, b], _ => exact ⟨a, b, rfl⟩
theorem three_of {α : Type} {l : List α} (h : l.length = 3) : ∃ a b c, l = [a, b, c] := by
  match l, h with
  | [a, b, c], _ => exact ⟨a, b, c, rfl⟩
theorem ckT_bad (m : Nat) (p : Int) (l : List Int) (h : l.length ≠ 2) : ckfT_D m p 0 0 0 0 0 false false 0 l = some (5, (p, 0, 0, 0, 0, 0, false, false, 0, l, ()), ()) := by
  unfold ckfT_D
  simp only [u12, u16, v2]
  rw [dF (by omega), Bool.not_false, cond_true]
theorem ckF_bad (m : Nat) (p : Int) (l : List Int) (h : l.length ≠ 2) : ckfF_D m p 0 0 0 0 0 false false 0 l = some (5, (p, 0, 0, 0, 0, 0, false, false, 0, l, ()), ()) := by
  unfold ckfF_D
  simp only [u16', v2]
  rw [dF (by omega), Bool.not_false, cond_true]
theorem ckS_bad (m : Nat) (p : Int) (l : List Int) (h : l.length ≠ 3) : ckfS_D m p 0 0 0 0 0 false false 0 l = some (5, (p, 0, 0, 0, 0, 0, false, false, 0, l, ()), ()) := by
  unfold ckfS_D
  simp only [u12, u13, u20, u21, u22, u24, v3]
  rw [dF (by omega), Bool.not_false, cond_true]
theorem decL_true (m : Nat) (hm : 10000 ≤ m) (l : List Nat) (hl : ∀ x ∈ l, x < 256) : decL_D m (nI l) = some (true, ()) := by
  by_cases hlen : 1100 < l.length
  · unfold decL_D
    rw [nI_len, dT (by omega), cond_true]
  cases l with
  | nil => exact decL_fin m [] nopk 4 rfl rfl (fun _ => rfl) (fun h => by omega)
  | cons f rest =>
    have hf := hl f (by simp)
    have hr : ∀ x ∈ rest, x < 256 := fun x hx => hl x (by simp [hx])
    have hn : rest.length ≤ 1100 := by simp only [List.length_cons] at hlen; omega
    have hd := decode_eq m f hf rest
    have he := rerror_eq m f hf rest hr hn hm
    have hp : f % 16 < 16 := Nat.mod_lt _ (by omega)
    cases hg : good f with
    | false =>
      rw [hg, if_neg (by simp)] at hd he
      exact decL_fin m _ nopk 4 hd he (fun _ => rfl) (fun h => by omega)
    | true =>
      rw [hg, if_pos rfl] at hd he
      unfold good at hg
      simp only [Bool.and_eq_true, decide_eq_true_eq] at hg
      obtain ⟨h0, hff⟩ := hg
      have hle := shv_le (f % 16)
      unfold decB at hd
      by_cases h1 : shv (f % 16) = 1
      · rw [if_pos h1] at hd he
        by_cases hnil : rest = []
        · subst hnil
          rw [if_pos rfl] at hd he
          refine decL_fin m _ _ 0 hd he (fun h => absurd rfl h) (fun _ => ⟨?_, ?_⟩)
          · exact rfCheck_ok0 m _ hp h0 _ _ _ _ _ _ _ _ _ (.inr ⟨rfl, rfl⟩) (by omega) (by omega) (.inr rfl) (by omega) (.inr ⟨rfl, rfl, rfl, rfl, rfl⟩) (by omega) (by omega) (by omega) (.inr rfl) (by simp)
          · rw [rencode1 m _ hp h1, ← hff]
        · rw [if_neg hnil] at hd he
          exact decL_fin m _ nopk 5 hd he (fun _ => rfl) (fun h => by omega)
      · rw [if_neg h1] at hd he
        by_cases h5 : shv (f % 16) = 5
        · rw [if_pos h5] at hd he
          by_cases hw : rest.length < 2 ∨ 1026 < rest.length
          · rw [if_pos hw] at hd he
            exact decL_fin m _ nopk 5 hd he (fun _ => rfl) (fun h => by omega)
          · rw [if_neg hw, ckcheck_eq m rest hr (by omega) (by omega) (by omega)] at hd
            rw [if_neg hw] at he
            by_cases hs : Chk.sixteen (rest.take (rest.length - 2)) = rest.getD (rest.length - 2) 0 + 256 * rest.getD (rest.length - 1) 0
            · rw [if_pos hs, bnd_some, if_pos rfl] at hd
              try dsimp only at hd
              rw [if_pos hs] at he
              refine decL_fin m _ _ 0 hd he (fun h => absurd rfl h) (fun _ => ⟨?_, ?_⟩)
              · exact rfCheck_ok0 m _ hp h0 _ _ _ _ _ _ _ _ _ (.inr ⟨rfl, rfl⟩) (by omega) (by omega) (.inr rfl) (by omega) (.inr ⟨rfl, rfl, rfl, rfl, rfl⟩) (by omega) (by omega) (by omega) (.inl h5) (by rw [nI_len]; simp; omega)
              · rw [rencode5 m _ hp hm h5 _ _ _ _ _ _ _ _ _ (fun x hx => hr x (List.mem_of_mem_take hx)) (by simp; omega) _ _ (byte_at hr _) (byte_at hr _) hs, ← hff]
                have e : rest.take (rest.length - 2) ++ [rest.getD (rest.length - 2) 0, rest.getD (rest.length - 1) 0] = rest := by
                  conv => rhs; rw [← List.take_append_drop (rest.length - 2) rest]
                  congr 1
                  have a1 : rest.length - 2 < rest.length := by omega
                  have a2 : rest.length - 1 < rest.length := by omega
                  rw [drop_get a1, getD_lt a1, getD_lt a2]
                  have e2 : rest.length - 2 + 1 = rest.length - 1 := by omega
                  rw [e2, drop_get a2, List.drop_of_length_le (by omega)]
                rw [e]
            · rw [if_neg hs, bnd_some, if_neg (by simp)] at hd
              rw [if_neg hs] at he
              exact decL_fin m _ nopk 10 hd he (fun _ => rfl) (fun h => by omega)
        · rw [if_neg h5] at hd he
          by_cases h4 : shv (f % 16) = 4
          · rw [if_neg (by omega), if_neg (by omega)] at hd
            rw [if_pos h4] at he
            by_cases h3l : rest.length = 3
            · obtain ⟨a, b, c, rfl⟩ := three_of h3l
              have ha := hr a (by simp)
              have hb := hr b (by simp)
              have hc := hr c (by simp)
              rw [if_neg (by simp)] at he
              simp only [List.getD_cons_zero, List.getD_cons_succ] at he
              have hall := b24 a b c ha hb
              rw [show nI [a, b, c] = [(a : Int), (b : Int), (c : Int)] from rfl, ckfS_eq m (by omega) _ a b c ha hb hc _ rfl] at hd
              have hv : a + 256 * b + 65536 * c < 16777216 := by omega
              generalize a + 256 * b + 65536 * c = v at *
              by_cases hs : Chk.five v 19 = v / 524288
              · rw [if_pos hs, bnd_some] at hd
                rw [if_pos hs] at he
                simp only at hd
                have hz : v % 524288 / 65536 % 2 = v / 65536 % 2 := by omega
                rw [hz] at hd
                by_cases hq : v / 65536 % 2 = 0
                · rw [if_pos hq, if_pos rfl] at hd
                  rw [if_pos hq] at he
                  have hwl : v % 524288 < 524288 := Nat.mod_lt _ (by omega)
                  refine decL_fin m _ _ 0 hd he (fun h => absurd rfl h) (fun _ => ⟨?_, ?_⟩)
                  · exact rfCheck_ok0 m _ hp h0 _ _ _ _ _ _ _ _ _ (.inr ⟨rfl, rfl⟩) (by omega) (by omega) (.inr rfl) (by omega) (.inl h4) (by omega) (by omega) (by omega) (.inr rfl) (by simp)
                  · have hb4 := rbits4 m _ hp (by omega) h4 (v % 524288) hwl (by omega) 0 0 0 []
                    have e19 : Chk.bitsN (v % 524288) 19 = Chk.bitsN v 19 := bitsN_mod v 19
                    rw [e19] at hb4
                    rw [rencode_bits m _ hp (by omega) _ _ _ _ _ _ _ _ _ h5 v 19 [a, b, c] hr (by simp) (by simp) (by omega) hb4 hs hall, ← hff]
                · rw [if_neg hq, if_neg (by simp)] at hd
                  rw [if_neg hq] at he
                  exact decL_fin m _ nopk 4 hd he (fun _ => rfl) (fun h => by omega)
              · rw [if_neg hs, bnd_some, if_neg (by simp)] at hd
                rw [if_neg hs] at he
                exact decL_fin m _ nopk 10 hd he (fun _ => rfl) (fun h => by omega)
            · rw [ckS_bad m _ _ (by rw [nI_len]; exact h3l), bnd_some, if_neg (by simp)] at hd
              rw [if_pos h3l] at he
              exact decL_fin m _ nopk 5 hd he (fun _ => rfl) (fun h => by omega)
          · rw [if_neg h4] at he
            by_cases h2l : rest.length = 2
            · obtain ⟨a, b, rfl⟩ := two_of h2l
              have ha := hr a (by simp)
              have hb := hr b (by simp)
              rw [if_neg (by simp)] at he
              simp only [List.getD_cons_zero, List.getD_cons_succ] at he
              have hall := Chk.two_bytes a b ha
              have hv : a + 256 * b < 65536 := by omega
              have hwl : (a + 256 * b) % 2048 < 2048 := Nat.mod_lt _ (by omega)
              have e11 : Chk.bitsN ((a + 256 * b) % 2048) 11 = Chk.bitsN (a + 256 * b) 11 := bitsN_mod (a + 256 * b) 11
              by_cases h2 : shv (f % 16) = 2
              · rw [if_pos h2, show nI [a, b] = [(a : Int), (b : Int)] from rfl, ckfT_eq m (by omega) _ a b ha hb] at hd
                generalize a + 256 * b = v at *
                by_cases hs : Chk.five v 11 = v / 2048
                · rw [if_pos hs, bnd_some, if_pos rfl] at hd
                  try dsimp only at hd
                  rw [if_pos hs] at he
                  refine decL_fin m _ _ 0 hd he (fun h => absurd rfl h) (fun _ => ⟨?_, ?_⟩)
                  · exact rfCheck_ok0 m _ hp h0 _ _ _ _ _ _ _ _ _ (.inl h2) (by omega) (by omega) (.inr rfl) (by omega) (.inr ⟨rfl, rfl, rfl, rfl, rfl⟩) (by omega) (by omega) (by omega) (.inr rfl) (by simp)
                  · have hb2 := rbits2 m _ hp (by omega) h2 (v % 2048) hwl 0 0 0 0 false false []
                    rw [e11] at hb2
                    rw [rencode_bits m _ hp (by omega) _ _ _ _ _ _ _ _ _ h5 v 11 [a, b] hr (by simp) (by simp) (by omega) hb2 hs hall, ← hff]
                · rw [if_neg hs, bnd_some, if_neg (by simp)] at hd
                  rw [if_neg hs] at he
                  exact decL_fin m _ nopk 10 hd he (fun _ => rfl) (fun h => by omega)
              · have h3 : shv (f % 16) = 3 := by omega
                rw [if_neg h2, if_pos h3, show nI [a, b] = [(a : Int), (b : Int)] from rfl, ckfF_eq m (by omega) _ a b ha hb] at hd
                generalize a + 256 * b = v at *
                by_cases hs : Chk.five v 11 = v / 2048
                · rw [if_pos hs, bnd_some, if_pos rfl] at hd
                  try dsimp only at hd
                  rw [if_pos hs] at he
                  refine decL_fin m _ _ 0 hd he (fun h => absurd rfl h) (fun _ => ⟨?_, ?_⟩)
                  · exact rfCheck_ok0 m _ hp h0 _ _ _ _ _ _ _ _ _ (.inr ⟨rfl, rfl⟩) (by omega) (by omega) (.inl h3) (by omega) (.inr ⟨rfl, rfl, rfl, rfl, rfl⟩) (by omega) (by omega) (by omega) (.inr rfl) (by simp)
                  · have hb3 := rbits3 m _ hp (by omega) h3 (v % 2048) hwl 0 0 0 0 0 false false []
                    rw [e11] at hb3
                    rw [rencode_bits m _ hp (by omega) _ _ _ _ _ _ _ _ _ h5 v 11 [a, b] hr (by simp) (by simp) (by omega) hb3 hs hall, ← hff]
                · rw [if_neg hs, bnd_some, if_neg (by simp)] at hd
                  rw [if_neg hs] at he
                  exact decL_fin m _ nopk 10 hd he (fun _ => rfl) (fun h => by omega)
            · rw [if_pos h2l] at he
              by_cases h2 : shv (f % 16) = 2
              · rw [if_pos h2, ckT_bad m _ _ (by rw [nI_len]; exact h2l), bnd_some, if_neg (by simp)] at hd
                exact decL_fin m _ nopk 5 hd he (fun _ => rfl) (fun h => by omega)
              · have h3 : shv (f % 16) = 3 := by omega
                rw [if_neg h2, if_pos h3, ckF_bad m _ _ (by rw [nI_len]; exact h2l), bnd_some, if_neg (by simp)] at hd
                exact decL_fin m _ nopk 5 hd he (fun _ => rfl) (fun h => by omega)
end Go.Proofs.YtpdbekbobkjfgaaDoor
