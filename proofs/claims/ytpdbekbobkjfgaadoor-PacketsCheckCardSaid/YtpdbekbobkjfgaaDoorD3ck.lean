/-
  The statement PacketsCheck: the law's plain function is true.
  Conditions: none.
-/
import Derived.Test.YtpdbekbobkjfgaaDoorD3q
namespace Go.Proofs.YtpdbekbobkjfgaaDoor
set_option linter.unusedVariables false
set_option linter.unusedSimpArgs false
set_option maxRecDepth 100000
set_option maxHeartbeats 4000000

theorem enc_vp (m : Nat) (hm : 10000 ≤ m) (v : Vp) (h : v.ok) : ∃ L : List Nat, encode_D m v.pk = some ((nI L, 0, ()), ()) ∧ rencode_D m v.pk = some (nI L, ()) := by
  cases v with
  | t p a e =>
    obtain ⟨hp, hs, ha, he⟩ := h
    simp only [Vp.pk]
    generalize hww : a + 128 * e = w
    have hw : w < 2048 := by omega
    have h5 := five_lt w 11
    obtain ⟨f1, f2⟩ := five_sum w 11 hw (w + 2048 * Chk.five w 11) rfl
    have hb2 := rbits2 m p hp (by omega) hs w hw 0 0 0 0 false false []
    have e11 : Chk.bitsN w 11 = Chk.bitsN (w + 2048 * Chk.five w 11) 11 := by rw [← bitsN_mod (w + 2048 * Chk.five w 11) 11, f2]
    rw [e11] at hb2
    have hen := encT m p hp hs a e ha he (by omega) w (by omega)
    rw [show w % 128 = a by omega, show w / 128 = e by omega] at hb2
    generalize hvv : w + 2048 * Chk.five w 11 = v at *
    have hall := Chk.two_bytes (v % 256) (v / 256) (by omega)
    rw [show v % 256 + 256 * (v / 256) = v by omega] at hall
    exact ⟨_, hen, rencode_bits m p hp (by omega) _ _ _ _ _ _ _ _ _ (by omega) v 11 [v % 256, v / 256] (by intro y hy; simp only [List.mem_cons, List.not_mem_nil, or_false] at hy; omega) (by simp) (by simp) (by omega) hb2 f1 hall⟩
  | f p w =>
    obtain ⟨hp, hs, hw⟩ := h
    simp only [Vp.pk]
    have h5 := five_lt w 11
    obtain ⟨f1, f2⟩ := five_sum w 11 hw (w + 2048 * Chk.five w 11) rfl
    have hb2 := rbits3 m p hp (by omega) hs w hw 0 0 0 0 0 false false []
    have e11 : Chk.bitsN w 11 = Chk.bitsN (w + 2048 * Chk.five w 11) 11 := by rw [← bitsN_mod (w + 2048 * Chk.five w 11) 11, f2]
    rw [e11] at hb2
    have hen := encF m p hp hs (by omega) w hw
    generalize hvv : w + 2048 * Chk.five w 11 = v at *
    have hall := Chk.two_bytes (v % 256) (v / 256) (by omega)
    rw [show v % 256 + 256 * (v / 256) = v by omega] at hall
    exact ⟨_, hen, rencode_bits m p hp (by omega) _ _ _ _ _ _ _ _ _ (by omega) v 11 [v % 256, v / 256] (by intro y hy; simp only [List.mem_cons, List.not_mem_nil, or_false] at hy; omega) (by simp) (by simp) (by omega) hb2 f1 hall⟩
  | s p x q k c l =>
    obtain ⟨hp, hs, hx, hq, hk⟩ := h
    simp only [Vp.pk]
    generalize hcc : (if c then 1 else 0 : Nat) = cn
    generalize hll : (if l then 1 else 0 : Nat) = ln
    have hcn : cn ≤ 1 := by rw [← hcc]; split <;> omega
    have hln : ln ≤ 1 := by rw [← hll]; split <;> omega
    have ecb : bitI c = (cn : Int) := by rw [← hcc]; cases c <;> rfl
    have elb : bitI l = (ln : Int) := by rw [← hll]; cases l <;> rfl
    generalize hww : x + 128 * cn + 256 * q + 32768 * ln + 131072 * k = w
    have hw : w < 524288 := by omega
    have hz : w / 65536 % 2 = 0 := by rw [← hww]; exact z65 (x + 128 * cn + 256 * q + 32768 * ln) k (by omega)
    have h5 := five_lt w 19
    obtain ⟨f1, f2⟩ := five_sum w 19 hw (w + 524288 * Chk.five w 19) rfl
    have hb4 := rbits4 m p hp (by omega) hs w hw hz 0 0 0 []
    have e19 : Chk.bitsN w 19 = Chk.bitsN (w + 524288 * Chk.five w 19) 19 := by rw [← bitsN_mod (w + 524288 * Chk.five w 19) 19, f2]
    rw [e19] at hb4
    have hen := encS m p hp hs x q k c l hx hq hk (by omega) w (by rw [ecb, elb]; omega)
    have d1 : decide (w / 128 % 2 = 1) = c := by
      have : w / 128 % 2 = cn := by omega
      rw [this, ← hcc]; cases c <;> rfl
    have d2 : decide (w / 32768 % 2 = 1) = l := by
      have : w / 32768 % 2 = ln := by omega
      rw [this, ← hll]; cases l <;> rfl
    rw [show w % 128 = x by omega, show w / 256 % 128 = q by omega, show w / 131072 = k by omega, d1, d2] at hb4
    generalize hvv : w + 524288 * Chk.five w 19 = v at *
    have hall := b24 (v % 256) (v / 256 % 256) (v / 65536) (by omega) (by omega)
    rw [show v % 256 + 256 * (v / 256 % 256) + 65536 * (v / 65536) = v by omega] at hall
    exact ⟨_, hen, rencode_bits m p hp (by omega) _ _ _ _ _ _ _ _ _ (by omega) v 19 [v % 256, v / 256 % 256, v / 65536] (by intro y hy; simp only [List.mem_cons, List.not_mem_nil, or_false] at hy; omega) (by simp) (by simp) (by omega) hb4 f1 hall⟩
  | n p => exact ⟨_, encP m p h.1 h.2, rencode1 m p h.1 h.2 _ _ _ _ _ _ _ _ _⟩
  | d p ds =>
    obtain ⟨hp, hs, hl, hn⟩ := h
    have hsl := sixteen_lt ds
    have hsum : Chk.sixteen ds = Chk.sixteen ds % 256 + 256 * (Chk.sixteen ds / 256) := by omega
    exact ⟨_, encD5 m p hp hs ds hl (by omega) (by omega), rencode5 m p hp hm hs _ _ _ _ _ _ _ _ ds hl (by omega) _ _ (by omega) (by omega) hsum⟩
theorem pk_ok (m : Nat) (v : Vp) (h : v.ok) : rfCheck_D m v.pk = some (0, ()) := by
  cases v with
  | t p a e => obtain ⟨hp, hs, ha, he⟩ := h; exact rfCheck_ok0 m p hp (by omega) _ _ _ _ _ _ _ _ _ (.inl hs) (by omega) (by omega) (.inr rfl) (by omega) (.inr ⟨rfl, rfl, rfl, rfl, rfl⟩) (by omega) (by omega) (by omega) (.inr rfl) (by simp)
  | f p w => obtain ⟨hp, hs, hw⟩ := h; exact rfCheck_ok0 m p hp (by omega) _ _ _ _ _ _ _ _ _ (.inr ⟨rfl, rfl⟩) (by omega) (by omega) (.inl hs) (by omega) (.inr ⟨rfl, rfl, rfl, rfl, rfl⟩) (by omega) (by omega) (by omega) (.inr rfl) (by simp)
  | s p x q k c l => obtain ⟨hp, hs, hx, hq, hk⟩ := h; exact rfCheck_ok0 m p hp (by omega) _ _ _ _ _ _ _ _ _ (.inr ⟨rfl, rfl⟩) (by omega) (by omega) (.inr rfl) (by omega) (.inl hs) (by omega) (by omega) (by omega) (.inr rfl) (by simp)
  | n p => obtain ⟨hp, hs⟩ := h; exact rfCheck_ok0 m p hp (by omega) _ _ _ _ _ _ _ _ _ (.inr ⟨rfl, rfl⟩) (by omega) (by omega) (.inr rfl) (by omega) (.inr ⟨rfl, rfl, rfl, rfl, rfl⟩) (by omega) (by omega) (by omega) (.inr rfl) (by simp)
  | d p ds => obtain ⟨hp, hs, hl, hn⟩ := h; exact rfCheck_ok0 m p hp (by omega) _ _ _ _ _ _ _ _ _ (.inr ⟨rfl, rfl⟩) (by omega) (by omega) (.inr rfl) (by omega) (.inr ⟨rfl, rfl, rfl, rfl, rfl⟩) (by omega) (by omega) (by omega) (.inl hs) (by rw [nI_len]; omega)
theorem j0b (m p : Nat) (hp : p < 16) (A E F H Q K : Int) (C L : Bool) (D : List Int) {R : Type} (k0 : Bool → Option R) : rfCheck_J0 m ((p : Int), A, E, F, H, Q, C, L, K, D, ()) k0 = k0 ((!decide (shv p = 2) && (!decide (A = 0) || !decide (E = 0))) || (decide ((127 : Int) < A) || decide ((15 : Int) < E))) := by
  unfold rfCheck_J0
  simp only [token_lit m p hp, bnd_some]
  cases decide (shv p = 2) <;> cases decide (A = 0) <;> cases decide (E = 0) <;> cases decide ((127 : Int) < A) <;> cases decide ((15 : Int) < E) <;> rfl
theorem j1b (m p : Nat) (hp : p < 16) (A E F H Q K : Int) (C L : Bool) (D : List Int) {R : Type} (k0 : Bool → Option R) : rfCheck_J1 m ((p : Int), A, E, F, H, Q, C, L, K, D, ()) k0 = k0 ((!decide (shv p = 3) && !decide (F = 0)) || decide ((2047 : Int) < F)) := by
  unfold rfCheck_J1
  simp only [is5 p hp]
  cases decide (shv p = 3) <;> cases decide (F = 0) <;> cases decide ((2047 : Int) < F) <;> rfl
theorem j2b (m p : Nat) (hp : p < 16) (A E F H Q K : Int) (C L : Bool) (D : List Int) {R : Type} (k0 : Bool → Option R) : rfCheck_J2 m ((p : Int), A, E, F, H, Q, C, L, K, D, ()) (H, Q, C, L, K, ()) k0 = k0 ((!decide (shv p = 4) && (!decide (H = 0) || (!decide (Q = 0) || (C || (L || !decide (K = 0)))))) || (decide ((127 : Int) < H) || (decide ((127 : Int) < Q) || decide ((3 : Int) < K)))) := by
  unfold rfCheck_J2
  simp only [is8 p hp]
  cases decide (shv p = 4) <;> cases decide (H = 0) <;> cases decide (Q = 0) <;> cases C <;> cases L <;> cases decide (K = 0) <;> cases decide ((127 : Int) < H) <;> cases decide ((127 : Int) < Q) <;> cases decide ((3 : Int) < K) <;> rfl
theorem j3b (m p : Nat) (hp : p < 16) (A E F H Q K : Int) (C L : Bool) (D : List Int) {R : Type} (k0 : Bool → Option R) : rfCheck_J3 m ((p : Int), A, E, F, H, Q, C, L, K, D, ()) k0 = k0 (!decide (shv p = 5) && !decide (((D.length : Nat) : Int) = 0)) := by
  unfold rfCheck_J3
  simp only [hasData_lit m p hp, bnd_some]
  cases decide (shv p = 5) <;> cases decide (((D.length : Nat) : Int) = 0) <;> rfl
theorem rf_cases (m : Nat) (p A E F H Q K : Nat) (C L : Bool) (d : List Nat) (hd : ∀ x ∈ d, x < 256) :
    (∃ c : Int, c ≠ 0 ∧ rfCheck_D m ((p : Int), (A : Int), (E : Int), (F : Int), (H : Int), (Q : Int), C, L, (K : Int), nI d, ()) = some (c, ())) ∨
      ∃ v : Vp, v.ok ∧ (((p : Int), (A : Int), (E : Int), (F : Int), (H : Int), (Q : Int), C, L, (K : Int), nI d, ()) : Pkt) = v.pk := by
  by_cases hp : p < 16
  case neg =>
    left
    have hkn : known_D m (p : Int) = some (false, ()) := by
      simp [known_D, known_J0, show ¬ (p : Int) = 1 by omega, show ¬ (p : Int) = 2 by omega, show ¬ (p : Int) = 3 by omega, show ¬ (p : Int) = 5 by omega, show ¬ (p : Int) = 6 by omega, show ¬ (p : Int) = 8 by omega, show ¬ (p : Int) = 9 by omega, show ¬ (p : Int) = 10 by omega, show ¬ (p : Int) = 11 by omega, show ¬ (p : Int) = 13 by omega, show ¬ (p : Int) = 14 by omega]
    refine ⟨1, by decide, ?_⟩
    unfold rfCheck_D
    simp only [hkn, bnd_some, Bool.not_false, cond_true]
  by_cases hs : shv p = 0
  · left
    refine ⟨1, by decide, ?_⟩
    unfold rfCheck_D
    rw [known_lit m p hp, bnd_some, dF (by simp [hs])]
    rfl
  have hD : rfCheck_D m ((p : Int), (A : Int), (E : Int), (F : Int), (H : Int), (Q : Int), C, L, (K : Int), nI d, ()) =
      (bif ((!decide (shv p = 2) && (!decide ((A : Int) = 0) || !decide ((E : Int) = 0))) || (decide ((127 : Int) < (A : Int)) || decide ((15 : Int) < (E : Int)))) then some ((1, ())) else
      (bif ((!decide (shv p = 3) && !decide ((F : Int) = 0)) || decide ((2047 : Int) < (F : Int))) then some ((1, ())) else
      (bif ((!decide (shv p = 4) && (!decide ((H : Int) = 0) || (!decide ((Q : Int) = 0) || (C || (L || !decide ((K : Int) = 0)))))) || (decide ((127 : Int) < (H : Int)) || (decide ((127 : Int) < (Q : Int)) || decide ((3 : Int) < (K : Int))))) then some ((1, ())) else
      (bif (!decide (shv p = 5) && !decide (((d.length : Nat) : Int) = 0)) then some ((1, ())) else
      (bif decide ((1024 : Int) < ((d.length : Nat) : Int)) then some ((3, ())) else some ((0, ()))))))) := by
    unfold rfCheck_D
    rw [known_lit m p hp, bnd_some, dT hs, Bool.not_true, cond_false]
    simp only [j0b m p hp, j1b m p hp, j2b m p hp, j3b m p hp, nI_len]
  rw [hD]
  generalize h0 : ((!decide (shv p = 2) && (!decide ((A : Int) = 0) || !decide ((E : Int) = 0))) || (decide ((127 : Int) < (A : Int)) || decide ((15 : Int) < (E : Int)))) = b0
  cases b0
  case true => exact .inl ⟨1, by decide, rfl⟩
  generalize h1 : ((!decide (shv p = 3) && !decide ((F : Int) = 0)) || decide ((2047 : Int) < (F : Int))) = b1
  cases b1
  case true => exact .inl ⟨1, by decide, rfl⟩
  generalize h2 : ((!decide (shv p = 4) && (!decide ((H : Int) = 0) || (!decide ((Q : Int) = 0) || (C || (L || !decide ((K : Int) = 0)))))) || (decide ((127 : Int) < (H : Int)) || (decide ((127 : Int) < (Q : Int)) || decide ((3 : Int) < (K : Int))))) = b2
  cases b2
  case true => exact .inl ⟨1, by decide, rfl⟩
  generalize h3 : (!decide (shv p = 5) && !decide (((d.length : Nat) : Int) = 0)) = b3
  cases b3
  case true => exact .inl ⟨1, by decide, rfl⟩
  by_cases h4 : 1024 < d.length
  · rw [dT (show (1024 : Int) < ((d.length : Nat) : Int) by omega)]
    exact .inl ⟨3, by decide, rfl⟩
  right
  simp only [Bool.or_eq_false_iff, Bool.and_eq_false_imp, Bool.not_eq_true', Bool.not_eq_false', decide_eq_false_iff_not, decide_eq_true_eq] at h0 h1 h2 h3
  have hsh : shv p = 1 ∨ shv p = 2 ∨ shv p = 3 ∨ shv p = 4 ∨ shv p = 5 := by
    have : shv p ≤ 5 := by unfold shv; split <;> (try omega); split <;> (try omega); split <;> (try omega); split <;> (try omega); split <;> omega
    omega
  have hA : shv p ≠ 2 → A = 0 ∧ E = 0 := fun h => by have := h0.1 h; omega
  have hF : shv p ≠ 3 → F = 0 := fun h => by have := h1.1 h; omega
  have hH : shv p ≠ 4 → H = 0 ∧ Q = 0 ∧ C = false ∧ L = false ∧ K = 0 := fun h => by
    obtain ⟨a1, a2, a3, a4, a5⟩ := h2.1 h
    exact ⟨by omega, by omega, a3, a4, by omega⟩
  have hdd : shv p ≠ 5 → d = [] := fun h => List.eq_nil_of_length_eq_zero (by have := h3 h; omega)
  rcases hsh with e | e | e | e | e
  · obtain ⟨rfl, rfl⟩ := hA (by omega)
    obtain rfl := hF (by omega)
    obtain ⟨rfl, rfl, rfl, rfl, rfl⟩ := hH (by omega)
    obtain rfl := hdd (by omega)
    exact ⟨.n p, ⟨hp, e⟩, rfl⟩
  · obtain rfl := hF (by omega)
    obtain ⟨rfl, rfl, rfl, rfl, rfl⟩ := hH (by omega)
    obtain rfl := hdd (by omega)
    exact ⟨.t p A E, ⟨hp, e, by omega, by omega⟩, rfl⟩
  · obtain ⟨rfl, rfl⟩ := hA (by omega)
    obtain ⟨rfl, rfl, rfl, rfl, rfl⟩ := hH (by omega)
    obtain rfl := hdd (by omega)
    exact ⟨.f p F, ⟨hp, e, by omega⟩, rfl⟩
  · obtain ⟨rfl, rfl⟩ := hA (by omega)
    obtain rfl := hF (by omega)
    obtain rfl := hdd (by omega)
    exact ⟨.s p H Q K C L, ⟨hp, e, by omega, by omega, by omega⟩, rfl⟩
  · obtain ⟨rfl, rfl⟩ := hA (by omega)
    obtain rfl := hF (by omega)
    obtain ⟨rfl, rfl, rfl, rfl, rfl⟩ := hH (by omega)
    exact ⟨.d p d, ⟨hp, e, hd, by omega⟩, rfl⟩
theorem nm_ne : ∀ p : Fin 16, shv p.val ≠ 0 → nmP p.val ≠ [] := by decide +kernel
theorem chkL_true (m : Nat) (hm : 10000 ≤ m) (p A E F H Q K : Nat) (C L : Bool) (d : List Nat) (hd : ∀ x ∈ d, x < 256) (hA : A < 256) (hE : E < 256) (hF : F < 65536) (hH : H < 256) (hQ : Q < 256) (hK : K < 256) :
    chkL_D m ((p : Int), (A : Int), (E : Int), (F : Int), (H : Int), (Q : Int), C, L, (K : Int), nI d, ()) = some (true, ()) := by
  have lv : lives3_D m = some (true, ()) := rfl
  unfold chkL_D
  simp only [nI_len]
  by_cases hn : 1100 < d.length
  · rw [dT (show (1100 : Int) < ((d.length : Nat) : Int) by omega), cond_true]
  rw [dF (show ¬ (1100 : Int) < ((d.length : Nat) : Int) by omega), cond_false]
  have hsame := chk_same m (p : Int) A E F H Q K C L (nI d) (by omega) (by omega) (by omega) (by omega) (by omega) (by omega) (by omega) (by omega) (by omega) (by omega) (by omega) (by omega)
  rcases rf_cases m p A E F H Q K C L d hd with ⟨c, hc, hr⟩ | ⟨v, hv, hx⟩
  · have hpk := hsame.trans hr
    have hen : encode_D m ((p : Int), (A : Int), (E : Int), (F : Int), (H : Int), (Q : Int), C, L, (K : Int), nI d, ()) = some (([], c, ()), ()) := by
      unfold encode_D
      rw [hpk, bnd_some, dF hc]
      rfl
    have htx : text3_D m ((p : Int), (A : Int), (E : Int), (F : Int), (H : Int), (Q : Int), C, L, (K : Int), nI d, ()) = some (⟨⟨[]⟩⟩, ()) := by
      unfold text3_D
      rw [hpk, bnd_some, dF hc]
      rfl
    rw [hr, bnd_some, hen, bnd_some]
    unfold chkL_J0
    simp only [hpk, htx, bnd_some, decide_true, Bool.not_true, cond_false, dF hc, Bool.not_false]
    unfold chkL_J1
    simp [lv, bnd_some]
  · obtain ⟨q1, q2⟩ := ok_p v hv
    obtain ⟨Lb, he, hre⟩ := enc_vp m hm v hv
    have hr := pk_ok m v hv
    rw [hx] at hsame ⊢
    have hpk := hsame.trans hr
    have htx := text_vp m (by omega) v hv
    have hne : ¬ (nmP v.p ++ v.re = []) := fun e => nm_ne ⟨v.p, q1⟩ q2 (List.append_eq_nil_iff.1 e).1
    rw [hr, bnd_some, he, bnd_some]
    unfold chkL_J0
    simp only [hpk, htx, bnd_some, decide_true, Bool.not_true, cond_false, bt_list, dF hne]
    unfold chkL_J2
    have ed : v.pk.snd.snd.snd.snd.snd.snd.snd.snd.snd.fst = nI d := by rw [← hx]
    simp [hre, lv, bnd_some, ed]
end Go.Proofs.YtpdbekbobkjfgaaDoor

