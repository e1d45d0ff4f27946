/-
  The statement PacketsBack: Decode of the bytes of packets.
  Conditions: none.
-/
import Derived.Test.YtpdbekbobkjfgaaDoorD3Y
namespace Go.Proofs.YtpdbekbobkjfgaaDoor
set_option linter.unusedVariables false
set_option linter.unusedSimpArgs false
set_option maxRecDepth 100000
set_option maxHeartbeats 2000000

abbrev fst8 (p : Nat) : Nat := p + 16 * (15 - p)
theorem fst8_lt {p : Nat} (hp : p < 16) : fst8 p < 256 := by unfold fst8; omega
theorem fst8_mod {p : Nat} (hp : p < 16) : fst8 p % 16 = p := by unfold fst8; omega
theorem fst8_good {p : Nat} (hp : p < 16) (hs : shv p ≠ 0) : good (fst8 p) = true := by
  unfold good
  rw [fst8_mod hp, dT hs, dT rfl, Bool.and_self]
theorem five_sum (w : Nat) (n : Nat) (hw : w < 2 ^ n) (v : Nat) (hv : v = w + 2 ^ n * Chk.five w n) : Chk.five v n = v / 2 ^ n ∧ v % 2 ^ n = w := by
  have hpos : 0 < 2 ^ n := Nat.two_pow_pos n
  have e1 : v % 2 ^ n = w := by rw [hv, Nat.add_mul_mod_self_left, Nat.mod_eq_of_lt hw]
  have e2 : v / 2 ^ n = Chk.five w n := by rw [hv, Nat.add_mul_div_left _ _ hpos, Nat.div_eq_of_lt hw, Nat.zero_add]
  refine ⟨?_, e1⟩
  rw [e2, ← five_mod v n, e1]
theorem decO_T (m : Nat) (hm : 100 ≤ m) (p w a b : Nat) (hp : p < 16) (hs : shv p = 2) (hw : w < 2048) (ha : a < 256) (hb : b < 256) (hv : a + 256 * b = w + 2048 * Chk.five w 11) :
    decodeO_D m (nI [fst8 p, a, b]) = some (.inr ((((p : Int), ((w % 128 : Nat) : Int), ((w / 128 : Nat) : Int), 0, 0, 0, false, false, 0, ()), 0, ()), ())) := by
  obtain ⟨f1, f2⟩ := five_sum w 11 hw (a + 256 * b) hv
  rw [decodeO_eq m _ (fst8_lt hp), if_pos (fst8_good hp (by omega))]
  unfold decOB
  rw [fst8_mod hp, if_neg (by omega), if_neg (by omega), if_pos hs, show nI [a, b] = [(a : Int), (b : Int)] from rfl, ckfT_eq m hm _ a b ha hb, if_pos f1, bnd_some, if_pos rfl]
  simp only [show (a + 256 * b) % 2048 = w from f2]
theorem decO_F (m : Nat) (hm : 100 ≤ m) (p w a b : Nat) (hp : p < 16) (hs : shv p = 3) (hw : w < 2048) (ha : a < 256) (hb : b < 256) (hv : a + 256 * b = w + 2048 * Chk.five w 11) :
    decodeO_D m (nI [fst8 p, a, b]) = some (.inr ((((p : Int), 0, 0, ((w : Nat) : Int), 0, 0, false, false, 0, ()), 0, ()), ())) := by
  obtain ⟨f1, f2⟩ := five_sum w 11 hw (a + 256 * b) hv
  rw [decodeO_eq m _ (fst8_lt hp), if_pos (fst8_good hp (by omega))]
  unfold decOB
  rw [fst8_mod hp, if_neg (by omega), if_neg (by omega), if_neg (by omega), if_pos hs, show nI [a, b] = [(a : Int), (b : Int)] from rfl, ckfF_eq m hm _ a b ha hb, if_pos f1, bnd_some, if_pos rfl]
  simp only [show (a + 256 * b) % 2048 = w from f2]
theorem decO_S (m : Nat) (hm : 100 ≤ m) (p w a b c : Nat) (hp : p < 16) (hs : shv p = 4) (hw : w < 524288) (hz : w / 65536 % 2 = 0) (ha : a < 256) (hb : b < 256) (hc : c < 256) (hv : a + 256 * b + 65536 * c = w + 524288 * Chk.five w 19) :
    decodeO_D m (nI [fst8 p, a, b, c]) = some (.inr ((((p : Int), 0, 0, 0, ((w % 128 : Nat) : Int), ((w / 256 % 128 : Nat) : Int), decide (w / 128 % 2 = 1), decide (w / 32768 % 2 = 1), ((w / 131072 : Nat) : Int), ()), 0, ()), ())) := by
  obtain ⟨f1, f2⟩ := five_sum w 19 hw (a + 256 * b + 65536 * c) hv
  rw [decodeO_eq m _ (fst8_lt hp), if_pos (fst8_good hp (by omega))]
  unfold decOB
  rw [fst8_mod hp, if_neg (by omega), if_neg (by omega), if_neg (by omega), if_neg (by omega), show nI [a, b, c] = [(a : Int), (b : Int), (c : Int)] from rfl, ckfS_eq m hm _ a b c ha hb hc w f2.symm, if_pos f1, bnd_some, if_pos hz, if_pos rfl]
theorem decO_P (m p : Nat) (hp : p < 16) (hs : shv p = 1) : decodeO_D m (nI [fst8 p]) = some (.inr ((((p : Int), 0, 0, 0, 0, 0, false, false, 0, ()), 0, ()), ())) := by
  rw [decodeO_eq m _ (fst8_lt hp), if_pos (fst8_good hp (by omega))]
  unfold decOB
  rw [fst8_mod hp, if_pos hs, if_pos rfl]
theorem decO_D (m : Nat) (hm : 10000 ≤ m) (p : Nat) (hp : p < 16) (hs : shv p = 5) (l : List Nat) (hl : ∀ x ∈ l, x < 256) (hn : l.length ≤ 1024) (a b : Nat) (ha : a < 256) (hb : b < 256) (hv : Chk.sixteen l = a + 256 * b) :
    decodeO_D m (nI (fst8 p :: (l ++ [a, b]))) = some (.inl ((((p : Int), 0, 0, 0, 0, 0, false, false, 0, ()), 0, ()), nI l, ())) := by
  rw [decodeO_eq m _ (fst8_lt hp), if_pos (fst8_good hp (by omega))]
  unfold decOB
  have hl2 : ∀ x ∈ l ++ [a, b], x < 256 := by
    intro x hx
    rcases List.mem_append.1 hx with h | h
    · exact hl x h
    · simp only [List.mem_cons, List.not_mem_nil, or_false] at h
      rcases h with rfl | rfl
      · exact ha
      · exact hb
  have hlen : (l ++ [a, b]).length = l.length + 2 := by rw [List.length_append]; rfl
  rw [fst8_mod hp, if_neg (by omega), if_pos hs, if_neg (by omega), ckcheckO_eq m _ hl2 (by omega) (by omega) (by omega), hlen]
  have e0 : l.length + 2 - 2 = l.length := by omega
  have e1 : l.length + 2 - 1 = l.length + 1 := by omega
  have g0 : (l ++ [a, b]).getD l.length 0 = a := by simp [List.getD_eq_getElem?_getD]
  have g1 : (l ++ [a, b]).getD (l.length + 1) 0 = b := by simp [List.getD_eq_getElem?_getD]
  rw [e0, e1, List.take_left, g0, g1, if_pos hv, bnd_some]
  simp only [sumK, if_true]
end Go.Proofs.YtpdbekbobkjfgaaDoor

