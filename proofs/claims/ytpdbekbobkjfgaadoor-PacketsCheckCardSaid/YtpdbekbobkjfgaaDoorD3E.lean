/-
  The statement PacketsBack: Encode.
  Conditions: none.
-/
import Derived.Test.YtpdbekbobkjfgaaDoorD3C
import Derived.Test.YtpdbekbobkjfgaaDoorD3W
namespace Go.Proofs.YtpdbekbobkjfgaaDoor
set_option linter.unusedVariables false
set_option linter.unusedSimpArgs false
set_option maxRecDepth 100000
set_option maxHeartbeats 2000000

theorem pkOk0 (m p : Nat) (hp : p < 16) (hs : shv p ≠ 0) (A E F H P K : Int) (C L : Bool) (D : List Int) (h2 : shv p = 2 ∨ (A = 0 ∧ E = 0)) (hA0 : 0 ≤ A) (hA : A ≤ 127) (hE0 : 0 ≤ E) (hE : E ≤ 15) (h3 : shv p = 3 ∨ F = 0) (hF0 : 0 ≤ F) (hF : F ≤ 2047)
    (h4 : shv p = 4 ∨ (H = 0 ∧ P = 0 ∧ C = false ∧ L = false ∧ K = 0)) (hH0 : 0 ≤ H) (hH : H ≤ 127) (hP0 : 0 ≤ P) (hP : P ≤ 127) (hK0 : 0 ≤ K) (hK : K ≤ 3) (h5 : shv p = 5 ∨ D = []) (hD : D.length ≤ 1024) :
    pkCheck_D m ((p : Int), A, E, F, H, P, C, L, K, D, ()) = some (0, ()) := by
  rw [chk_same m _ A E F H P K C L D hA0 (by omega) hE0 (by omega) hF0 (by omega) hH0 (by omega) hP0 (by omega) hK0 (by omega)]
  exact rfCheck_ok0 m p hp hs A E F H P K C L D h2 hA hE h3 hF h4 hH hP hK h5 hD
theorem encP (m p : Nat) (hp : p < 16) (hs : shv p = 1) : encode_D m ((p : Int), 0, 0, 0, 0, 0, false, false, 0, [], ()) = some ((nI [p + 16 * (15 - p)], 0, ()), ()) := by
  unfold encode_D
  rw [pkOk0 m p hp (by omega) 0 0 0 0 0 0 false false [] (.inr ⟨rfl, rfl⟩) (by omega) (by omega) (by omega) (by omega) (.inr rfl) (by omega) (by omega) (.inr ⟨rfl, rfl, rfl, rfl, rfl⟩) (by omega) (by omega) (by omega) (by omega) (by omega) (by omega) (.inr rfl) (by simp), bnd_some]
  simp only [decide_true, Bool.not_true, cond_false, shape_eq m p hp, hs, bnd_some, first_eq m p hp]
  rfl
theorem mk0 (c : Int) (h0 : 0 ≤ c) (h : c ≤ 1000000) : makeOb 1 0 c true = true := by
  unfold makeOb
  simp [maxLen]
  omega
theorem add_nI (m : Nat) (l : List Nat) (hl : ∀ x ∈ l, x < 256) (hn : l.length ≤ 2000) (hm : 2000 < m) : add_D m (nI l) = some (nI (l ++ [Chk.sixteen l % 256, Chk.sixteen l / 256]), ()) := by
  have hs := sixteen_lt l
  unfold add_D
  rw [sixteen_eq m l hl (by omega) (by omega), bnd_some]
  have e : List.replicate (Int.toNat (0 : Int)) (0 : Int) = [] := rfl
  have p8 : (2 : Int) ^ Min.min (Int.toNat (8 : Int)) (Go.IntKind.bits Go.IntKind.u16) = 256 := by decide
  have d8 : Int.fdiv ((Chk.sixteen l : Nat) : Int) 256 = ((Chk.sixteen l / 256 : Nat) : Int) := fd (Chk.sixteen l) 256
  simp only [nI_len, e, List.nil_append, List.length_nil, Nat.zero_add, List.length_cons, p8, d8]
  rw [mk0 _ (by rw [wi64 (by omega) (by omega)]; omega) (by rw [wi64 (by omega) (by omega)]; omega), cond_true, gr1 _ (by omega), cond_true, gr1 _ (by omega), cond_true, w8m, w8 (x := ((Chk.sixteen l / 256 : Nat) : Int)) (by omega) (by omega)]
  rw [show (((Chk.sixteen l : Nat) : Int) % 256) = ((Chk.sixteen l % 256 : Nat) : Int) by omega, ← nI_app]
  rfl
theorem encD5 (m p : Nat) (hp : p < 16) (hs : shv p = 5) (l : List Nat) (hl : ∀ x ∈ l, x < 256) (hn : l.length ≤ 1024) (hm : 2000 < m) :
    encode_D m ((p : Int), 0, 0, 0, 0, 0, false, false, 0, nI l, ()) = some ((nI ((p + 16 * (15 - p)) :: (l ++ [Chk.sixteen l % 256, Chk.sixteen l / 256])), 0, ()), ()) := by
  unfold encode_D
  rw [pkOk0 m p hp (by omega) 0 0 0 0 0 0 false false (nI l) (.inr ⟨rfl, rfl⟩) (by omega) (by omega) (by omega) (by omega) (.inr rfl) (by omega) (by omega) (.inr ⟨rfl, rfl, rfl, rfl, rfl⟩) (by omega) (by omega) (by omega) (by omega) (by omega) (by omega) (.inl hs) (by rw [nI_len]; exact hn), bnd_some]
  have e : List.replicate (Int.toNat (0 : Int)) (0 : Int) = [] := rfl
  simp only [decide_true, Bool.not_true, cond_false, shape_eq m p hp, hs, bnd_some, first_eq m p hp, add_nI m l hl (by omega) hm, nI_len, e, List.nil_append, show decide (((5 : Nat) : Int) = 1) = false from rfl, show decide (((5 : Nat) : Int) = 5) = true from rfl, cond_true]
  rw [mk0 _ (by rw [wi64 (by omega) (by omega)]; omega) (by rw [wi64 (by omega) (by omega)]; omega), cond_true, gr1 _ (by simp only [List.length_append, List.length_cons, List.length_nil]; omega), cond_true]
  rfl
end Go.Proofs.YtpdbekbobkjfgaaDoor

