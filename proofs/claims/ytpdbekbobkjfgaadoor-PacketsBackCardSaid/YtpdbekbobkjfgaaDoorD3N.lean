/-
  The statement PacketsBack: the law's function, out of Encode, Decode and the reference's Encode.
  Conditions: none.
-/
import Derived.Test.YtpdbekbobkjfgaaDoorD3Z
import Derived.Test.YtpdbekbobkjfgaaDoorD3M
namespace Go.Proofs.YtpdbekbobkjfgaaDoor
set_option linter.unusedVariables false
set_option linter.unusedSimpArgs false
set_option maxRecDepth 100000
set_option maxHeartbeats 2000000

theorem back_fin (m : Nat) (hm : 10000 ≤ m) (x : Int × Int × Int × Int × Int × List Int × Unit) (p A E F H Q K : Int) (C B : Bool) (d : List Int) (L : List Nat) (hd : d.length ≤ 300)
    (h0 : pkt_D m x = some ((p, A, E, F, H, Q, C, B, K, d, ()), ()))
    (h1 : encode_D m (p, A, E, F, H, Q, C, B, K, d, ()) = some ((nI L, 0, ()), ()))
    (h2 : decodeO_D m (nI L) = some (.inl (((p, A, E, F, H, Q, C, B, K, ()), 0, ()), d, ())) ∨ (decodeO_D m (nI L) = some (.inr (((p, A, E, F, H, Q, C, B, K, ()), 0, ()), ())) ∧ d = []))
    (h3 : rencode_D m (p, A, E, F, H, Q, C, B, K, d, ()) = some (nI L, ())) : backL_D m x = some (true, ()) := by
  unfold backL_D
  cases decide ((300 : Int) < (↑(List.length x.snd.snd.snd.snd.snd.fst) : Int))
  case true => rfl
  rw [cond_false, h0, bnd_some, h1, bnd_some]
  have lv : lives3_D m = some (true, ()) := rfl
  have hl := backL_L0_eq m (nI L) (Go.strOfNums (nI L)) (p, A, E, F, H, Q, C, B, K, d, ()) p A E F H Q C B K m 0 d (by omega) (by omega) (by omega)
  rw [show ((0 : Nat) : Int) = 0 from rfl] at hl
  unfold backL_J0
  rcases h2 with h2 | ⟨h2, rfl⟩
  · simp only [h2, bnd_some, sumK]
    unfold backL_J1
    simp [hl, bnd_some]
    unfold backL_J2
    simp [h3, lv, bnd_some]
  · simp only [h2, bnd_some, sumK]
    unfold backL_J1
    simp [hl, bnd_some]
    unfold backL_J2
    simp [h3, lv, bnd_some]
end Go.Proofs.YtpdbekbobkjfgaaDoor

