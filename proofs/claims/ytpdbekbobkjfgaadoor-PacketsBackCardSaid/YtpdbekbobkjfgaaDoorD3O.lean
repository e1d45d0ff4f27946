/-
  The statement PacketsBack: the kinds of packets.
  Conditions: none.
-/
import Derived.Test.YtpdbekbobkjfgaaDoorD3N
namespace Go.Proofs.YtpdbekbobkjfgaaDoor
set_option linter.unusedVariables false
set_option linter.unusedSimpArgs false
set_option maxRecDepth 100000
set_option maxHeartbeats 2000000

theorem back5 (m : Nat) (hm : 10000 ≤ m) (x : Int × Int × Int × Int × Int × List Int × Unit) (p : Nat) (hp : p < 16) (hs : shv p = 5) (l : List Nat) (hl : ∀ x ∈ l, x < 256) (hn : l.length ≤ 300)
    (h0 : pkt_D m x = some (((p : Int), 0, 0, 0, 0, 0, false, false, 0, nI l, ()), ())) : backL_D m x = some (true, ()) := by
  have hsl := sixteen_lt l
  have hsum : Chk.sixteen l = Chk.sixteen l % 256 + 256 * (Chk.sixteen l / 256) := by omega
  exact back_fin m hm x _ _ _ _ _ _ _ _ _ _ _ (by rw [nI_len]; exact hn) h0 (encD5 m p hp hs l hl (by omega) (by omega))
    (.inl (decO_D m hm p hp hs l hl (by omega) _ _ (by omega) (by omega) hsum)) (rencode5 m p hp hm hs _ _ _ _ _ _ _ _ l hl (by omega) _ _ (by omega) (by omega) hsum)
theorem back1 (m : Nat) (hm : 10000 ≤ m) (x : Int × Int × Int × Int × Int × List Int × Unit) (p : Nat) (hp : p < 16) (hs : shv p = 1)
    (h0 : pkt_D m x = some (((p : Int), 0, 0, 0, 0, 0, false, false, 0, [], ()), ())) : backL_D m x = some (true, ()) :=
  back_fin m hm x _ _ _ _ _ _ _ _ _ _ _ (by simp) h0 (encP m p hp hs) (.inr ⟨decO_P m p hp hs, rfl⟩) (rencode1 m p hp hs _ _ _ _ _ _ _ _ _)
end Go.Proofs.YtpdbekbobkjfgaaDoor

