/-
  The law's helper lists (plugboardlaw05) once more: it only reads.
-/
import Derived.Test.YtphajgehfbimnaaTog9
namespace Go.Proofs.Ytphajgehfbimnaa
open Go.RowKit
set_option linter.unusedVariables false

/-- Nothing but draws has happened. -/
def Drawn (w w' : World) : Prop := ∃ n, w' = w.drewN n
theorem Drawn.refl (w : World) : Drawn w w := ⟨0, rfl⟩
theorem Drawn.drewN {w w' : World} (h : Drawn w w') (n : Nat) : Drawn w (w'.drewN n) := by
  obtain ⟨m, rfl⟩ := h; exact ⟨m + n, World.drewN_drewN _ _ _⟩
theorem Drawn.below {w w' : World} (h : Drawn w w') : Below w.heap.size w w' := by
  obtain ⟨m, rfl⟩ := h; exact drewN_below (Below.refl _ _)

set_option maxRecDepth 100000 in
set_option maxHeartbeats 1000000 in
theorem lists_quiet (a a' : Option Addr) (vs vs' : List Value) (ll : List (List Int)) (cap cap' : Nat) (w : World) (hc : Cells w a vs) (hr : Rows .u8 w vs ll) (hc' : Cells w a' vs') (hr' : Rows .u8 w vs' ll) (hn : vs.length ≤ 1000000) :
    Calls Try.prog 30 #[.slice a vs.length cap, .slice a' vs'.length cap'] w fun e w' => e = .returned (.int .i64 0) ∧ Drawn w w' := by
  have Hc := Lib.hid hc; clear hc
  have Hr := Lib.hid hr; clear hr
  have Hc' := Lib.hid hc'; clear hc'
  have Hr' := Lib.hid hr'; clear hr'
  have hlen : vs'.length = vs.length := by rw [Rows.length Hr.out, Rows.length Hr'.out]
  have Hlen := Lib.hid hlen
  rw [hlen]
  clear hlen
  go_enter Try.func30, Try.ntmps30
  go_wp2_with fail
  go_loopw [5] (fun i wr => ∃ k : Nat, k ≤ vs.length ∧ i = .int .i64 k ∧ Drawn w wr) (fun i _ => vs.length - (intOf i).toNat)
  case atStart => exact ⟨0, by omega, rfl, Drawn.refl _⟩
  case round =>
    obtain ⟨k, hk, rfl, hD⟩ := hrel
    have hB := hD.below
    have HD := Lib.hid hD; clear hD
    by_cases hlt : k < vs.length
    · obtain ⟨b, off, v, rfl, hv, hcv, hbv⟩ := (Hc.out.below hB).getV hlt
      obtain ⟨b', off', v', rfl, hv', hcv', hbv'⟩ := (Hc'.out.below hB).getV (by rw [Hlen.out]; exact hlt)
      obtain ⟨l, hl, ao, cv, rfl, h1, h2, h3, hcells⟩ := (Rows.below hB Hr.out).get hv
      obtain ⟨l', hl', ao', cv', rfl, h1', h2', h3', hcells'⟩ := (Rows.below hB Hr'.out).get hv'
      obtain rfl : l = l' := by rw [hl] at hl'; simpa using hl'
      have s1 : ∀ n, (convert 32 9 (.slice ao l.length cv)).run Try.prog (wr.drewN n) = .ok (.string (strOfNums l)) (wr.drewN n) := fun n => run_str Try.underlying32 Try.underlying5 Try.underlying9 (hcells.below (drewN_below (Below.refl _ _))) rfl h3
      have s2 : ∀ n, (convert 32 9 (.slice ao' l.length cv')).run Try.prog (wr.drewN n) = .ok (.string (strOfNums l)) (wr.drewN n) := fun n => run_str Try.underlying32 Try.underlying5 Try.underlying9 (hcells'.below (drewN_below (Below.refl _ _))) rfl h3'
      have HB := Lib.hid hB
      clear hv hv' hl hl' h1 h2 h3 h1' h2' h3' hcells hcells' hB
      go_wp2_with fail
      go_quiet (fail)
      go_wp2_with fail
      go_roundw
      case rel => exact ⟨k + 1, by omega, by go_num, HD.out.drewN _⟩
      case measure => simp [intOf]; omega
    · have hkl : k = vs.length := by omega
      subst hkl
      go_wp2_with fail
      go_returns
      exact ⟨rfl, HD.out⟩


theorem listsQ (a a' : Option Addr) (n n' cap cap' : Nat) (ll : List (List Int)) (w : World) (h : LL w a n cap ll) (h' : LL w a' n' cap' ll) (hn : ll.length ≤ 1000000) :
    Calls Try.prog 30 #[.slice a n cap, .slice a' n' cap'] w fun e w' => e = .returned (.int .i64 0) ∧ Drawn w w' := by
  have hlen := h.len
  obtain ⟨vs, h1, h2, h3, h4, h5, h6⟩ := h
  obtain ⟨us, g1, g2, g3, g4, g5, g6⟩ := h'
  subst h1 g1
  exact lists_quiet a a' vs us ll cap cap' w h5 h6 g5 g6 (by omega)
end Go.Proofs.Ytphajgehfbimnaa
