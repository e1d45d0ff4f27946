/-
  The contracts of toggles: acknowledged, hear, New.
-/
import Derived.Test.YtphajgehfbimnaaTog2
namespace Go.Proofs.Ytphajgehfbimnaa
open Go.RowKit
set_option linter.unusedVariables false

/-- The rest of a slice, behind its first element. -/
theorem Cells.tail {w : World} {b off : Nat} {x : Value} {xs : List Value} (h : Cells w (some ⟨b, off, none⟩) (x :: xs)) : Cells w (some ⟨b, off + 1, none⟩) xs := by
  intro hx
  obtain ⟨b', off', hh, hc⟩ := h (by simp)
  simp only [Option.some.injEq, Addr.mk.injEq, and_true] at hh
  obtain ⟨rfl, rfl⟩ := hh
  refine ⟨b, off + 1, rfl, fun i v hv => ?_⟩
  have := hc (i + 1) v (by simpa using hv)
  rw [show off + 1 + i = off + (i + 1) from by omega]; exact this

set_option maxRecDepth 100000 in
set_option maxHeartbeats 400000 in
theorem ack_ok (p : Nat) (st rt : Bool) (b off n cap : Nat) (gv : Value) (w : World) (hp : w.heap[p]? = some (.cells #[.bool st, .slice (some ⟨b, off, none⟩) (n + 1) cap, .bool rt, gv] 103)) (h : n + 1 ≤ cap) (hm : cap ≤ 9223372036854775807) :
    Calls Try.prog 44 #[.pointer (some ⟨p, 0, none⟩)] w fun e w' => e = .returned (.tuple #[]) ∧
      w' = (w.setCell ⟨p, 1, none⟩ (.slice (if cap = 1 then some ⟨b, off, none⟩ else some ⟨b, off + 1, none⟩) n (cap - 1))).setCell ⟨p, 0, none⟩ (.bool !st) := by
  obtain ⟨e0, e1, e2, e3, ff, hlt⟩ := blk4 hp
  clear hp
  by_cases hc : cap = 1
  all_goals
    go_enter Try.func44, Try.ntmps44
    go_wp2_with fail
    go_returns
    exact ⟨rfl, rfl⟩

set_option maxRecDepth 100000 in
set_option maxHeartbeats 400000 in
theorem hear_no (p : Nat) (t st rt : Bool) (sv gv bv : Value) (w : World) (hp : w.heap[p]? = some (.cells #[.bool st, sv, .bool rt, gv] 103)) (h : t ≠ rt) :
    Calls Try.prog 43 #[.pointer (some ⟨p, 0, none⟩), .bool t, bv] w fun e w' => e = .returned (.bool false) ∧ w = w' := by
  obtain ⟨e0, e1, e2, e3, ff, hlt⟩ := blk4 hp
  clear hp
  cases t <;> cases rt <;> simp at h
  all_goals
    go_enter Try.func43, Try.ntmps43
    go_wp2_with fail
    go_returns
    exact ⟨rfl, rfl⟩

set_option maxRecDepth 100000 in
set_option maxHeartbeats 1000000 in
theorem new_ok (a : Option Addr) (vs : List Value) (ll : List (List Int)) (cap : Nat) (w : World) (hc : Cells w a vs) (hr : Rows .u8 w vs ll) (hn : vs.length ≤ 4096) (hl : ∀ l ∈ ll, l.length ≤ 1024) :
    Calls Try.prog 32 #[.slice a vs.length cap] w fun e w' => ∃ g us, e = .returned (.tuple #[.agg #[.bool false, .slice (some ⟨g, 0, none⟩) vs.length vs.length], .int .i64 0]) ∧
      w'.ownsRow w.heap.size 32 1 (.slice (some ⟨g, 0, none⟩) vs.length vs.length) vs.length us ∧ OwnRows .u8 5 w.heap.size w' us ll ∧ Below w.heap.size w w' := by
  have Hc := Lib.hid hc; clear hc
  have Hr := Lib.hid hr; clear hr
  have Hl := Lib.hid hl; clear hl
  go_enter Try.func32, Try.ntmps32
  go_wp2_with fail
  have hlen := Rows.length Hr.out
  have Hlen := Lib.hid hlen; clear hlen
  go_loop [12] (fun i => ∃ k : Nat, k ≤ vs.length ∧ i = .int .i64 k) (fun i => vs.length - (intOf i).toNat)
  case atStart => exact ⟨0, by omega, rfl⟩
  case round =>
    obtain ⟨k, hk, rfl⟩ := hrel
    by_cases hlt : k < vs.length
    · obtain ⟨b, off, v, rfl, hv, hcv, hbv⟩ := Hc.out.getV hlt
      obtain ⟨l, hl, ao, cv, rfl, h1, h2, h3, hcells⟩ := Rows.get Hr.out hv
      have hlm := Hl.out l (List.mem_of_getElem? hl)
      clear hv hl h1 h2 h3 hcells
      go_wp2_with fail
      go_round
      case rel => exact ⟨k + 1, by omega, by go_num⟩
      case measure => simp [intOf]; omega
    · have hkl : k = vs.length := by omega
      subst hkl
      clear hlt hk
      go_wp2_with fail
      refine (copies_ok a vs ll cap _ (Hc.out.below (by go_grown)) (Rows.below (by go_grown) Hr.out) (by omega) (fun l hl => by have := Hl.out l hl; omega)).mono ?_
      rintro e w1 ⟨rfl, us, o1, r1, b1⟩
      have K0 := kb b1 (blk_new w _)
      obtain ⟨e0, e1, ff, hlt⟩ := blk2 K0
      have hB1 : Below w.heap.size w w1 := Below.trans (by go_grown) (b1.mono (by go_size))
      simp only [World.size_alloc] at o1 r1
      have hs1 := hB1.size
      clear b1 K0
      go_wp2_with fail
      refine bodyPost_ret ?_ rfl ⟨w.heap.size + 1, us, rfl, ?_, ?_, ?_⟩
      · simp [results, Try.results32, go_sem, e0, e1]
      · exact own_base (ownsRow_setCell_below (ownsRow_setCell_below o1 (by simp) _) (by simp) _) (by omega)
      · exact OwnRows.base (by omega) (OwnRows.setBelow (by simp; omega) _ (OwnRows.setBelow (by simp; omega) _ r1))
      · exact (hB1.setCell (by simp) _).setCell (by simp) _

set_option maxRecDepth 100000 in
set_option maxHeartbeats 400000 in
theorem new_many (a : Option Addr) (n cap : Nat) (w : World) (hn : 4096 < n) (hm : n ≤ 9223372036854775807) :
    Calls Try.prog 32 #[.slice a n cap] w fun e w' => e = .returned (.tuple #[.agg #[.bool false, .slice none 0 0], .int .i64 3]) ∧ Below w.heap.size w w' := by
  go_enter Try.func32, Try.ntmps32
  go_wp2_with fail
  refine bodyPost_ret ?_ rfl ⟨rfl, by go_grown⟩
  simp [results, Try.results32, go_sem]
end Go.Proofs.Ytphajgehfbimnaa
