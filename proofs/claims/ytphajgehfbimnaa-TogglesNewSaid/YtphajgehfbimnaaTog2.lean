/-
  The contracts of the parts of package toggles: Clip, beginning, copied, acknowledged, hear, New.
-/
import Derived.Test.YtphajgehfbimnaaTog1
import Derived.Deep.RegionHeld3
namespace Go.Proofs.Ytphajgehfbimnaa
open Go.RowKit
set_option linter.unusedVariables false

set_option maxRecDepth 100000 in
set_option maxHeartbeats 400000 in
theorem clip_ok (a : Option Addr) (n cap : Nat) (w : World) (h : n ≤ cap) (hm : cap ≤ 9223372036854775807) :
    Calls Try.prog 48 #[.slice a n cap] w fun e w' => e = .returned (.slice a n n) ∧ w = w' := by
  cases a
  all_goals
    go_enter Try.func48, Try.ntmps48
    go_wp2_with fail
    go_returns
    exact ⟨rfl, rfl⟩

set_option maxRecDepth 100000 in
set_option maxHeartbeats 400000 in
theorem begin_ok (st rt : Bool) (sv : Value) (a : Option Addr) (n cap : Nat) (w : World) (h : n ≤ cap) (hm : cap ≤ 9223372036854775807) :
    Calls Try.prog 42 #[.agg #[.bool st, sv], .agg #[.bool rt, .slice a n cap]] w fun e w' => e = .returned (.pointer (some ⟨w.heap.size + 2, 0, none⟩)) ∧
      w'.heap[w.heap.size + 2]? = some (.cells #[.bool st, sv, .bool rt, .slice a n n] 103) ∧ Below w.heap.size w w' := by
  go_enter Try.func42, Try.ntmps42
  go_wp2_with (go_at_call 48; refine (clip_ok _ _ _ _ h hm).mono ?_; rintro e w1 ⟨rfl, rfl⟩)
  go_returns
  exact ⟨rfl, blk_new' (by simp), by go_grown⟩

/-- What 'copied' leaves: copies of both lists, in new memory. -/
def Copied (w : World) (lv gv : Value) (n m : Nat) (ls gs : List (List Int)) (w' : World) : Prop :=
  ∃ us vs, w'.ownsRow w.heap.size 32 1 lv n us ∧ OwnRows .u8 5 w.heap.size w' us ls ∧ w'.ownsRow w.heap.size 32 1 gv m vs ∧ OwnRows .u8 5 w.heap.size w' vs gs ∧ Below w.heap.size w w'

set_option maxRecDepth 100000 in
set_option maxHeartbeats 2000000 in
theorem copied_ok (p : Nat) (st rt : Bool) (a a' : Option Addr) (us vs : List Value) (ls gs : List (List Int)) (cap cap' : Nat) (w : World)
    (hp : w.heap[p]? = some (.cells #[.bool st, .slice a us.length cap, .bool rt, .slice a' vs.length cap'] 103))
    (hc : Cells w a us) (hr : Rows .u8 w us ls) (hc' : Cells w a' vs) (hr' : Rows .u8 w vs gs) (hn : us.length ≤ 1000000) (hl : ∀ l ∈ ls, l.length ≤ 1000000) (hn' : vs.length ≤ 1000000) (hl' : ∀ l ∈ gs, l.length ≤ 1000000) :
    Calls Try.prog 45 #[.pointer (some ⟨p, 0, none⟩)] w fun e w' => ∃ x y, e = .returned (.tuple #[.agg #[.bool st, .slice (some ⟨x, 0, none⟩) us.length us.length], .agg #[.bool rt, .slice (some ⟨y, 0, none⟩) vs.length vs.length]]) ∧
      Copied w (.slice (some ⟨x, 0, none⟩) us.length us.length) (.slice (some ⟨y, 0, none⟩) vs.length vs.length) us.length vs.length ls gs w' := by
  have Hc := Lib.hid hc; clear hc
  have Hr := Lib.hid hr; clear hr
  have Hl := Lib.hid hl; clear hl
  have Hc' := Lib.hid hc'; clear hc'
  have Hr' := Lib.hid hr'; clear hr'
  have Hl' := Lib.hid hl'; clear hl'
  obtain ⟨e0, e1, e2, e3, ff, hlt⟩ := blk4 hp
  have HP := Lib.hid hp; clear hp
  go_enter Try.func45, Try.ntmps45
  go_wp2_with fail
  go_region_held3 (fun w' => w'.cell? ⟨p, 0, none⟩ = some (.bool st) ∧ w'.cell? ⟨p, 1, none⟩ = some (.slice a us.length cap) ∧ w'.cell? ⟨p, 2, none⟩ = some (.bool rt) ∧ w'.cell? ⟨p, 3, none⟩ = some (.slice a' vs.length cap'))
    (first
      | ((repeat' apply And.intro) <;> go_cell_look)
      | go_keep)
    (first
      | (go_at_call_of 46 a; refine (copies_ok a us ls cap _ (Hc.out.below (by go_grown)) (Rows.below (by go_grown) Hr.out) hn Hl.out).mono ?_; rintro e w1 ⟨rfl, us1, o1, r1, b1⟩; have hB1 : Below w.heap.size w w1 := Below.trans (by go_grown) (b1.mono (by go_size)); have K0 := kb b1 (blk_old (blk_new w (.cells #[.bool false, .slice none 0 0] 55))); have K1 := kb b1 (blk_new (w.alloc (.cells #[.bool false, .slice none 0 0] 55)) (.cells #[.bool false, .slice none 0 0] 57)); simp only [World.size_alloc] at K1; have KP := kb b1 (blk_old (blk_old HP.out)); obtain ⟨p0, p1, p2, p3, pf, pl⟩ := blk4 KP)
      | (go_at_call_of 46 a'; refine (copies_ok a' vs gs cap' _ (Hc'.out.below hB1) (Rows.below hB1 Hr'.out) hn' Hl'.out).mono ?_; rintro e w2 ⟨rfl, us2, o2, r2, b2⟩; replace K0 := kb b2 K0; replace K1 := kb b2 K1; obtain ⟨m0, m1, mf, ml⟩ := blk2 K0; obtain ⟨n0, n1, nf, nl⟩ := blk2 K1; replace KP := kb b2 KP; obtain ⟨q0, q1, q2, q3, qf, ql⟩ := blk4 KP))
  go_wp2_with fail
  have hw2 := (hB1.trans (b2.mono hB1.size)).size
  have hs1 := b1.size
  simp only [World.size_drew, World.size_alloc] at hs1 o1 r1
  refine bodyPost_ret ?_ rfl ⟨w.heap.size + 1 + 1, w1.heap.size, rfl, us1, us2, ?_, ?_, ?_, ?_, ?_⟩
  · simp [results, Try.results45, go_sem, m0, m1, n0, n1]
  · exact own_base (ownsRow_setCell_below (ownsRow_setCell_below (ownsRow_setCell_below (ownsRow_setCell_below (ownsRow_below o1 b2) (by first | (simp; done) | (simp; omega)) _) (by first | (simp; done) | (simp; omega)) _) (by first | (simp; done) | (simp; omega)) _) (by first | (simp; done) | (simp; omega)) _) (by omega)
  · exact OwnRows.base (by omega) (OwnRows.setBelow (by first | (simp; done) | (simp; omega)) _ (OwnRows.setBelow (by first | (simp; done) | (simp; omega)) _ (OwnRows.setBelow (by first | (simp; done) | (simp; omega)) _ (OwnRows.setBelow (by first | (simp; done) | (simp; omega)) _ (OwnRows.below b2 r1)))))
  · exact own_base (ownsRow_setCell_below (ownsRow_setCell_below (ownsRow_setCell_below (ownsRow_setCell_below o2 (by first | (simp; done) | (simp; omega)) _) (by first | (simp; done) | (simp; omega)) _) (by first | (simp; done) | (simp; omega)) _) (by first | (simp; done) | (simp; omega)) _) (by omega)
  · exact OwnRows.base (by omega) (OwnRows.setBelow (by first | (simp; done) | (simp; omega)) _ (OwnRows.setBelow (by first | (simp; done) | (simp; omega)) _ (OwnRows.setBelow (by first | (simp; done) | (simp; omega)) _ (OwnRows.setBelow (by first | (simp; done) | (simp; omega)) _ r2))))
  · have hB2 := hB1.trans (b2.mono hB1.size)
    exact (((hB2.setCell (by first | (simp; done) | (simp; omega)) _).setCell (by first | (simp; done) | (simp; omega)) _).setCell (by first | (simp; done) | (simp; omega)) _).setCell (by first | (simp; done) | (simp; omega)) _
end Go.Proofs.Ytphajgehfbimnaa
