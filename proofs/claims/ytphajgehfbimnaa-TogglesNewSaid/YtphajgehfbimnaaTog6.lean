/-
  The contracts of toggles' Offer, Acknowledge, Hear, Clear.
-/
import Derived.Test.YtphajgehfbimnaaTog5
namespace Go.Proofs.Ytphajgehfbimnaa
open Go.RowKit
set_option linter.unusedVariables false

/-- A list of packets in new memory. -/
def NewLL (B : Nat) (w' : World) (v : Value) (ll : List (List Int)) : Prop :=
  ∃ us, w'.ownsRow B 32 1 v ll.length us ∧ OwnRows .u8 5 B w' us ll

theorem NewLL.below {B : Nat} {w w' : World} {v : Value} {ll : List (List Int)} (h : NewLL B w v ll) (hb : Below w.heap.size w w') : NewLL B w' v ll := by
  obtain ⟨us, h1, h2⟩ := h
  exact ⟨us, ownsRow_below h1 hb, OwnRows.below hb h2⟩
theorem NewLL.base {B B' : Nat} {w : World} {v : Value} {ll : List (List Int)} (h : NewLL B w v ll) (hb : B' ≤ B) : NewLL B' w v ll := by
  obtain ⟨us, h1, h2⟩ := h
  exact ⟨us, own_base h1 hb, OwnRows.base hb h2⟩
theorem NewLL.alloc {B : Nat} {w : World} {v : Value} {ll : List (List Int)} (h : NewLL B w v ll) (o : Obj) : NewLL B (w.alloc o) v ll := h.below ((Below.refl _ w).alloc (Nat.le_refl _) o)
theorem NewLL.drew {B : Nat} {w : World} {v : Value} {ll : List (List Int)} (h : NewLL B w v ll) : NewLL B w.drew v ll := h.below (drewN_below (n := 1) (Below.refl _ w))
theorem NewLL.setBelow {B : Nat} {w : World} {v : Value} {ll : List (List Int)} {a : Addr} (h : NewLL B w v ll) (ha : a.block < B) (u : Value) : NewLL B (w.setCell a u) v ll := by
  obtain ⟨us, h1, h2⟩ := h
  exact ⟨us, ownsRow_setCell_below h1 ha u, OwnRows.setBelow ha u h2⟩

set_option maxRecDepth 100000 in
set_option maxHeartbeats 400000 in
theorem offer_none (t : Bool) (a : Option Addr) (cap : Nat) (w : World) :
    Calls Try.prog 34 #[.agg #[.bool t, .slice a 0 cap]] w fun e w' => e = .returned (.tuple #[.slice none 0 0, .bool false, .bool false]) ∧ Below w.heap.size w w' := by
  go_enter Try.func34, Try.ntmps34
  go_wp2_with fail
  go_returns
  exact ⟨rfl, by go_grown⟩

set_option maxRecDepth 100000 in
set_option maxHeartbeats 1000000 in
theorem offer_ok (t : Bool) (b off : Nat) (x : Value) (vs : List Value) (l : List Int) (cap : Nat) (w : World) (hc : Cells w (some ⟨b, off, none⟩) (x :: vs)) (hr : RowIs .u8 w x l) (hl : l.length ≤ 1000000) (hcap : vs.length + 1 ≤ cap) (hm : cap ≤ 9223372036854775807) :
    Calls Try.prog 34 #[.agg #[.bool t, .slice (some ⟨b, off, none⟩) (vs.length + 1) cap]] w fun e w' => ∃ v, e = .returned (.tuple #[v, .bool t, .bool true]) ∧ w'.ownsRow w.heap.size 5 1 v l.length (l.map (.int .u8)) ∧ Below w.heap.size w w' := by
  have Hc := Lib.hid hc; clear hc
  have Hr := Lib.hid hr; clear hr
  have hcapI : (1 : Int) ≤ (cap : Int) := by omega
  have hcapJ : (1 : Int) ≤ ((vs.length + 1 : Nat) : Int) := by omega
  go_enter Try.func34, Try.ntmps34
  go_wp2_with fail
  go_region_with ((go_at_call 46; refine (copies_ok (some ⟨b, off, none⟩) [x] [l] cap _ (Cells.below (Cells.front (ys := vs) (by simpa using Hc.out)) (by go_grown)) ⟨Hr.out.below (by go_grown), trivial⟩ (by simp) (by simpa using hl)).mono ?_; rintro e w1 ⟨rfl, us, o1, r1, b1⟩; have K0 := kb b1 (blk_new w (.cells #[.bool t, .slice (some ⟨b, off, none⟩) (vs.length + 1) cap] 55)); obtain ⟨k0, k1, kf0, kl⟩ := blk2 K0; obtain ⟨v, rfl⟩ : ∃ v, us = [v] := (by have := Rows.length (OwnRows.rows r1); match us, this with | [v], _ => exact ⟨v, rfl⟩); have hv := (own_cells o1).getV (k := 0) (by simp); obtain ⟨b', off', v', hb', hv', hc', hl'⟩ := hv; simp at hb' hv'; obtain ⟨rfl, rfl⟩ := hb'; subst hv'))
  all_goals
    go_wp2_with fail
    go_returns
    have hB1 : Below w.heap.size w w1 := Below.trans (by go_grown) (b1.mono (by simp))
    exact ⟨v, rfl, own_base r1.1 (by simp; omega), by first | exact hB1 | go_grown⟩

set_option maxRecDepth 100000 in
set_option maxHeartbeats 400000 in
theorem acknowledge_none (t : Bool) (a : Option Addr) (cap : Nat) (w : World) :
    Calls Try.prog 35 #[.agg #[.bool t, .slice a 0 cap]] w fun e w' => e = .returned (.tuple #[.agg #[.bool false, .slice none 0 0], .int .i64 7]) ∧ Below w.heap.size w w' := by
  go_enter Try.func35, Try.ntmps35
  go_wp2_with fail
  refine bodyPost_ret ?_ rfl ⟨rfl, by go_grown⟩
  simp [results, Try.results35, go_sem]

set_option maxRecDepth 100000 in
set_option maxHeartbeats 1000000 in
theorem acknowledge_ok (t : Bool) (b off : Nat) (x : Value) (vs : List Value) (l : List Int) (ll : List (List Int)) (cap : Nat) (w : World) (hc : Cells w (some ⟨b, off, none⟩) (x :: vs)) (hr : Rows .u8 w (x :: vs) (l :: ll)) (hn : vs.length ≤ 100000) (hl : ∀ l ∈ ll, l.length ≤ 1000000)
    (hcap : vs.length + 1 ≤ cap) (hm : cap ≤ 9223372036854775807) :
    Calls Try.prog 35 #[.agg #[.bool t, .slice (some ⟨b, off, none⟩) (vs.length + 1) cap]] w fun e w' => ∃ g, e = .returned (.tuple #[.agg #[.bool !t, .slice (some ⟨g, 0, none⟩) vs.length vs.length], .int .i64 0]) ∧ NewLL w.heap.size w' (.slice (some ⟨g, 0, none⟩) vs.length vs.length) ll ∧ Below w.heap.size w w' := by
  have Hc := Lib.hid hc; clear hc
  have Hr := Lib.hid hr; clear hr
  have Hl := Lib.hid hl; clear hl
  go_enter Try.func35, Try.ntmps35
  go_wp2_with (go_at_call 42; refine (begin_ok _ _ _ _ _ _ _ (Nat.zero_le _) (by omega)).mono ?_; rintro e w1 ⟨rfl, KP, b1⟩; have hb1 : Below w.heap.size w w1 := Below.trans (by go_grown) (b1.mono (by go_size)); have K1 := kb b1 (blk_new (w.alloc (.cells #[.bool t, .slice (some ⟨b, off, none⟩) (vs.length + 1) cap] 55)) (.cells #[.bool false, .slice none 0 0] 55)); simp only [World.size_alloc] at KP K1; clear b1)
  refine (ack_ok _ t false b off vs.length cap _ _ KP hcap hm).mono ?_
  rintro e w2 ⟨rfl, HW⟩
  have fr1 := Fr.setCell (S := fun k => k = w.heap.size + 1 + 1 + 2) w1 ⟨w.heap.size + 1 + 1 + 2, 1, none⟩ (.slice (if cap = 1 then some ⟨b, off, none⟩ else some ⟨b, off + 1, none⟩) vs.length (cap - 1)) rfl
  have fr2 := fr1.trans (Fr.setCell (S := fun k => k = w.heap.size + 1 + 1 + 2) _ ⟨w.heap.size + 1 + 1 + 2, 0, none⟩ (.bool !t) rfl)
  have KP2 := blk_set (o := 0) (blk_set (o := 1) KP (.slice (if cap = 1 then some ⟨b, off, none⟩ else some ⟨b, off + 1, none⟩) vs.length (cap - 1))) (.bool !t)
  have hs1 : w.heap.size + 1 + 1 + 2 < w1.heap.size := (Array.getElem?_eq_some_iff.1 KP).1
  rw [← HW] at fr2 KP2
  clear HW fr1
  have hB2 : Below w.heap.size w w2 := hb1.trans (fr2.below (by omega) (fun k hk => by omega))
  have K2 := fr2.kb K1 (by omega)
  simp at KP2
  clear fr2 KP K1 hb1
  generalize hal : (if cap = 1 then some (⟨b, off, none⟩ : Addr) else some ⟨b, off + 1, none⟩) = al at KP2
  have hcal : Cells w al vs := by
    by_cases h1 : cap = 1
    · have : vs = [] := by
        cases vs with
        | nil => rfl
        | cons y ys => simp only [List.length_cons] at hcap; omega
      subst this; exact Cells.nil _ _
    · rw [← hal, if_neg h1]; exact Hc.out.tail
  clear hal
  replace hcal := Lib.hid hcal
  go_wp2_with fail
  refine (copied_ok _ (!t) false al none vs [] ll [] (cap - 1) 0 _ KP2 (hcal.out.below hB2) (Rows.below hB2 Hr.out.2) (Cells.nil _ _) trivial (by omega) Hl.out (by simp) (by simp)).mono ?_
  rintro e w5 ⟨x, y, rfl, cus, cvs, o1, o2, o3, o4, hb5⟩
  have hlen := Rows.length Hr.out.2
  replace K2 := kb hb5 K2
  have hB5 := hB2.trans (hb5.mono hB2.size)
  have hz2 : w.heap.size + 1 < w2.heap.size := by have := (Array.getElem?_eq_some_iff.1 KP2).1; omega
  clear KP2 o3 o4
  obtain ⟨m0, m1, mf, ml⟩ := blk2 K2
  have hN : NewLL w.heap.size w5 (.slice (some ⟨x, 0, none⟩) vs.length vs.length) ll := ⟨cus, by rw [← hlen]; exact own_base o1 (by omega), OwnRows.base (by omega) o2⟩
  have hN2 : NewLL w2.heap.size w5 (.slice (some ⟨x, 0, none⟩) vs.length vs.length) ll := ⟨cus, by rw [← hlen]; exact o1, o2⟩
  have Hlen := Lib.hid hlen; clear hlen
  have HN2 := Lib.hid hN2
  clear hN hN2 o1 o2 K2
  have hz0 : w.heap.size < w5.heap.size := by omega
  go_wp2_with fail
  refine bodyPost_ret ?_ rfl ⟨x, rfl, ?_, ?_⟩
  · simp [results, Try.results35, go_sem, m0, m1, hz0, ml]
  · refine NewLL.base (B := w2.heap.size) ?_ (by omega)
    exact ((((HN2.out.setBelow (a := ⟨w.heap.size + 1, 0, none⟩) (by show _ < _; omega) _).setBelow (a := ⟨w.heap.size + 1, 1, none⟩) (by show _ < _; omega) _).alloc _).alloc _)
  · have h5 := hB5.size
    exact (((hB5.setCell (by simp) _).setCell (by simp) _).alloc (by simp; omega) _).alloc (by simp; omega) _

set_option maxRecDepth 100000 in
set_option maxHeartbeats 1000000 in
theorem hear_ok (t rt : Bool) (a : Option Addr) (vs : List Value) (gs : List (List Int)) (cap : Nat) (ba : Option Addr) (l : List Int) (bc : Nat) (w : World) (hc : Cells w a vs) (hr : Rows .u8 w vs gs) (hn : vs.length ≤ 100000) (hl : ∀ l ∈ gs, l.length ≤ 1000000)
    (hcap : vs.length ≤ cap) (hm : cap ≤ 9223372036854775807) (h0 : a = none → cap = 0) (hb : RowIs .u8 w (.slice ba l.length bc) l) (hbl : l.length ≤ 1000000) :
    Calls Try.prog 36 #[.agg #[.bool rt, .slice a vs.length cap], .bool t, .slice ba l.length bc] w fun e w' => ∃ g n, e = .returned (.tuple #[.agg #[.bool (if t = rt then !rt else rt), .slice (some ⟨g, 0, none⟩) n n], .bool (decide (t = rt))]) ∧ NewLL w.heap.size w' (.slice (some ⟨g, 0, none⟩) n n) (if t = rt then gs ++ [l] else gs) ∧ Below w.heap.size w w' := by
  have Hc := Lib.hid hc; clear hc
  have Hr := Lib.hid hr; clear hr
  have Hl := Lib.hid hl; clear hl
  have H0 := Lib.hid h0; clear h0
  have Hb := Lib.hid hb; clear hb
  obtain ⟨rt2, HR2⟩ : ∃ r2, Hid ((if t = rt then !rt else rt) = r2) := ⟨_, Lib.hid rfl⟩
  obtain ⟨got2, HG2⟩ : ∃ got2, Hid ((if t = rt then vs ++ [Value.slice ba l.length bc] else vs) = got2) := ⟨_, Lib.hid rfl⟩
  obtain ⟨gs2, HS2⟩ : ∃ gs2, Hid ((if t = rt then gs ++ [l] else gs) = gs2) := ⟨_, Lib.hid rfl⟩
  obtain ⟨fresh, HF⟩ : ∃ fresh, Hid (decide (t = rt) = fresh) := ⟨_, Lib.hid rfl⟩
  rw [HR2.out, HS2.out, HF.out]
  go_enter Try.func36, Try.ntmps36
  go_wp2_with (go_at_call 42; refine (begin_ok _ _ _ _ _ _ _ hcap hm).mono ?_; rintro e w1 ⟨rfl, KP, b1⟩; have hb1 : Below w.heap.size w w1 := Below.trans (by go_grown) (b1.mono (by go_size)); have K1 := kb b1 (blk_new (w.alloc (.cells #[.bool rt, .slice a vs.length cap] 57)) (.cells #[.bool false, .slice none 0 0] 57)); simp only [World.size_alloc] at KP K1; clear b1)
  refine (hear_any w.heap.size _ false rt t _ _ ba l.length bc a vs vs _ KP (.inl ⟨rfl, rfl⟩) (Hc.out.below hb1) (fun h => by have := H0.out h; omega) (by omega) (by omega)).mono ?_
  rintro e w2 ⟨rfl, gv', g1, g2, g3, g4⟩
  rw [HR2.out] at g1
  rw [HG2.out] at g2
  have hrows : Rows .u8 w got2 gs2 := by
    rw [← HG2.out, ← HS2.out]
    split
    · exact Rows.append Hr.out ⟨Hb.out, trivial⟩
    · exact Hr.out
  have hlens : got2.length ≤ 100001 := by
    rw [← HG2.out]; split
    · simp; omega
    · omega
  have hls : ∀ l ∈ gs2, l.length ≤ 1000000 := by
    rw [← HS2.out]; split
    · intro x hx; rcases List.mem_append.1 hx with h | h
      · exact Hl.out x h
      · simp at h; subst h; exact hbl
    · exact Hl.out
  replace hrows := Lib.hid hrows
  replace hls := Lib.hid hls
  have hB2 := hb1.trans g3
  have K2 := g4 _ _ _ _ K1 (by decide) (by omega)
  obtain ⟨ga, gc, rfl, hcg⟩ : ∃ ga gc, gv' = .slice ga got2.length gc ∧ Cells w2 ga got2 := by
    rcases g2 with ⟨h1, h2⟩ | h1
    · subst h2; exact ⟨a, _, h1, Hc.out.below hB2⟩
    · obtain ⟨ga, gc, h2, h3, _, _⟩ := own_view h1; exact ⟨ga, gc, h2, h3⟩
  clear g2 g3 g4 K1 KP hb1
  rw [HF.out]
  replace hcg := Lib.hid hcg
  obtain ⟨e0, e1, ef, el⟩ := blk2 K2
  go_wp2_with fail
  refine (copied_ok _ false rt2 none ga [] got2 [] gs2 0 gc _ g1 (Cells.nil _ _) trivial hcg.out (Rows.below hB2 hrows.out) (by simp) (by simp) (by omega) hls.out).mono ?_
  rintro e w5 ⟨x, y, rfl, cus, cvs, o1, o2, o3, o4, hb5⟩
  have hlen := Rows.length hrows.out
  replace K2 := kb hb5 K2
  have hB5 := hB2.trans (hb5.mono hB2.size)
  have hz2 : w.heap.size + 1 < w2.heap.size := by have := (Array.getElem?_eq_some_iff.1 g1).1; omega
  clear g1 o1 o2 e0 e1 ef el
  obtain ⟨m0, m1, mf, ml⟩ := blk2 K2
  have hN2 : NewLL w2.heap.size w5 (.slice (some ⟨y, 0, none⟩) got2.length got2.length) gs2 := ⟨cvs, by rw [← hlen]; exact o3, o4⟩
  have Hlen := Lib.hid hlen; clear hlen
  have HN2 := Lib.hid hN2
  have HK2 := Lib.hid K2
  clear hN2 o3 o4 K2
  have hz0 : w.heap.size < w5.heap.size := by omega
  go_wp2_with fail
  refine bodyPost_ret ?_ rfl ⟨y, got2.length, rfl, ?_, ?_⟩
  · have KF := blk_set (o := 1) (blk_set (o := 0) (blk_set (o := 1) (blk_set (o := 0) HK2.out (.bool rt2)) (.slice (some ⟨y, 0, none⟩) got2.length got2.length)) (.bool rt2)) (.slice (some ⟨y, 0, none⟩) got2.length got2.length)
    simp at KF
    obtain ⟨f0, f1, -, -⟩ := blk2 KF
    simp [results, Try.results36, go_sem, f0, f1]
  · refine NewLL.base (B := w2.heap.size) ?_ (by omega)
    exact (((HN2.out.setBelow (a := ⟨w.heap.size + 1, 0, none⟩) (by show _ < _; omega) _).setBelow (a := ⟨w.heap.size + 1, 1, none⟩) (by show _ < _; omega) _).setBelow (a := ⟨w.heap.size + 1, 0, none⟩) (by show _ < _; omega) _).setBelow (a := ⟨w.heap.size + 1, 1, none⟩) (by show _ < _; omega) _
  · exact (((hB5.setCell (by simp) _).setCell (by simp) _).setCell (by simp) _).setCell (by simp) _
end Go.Proofs.Ytphajgehfbimnaa
