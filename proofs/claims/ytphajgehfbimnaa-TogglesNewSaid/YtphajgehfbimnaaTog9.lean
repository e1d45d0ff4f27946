/-
  The contracts of package toggles and of the law's helpers once more, told of lists of packets alone.
-/
import Derived.Test.YtphajgehfbimnaaTog8
namespace Go.Proofs.Ytphajgehfbimnaa
open Go.RowKit
set_option linter.unusedVariables false

/-- A slice value that reads as a list of packets. -/
def LL (w : World) (a : Option Addr) (n cap : Nat) (ll : List (List Int)) : Prop :=
  ∃ vs, n = vs.length ∧ n ≤ cap ∧ cap ≤ maxLen ∧ (a = none → cap = 0) ∧ Cells w a vs ∧ Rows .u8 w vs ll

theorem LL.below {w w' : World} {a : Option Addr} {n cap : Nat} {ll : List (List Int)} (h : LL w a n cap ll) (hb : Below w.heap.size w w') : LL w' a n cap ll := by
  obtain ⟨vs, h1, h2, h3, h4, h5, h6⟩ := h
  exact ⟨vs, h1, h2, h3, h4, h5.below hb, Rows.below hb h6⟩
theorem LL.len {w : World} {a : Option Addr} {n cap : Nat} {ll : List (List Int)} (h : LL w a n cap ll) : n = ll.length := by
  obtain ⟨vs, h1, h2, h3, h4, h5, h6⟩ := h
  rw [h1, Rows.length h6]
theorem LL.cap {w : World} {a : Option Addr} {n cap : Nat} {ll : List (List Int)} (h : LL w a n cap ll) : n ≤ cap ∧ cap ≤ 9223372036854775807 := by
  obtain ⟨vs, h1, h2, h3, h4, h5, h6⟩ := h
  unfold maxLen at h3
  exact ⟨h2, by omega⟩
theorem NewLL.ll {B : Nat} {w : World} {a : Option Addr} {n cap : Nat} {ll : List (List Int)} (h : NewLL B w (.slice a n cap) ll) : LL w a n cap ll := by
  obtain ⟨us, h1, h2⟩ := h
  obtain ⟨a', cap', hv, hc, hn1, hn2, hn3⟩ := own_val h1
  simp only [Value.slice.injEq] at hv
  obtain ⟨rfl, rfl, rfl⟩ := hv
  exact ⟨us, own_len h1, hn1, hn2, hn3, hc, OwnRows.rows h2⟩
theorem LL.ofNew {w : World} {a : Option Addr} {n cap : Nat} {ll : List (List Int)} (h : ∃ B, NewLL B w (.slice a n cap) ll) : LL w a n cap ll := h.elim fun _ h => h.ll
theorem NewLL.shape {B : Nat} {w : World} {v : Value} {ll : List (List Int)} (h : NewLL B w v ll) : ∃ a cap, v = .slice a ll.length cap := by
  obtain ⟨us, h1, h2⟩ := h
  obtain ⟨a', cap', hv, -⟩ := own_val h1
  exact ⟨a', cap', hv⟩
theorem LL.nil (w : World) : LL w none 0 0 [] := ⟨[], rfl, Nat.le_refl _, Nat.zero_le _, fun _ => rfl, Cells.nil _ _, trivial⟩

/-- The rest of a list behind its first k packets, as Go cuts it. -/
theorem LL.drop {w : World} {b off n cap : Nat} {ll : List (List Int)} (h : LL w (some ⟨b, off, none⟩) n cap ll) (k : Nat) (hk : k ≤ n) : LL w (some ⟨b, off + k, none⟩) (n - k) (cap - k) (ll.drop k) := by
  obtain ⟨vs, h1, h2, h3, h4, h5, h6⟩ := h
  refine ⟨vs.drop k, by simp [h1], by omega, by omega, by simp, ?_, Rows.drop h6 k⟩
  intro hne
  obtain ⟨b', off', hh, hc⟩ := h5 (by intro e; subst e; simp at hne)
  simp only [Option.some.injEq, Addr.mk.injEq, and_true] at hh
  obtain ⟨rfl, rfl⟩ := hh
  refine ⟨b, off + k, rfl, fun i v hv => ?_⟩
  have := hc (k + i) v (by simpa using hv)
  rw [Nat.add_assoc]; exact this
theorem LL.nilAt {w : World} {a : Option Addr} {n cap : Nat} {ll : List (List Int)} (h : LL w a n cap ll) (hn : n = 0) (a' : Option Addr) (cap' : Nat) (hc : cap' ≤ maxLen) (h0 : a' = none → cap' = 0) : LL w a' 0 cap' [] :=
  ⟨[], rfl, Nat.zero_le _, hc, h0, Cells.nil _ _, trivial⟩

/-- What is left behind a call that gives back one list of packets. -/
theorem newLL (a : Option Addr) (n cap : Nat) (w : World) (ll : List (List Int)) (h : LL w a n cap ll) (hn : ll.length ≤ 4096) (hl : ∀ l ∈ ll, l.length ≤ 1024) :
    Calls Try.prog 32 #[.slice a n cap] w fun e w' => ∃ a' cap', e = .returned (.tuple #[.agg #[.bool false, .slice a' ll.length cap'], .int .i64 0]) ∧ NewLL w.heap.size w' (.slice a' ll.length cap') ll ∧ Below w.heap.size w w' := by
  have hlen := h.len
  obtain ⟨vs, h1, h2, h3, h4, h5, h6⟩ := h
  subst h1
  refine (new_ok a vs ll cap w h5 h6 (by omega) hl).mono ?_
  rintro e w' ⟨g, us, rfl, o1, o2, hb⟩
  exact ⟨some ⟨g, 0, none⟩, _, by rw [← hlen], ⟨us, by rw [← hlen]; exact o1, o2⟩, hb⟩

set_option maxRecDepth 100000 in
set_option maxHeartbeats 1000000 in
theorem newBad (a : Option Addr) (n cap : Nat) (w : World) (ll : List (List Int)) (h : LL w a n cap ll) (hn : ll.length ≤ 4096) (hl : ∃ l ∈ ll, 1024 < l.length) :
    Calls Try.prog 32 #[.slice a n cap] w fun e w' => e = .returned (.tuple #[.agg #[.bool false, .slice none 0 0], .int .i64 3]) ∧ Below w.heap.size w w' := by
  have hlen := h.len
  obtain ⟨vs, h1, h2, h3, h4, hc, hr⟩ := h
  subst h1
  have hv : vs.length ≤ 4096 := by omega
  have Hlen := Lib.hid hlen; clear hlen h2 h3 h4
  have Hc := Lib.hid hc; clear hc
  have Hr := Lib.hid hr; clear hr
  have Hl := Lib.hid hl; clear hl
  go_enter Try.func32, Try.ntmps32
  go_wp2_with fail
  go_loop [12] (fun i => ∃ k : Nat, k ≤ vs.length ∧ i = .int .i64 k ∧ Hid (∀ l ∈ ll.take k, l.length ≤ 1024)) (fun i => vs.length - (intOf i).toNat)
  case atStart => exact ⟨0, by omega, rfl, Lib.hid (by simp)⟩
  case round =>
    obtain ⟨k, hk, rfl, hall⟩ := hrel
    by_cases hlt : k < vs.length
    · obtain ⟨b, off, v, rfl, hv', hcv, hbv⟩ := Hc.out.getV hlt
      obtain ⟨l, hl, ao, cv, rfl, h1, h2, h3, hcells⟩ := Rows.get Hr.out hv'
      have HL := Lib.hid hl
      unfold maxLen at h2
      clear hv' hl h3 hcells
      by_cases hbad : 1024 < l.length
      · go_wp2_with fail
        refine bodyPost_ret ?_ rfl ⟨rfl, by go_grown⟩
        simp [results, Try.results32, go_sem]
      · go_wp2_with fail
        go_round
        case rel => exact ⟨k + 1, by omega, by go_num, Lib.hid (by
          rw [take_snoc HL.out]; intro x hx
          rcases List.mem_append.1 hx with h | h
          · exact hall.out x h
          · simp at h; subst h; omega)⟩
        case measure => simp [intOf]; omega
    · exfalso
      obtain ⟨l, hm, hl⟩ := Hl.out
      have hh := hall.out
      have := Hlen.out
      rw [take_all (by omega)] at hh
      have := hh l hm
      omega

theorem newMany (a : Option Addr) (n cap : Nat) (w : World) (ll : List (List Int)) (h : LL w a n cap ll) (hn : 4096 < ll.length) :
    Calls Try.prog 32 #[.slice a n cap] w fun e w' => e = .returned (.tuple #[.agg #[.bool false, .slice none 0 0], .int .i64 3]) ∧ Below w.heap.size w w' := by
  have hlen := h.len
  have hcap := h.cap
  exact new_many a n cap w (by omega) (by omega)

theorem clearLL (st rt : Bool) (a a' : Option Addr) (n n' cap cap' : Nat) (w : World) (ls gs : List (List Int)) (h : LL w a n cap ls) (h' : LL w a' n' cap' gs) (hn : ls.length ≤ 100000) (hn' : gs.length ≤ 100000) (hl : ∀ l ∈ ls, l.length ≤ 1000000) (hl' : ∀ l ∈ gs, l.length ≤ 1000000) :
    Calls Try.prog 33 #[.agg #[.bool st, .slice a n cap], .agg #[.bool rt, .slice a' n' cap']] w fun e w' => ∃ x c y c', e = .returned (.tuple #[.agg #[.bool false, .slice x ls.length c], .agg #[.bool false, .slice y gs.length c']]) ∧
      NewLL w.heap.size w' (.slice x ls.length c) ls ∧ NewLL w.heap.size w' (.slice y gs.length c') gs ∧ Below w.heap.size w w' := by
  have hlen := h.len
  have hlen' := h'.len
  have hcap' := h'.cap
  obtain ⟨vs, h1, h2, h3, h4, h5, h6⟩ := h
  obtain ⟨us, g1, g2, g3, g4, g5, g6⟩ := h'
  subst h1 g1
  refine (clear_ok st rt a a' vs us ls gs cap cap' w h5 h6 g5 g6 (by omega) (by omega) hl hl' hcap'.1 hcap'.2).mono ?_
  rintro e w' ⟨x, y, rfl, o1, o2, hb⟩
  exact ⟨_, _, _, _, by rw [← hlen, ← hlen'], by rw [← hlen]; exact o1, by rw [← hlen']; exact o2, hb⟩

theorem runLL (st rt : Bool) (a a' ax : Option Addr) (n n' cap cap' capx : Nat) (w : World) (ls gs : List (List Int)) (xs : List (Bool × Bool)) (h : LL w a n cap ls) (h' : LL w a' n' cap' gs) (hx : Cells w ax (exCells xs)) (hn : ls.length ≤ 100000) (hn' : gs.length ≤ 100000) (hnx : xs.length ≤ 100000)
    (hl : ∀ l ∈ ls, l.length ≤ 1000000) (hl' : ∀ l ∈ gs, l.length ≤ 1000000) (st' rt' : Bool) (ls' gs' : List (List Int)) (ht : trun xs (st, ls, rt, gs) = (st', ls', rt', gs')) :
    Calls Try.prog 28 #[.agg #[.bool st, .slice a n cap], .agg #[.bool rt, .slice a' n' cap'], .slice ax xs.length capx] w fun e w' => ∃ x m c y m' c', e = .returned (.tuple #[.agg #[.bool st', .slice x m c], .agg #[.bool rt', .slice y m' c']]) ∧
      NewLL w.heap.size w' (.slice x m c) ls' ∧ NewLL w.heap.size w' (.slice y m' c') gs' ∧ Below w.heap.size w w' := by
  have hlen := h.len
  have hlen' := h'.len
  have hcap := h.cap
  have hcap' := h'.cap
  obtain ⟨vs, h1, h2, h3, h4, h5, h6⟩ := h
  obtain ⟨us, g1, g2, g3, g4, g5, g6⟩ := h'
  subst h1 g1
  refine (run_ok st rt a a' ax vs us ls gs xs cap cap' capx w h5 h6 g5 g6 hx (by omega) (by omega) (by omega) hl hl' hcap.1 hcap.2 hcap'.1 hcap'.2 g4).mono ?_
  rw [ht]
  rintro e w' ⟨x, y, n, m, rfl, us, vs, o1, o2, o3, o4, hb⟩
  have hm := own_len o1
  have hm' := own_len o3
  have hr := Rows.length (OwnRows.rows o2)
  have hr' := Rows.length (OwnRows.rows o4)
  exact ⟨_, _, _, _, _, _, rfl, ⟨us, by rw [← hr, ← hm]; exact o1, o2⟩, ⟨vs, by rw [← hr', ← hm']; exact o3, o4⟩, hb⟩

theorem listsLL (a a' : Option Addr) (n n' cap cap' : Nat) (ll : List (List Int)) (w : World) (h : LL w a n cap ll) (h' : LL w a' n' cap' ll) (hn : ll.length ≤ 1000000) :
    Calls Try.prog 30 #[.slice a n cap, .slice a' n' cap'] w fun e w' => e = .returned (.int .i64 0) ∧ Below w.heap.size w w' := by
  have hlen := h.len
  obtain ⟨vs, h1, h2, h3, h4, h5, h6⟩ := h
  obtain ⟨us, g1, g2, g3, g4, g5, g6⟩ := h'
  subst h1 g1
  exact lists_same a a' vs us ll cap cap' w h5 h6 g5 g6 (by omega)

theorem cloneLL (a : Option Addr) (n cap : Nat) (ll : List (List Int)) (w : World) (h : LL w a n cap ll) (hn : ll.length ≤ 1000000) (hl : ∀ l ∈ ll, l.length ≤ 1000000) :
    Calls Try.prog 27 #[.slice a n cap] w fun e w' => ∃ a' cap', e = .returned (.slice a' ll.length cap') ∧ NewLL w.heap.size w' (.slice a' ll.length cap') ll ∧ Below w.heap.size w w' := by
  have hlen := h.len
  obtain ⟨vs, h1, h2, h3, h4, h5, h6⟩ := h
  subst h1
  refine (clone_ok a vs ll cap w h5 h6 (by omega) hl).mono ?_
  rintro e w' ⟨⟨v, us⟩, rfl, o1, o2, hb⟩
  have hN : NewLL w.heap.size w' v ll := ⟨us, by rw [← hlen]; exact o1, o2⟩
  obtain ⟨a', cap', rfl⟩ := hN.shape
  exact ⟨a', cap', rfl, hN, hb⟩

theorem smallLL (a : Option Addr) (n cap : Nat) (m : Int) (ll : List (List Int)) (w : World) (h : LL w a n cap ll) :
    Calls Try.prog 24 #[.slice a n cap, .int .i64 m] w fun e w' => e = .returned (.bool (smallB ll m)) ∧ w = w' := by
  have hcap := h.cap
  obtain ⟨vs, h1, h2, h3, h4, h5, h6⟩ := h
  subst h1
  exact small_ok a vs ll cap m w h5 h6 (by omega)

theorem hearLL (t rt : Bool) (a ba : Option Addr) (n cap bc : Nat) (gs : List (List Int)) (l : List Int) (w : World) (h : LL w a n cap gs) (hn : gs.length ≤ 100000) (hl : ∀ l ∈ gs, l.length ≤ 1000000) (hb : RowIs .u8 w (.slice ba l.length bc) l) (hbl : l.length ≤ 1000000) :
    Calls Try.prog 36 #[.agg #[.bool rt, .slice a n cap], .bool t, .slice ba l.length bc] w fun e w' => ∃ x m c, e = .returned (.tuple #[.agg #[.bool (if t = rt then !rt else rt), .slice x m c], .bool (decide (t = rt))]) ∧ NewLL w.heap.size w' (.slice x m c) (if t = rt then gs ++ [l] else gs) ∧ Below w.heap.size w w' := by
  have hlen := h.len
  have hcap := h.cap
  obtain ⟨vs, h1, h2, h3, h4, h5, h6⟩ := h
  subst h1
  refine (hear_ok t rt a vs gs cap ba l bc w h5 h6 (by omega) hl hcap.1 hcap.2 h4 hb hbl).mono ?_
  rintro e w' ⟨g, n, rfl, o1, hb⟩
  exact ⟨_, _, _, rfl, o1, hb⟩

theorem acknowledgeLL (t : Bool) (a : Option Addr) (n cap : Nat) (l : List Int) (ll : List (List Int)) (w : World) (h : LL w a n cap (l :: ll)) (hn : ll.length ≤ 99999) (hl : ∀ l ∈ ll, l.length ≤ 1000000) :
    Calls Try.prog 35 #[.agg #[.bool t, .slice a n cap]] w fun e w' => ∃ x c, e = .returned (.tuple #[.agg #[.bool !t, .slice x ll.length c], .int .i64 0]) ∧ NewLL w.heap.size w' (.slice x ll.length c) ll ∧ Below w.heap.size w w' := by
  have hlen := h.len
  have hcap := h.cap
  obtain ⟨vs, h1, h2, h3, h4, h5, h6⟩ := h
  cases vs with
  | nil => exact h6.elim
  | cons x vs =>
    obtain ⟨b, off, rfl, -⟩ := h5 (by simp)
    simp only [List.length_cons] at h1 hlen
    subst h1
    have hv : vs.length = ll.length := by omega
    refine (acknowledge_ok t b off x vs l ll cap w h5 h6 (by omega) hl h2 hcap.2).mono ?_
    rintro e w' ⟨g, rfl, o1, hb⟩
    rw [hv] at o1 ⊢
    exact ⟨_, _, rfl, o1, hb⟩

theorem offerLL (t : Bool) (a : Option Addr) (n cap : Nat) (l : List Int) (ll : List (List Int)) (w : World) (h : LL w a n cap (l :: ll)) (hl : l.length ≤ 1000000) :
    Calls Try.prog 34 #[.agg #[.bool t, .slice a n cap]] w fun e w' => ∃ x c, e = .returned (.tuple #[.slice x l.length c, .bool t, .bool true]) ∧ w'.ownsRow w.heap.size 5 1 (.slice x l.length c) l.length (l.map (.int .u8)) ∧ Below w.heap.size w w' := by
  have hlen := h.len
  have hcap := h.cap
  obtain ⟨vs, h1, h2, h3, h4, h5, h6⟩ := h
  cases vs with
  | nil => exact h6.elim
  | cons x vs =>
    obtain ⟨b, off, rfl, -⟩ := h5 (by simp)
    simp only [List.length_cons] at h1 hlen
    subst h1
    refine (offer_ok t b off x vs l cap w h5 h6.1 hl h2 hcap.2).mono ?_
    rintro e w' ⟨v, rfl, o1, hb⟩
    obtain ⟨a', c', rfl, -⟩ := own_val o1
    exact ⟨_, _, rfl, o1, hb⟩
end Go.Proofs.Ytphajgehfbimnaa
