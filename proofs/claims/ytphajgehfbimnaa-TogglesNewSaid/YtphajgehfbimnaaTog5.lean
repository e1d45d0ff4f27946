/-
  The contract of toggles.Run.
-/
import Derived.Test.YtphajgehfbimnaaTog4
namespace Go.Proofs.Ytphajgehfbimnaa
open Go.RowKit
set_option linter.unusedVariables false

/-- What one exchange does: of which the packet (d) or the acknowledgement (k) is lost. -/
def tstep {α : Type} (d k : Bool) : Bool × List α × Bool × List α → Bool × List α × Bool × List α
  | (st, [], rt, got) => (st, [], rt, got)
  | (st, x :: l, rt, got) =>
    if d then (st, x :: l, rt, got) else
    let rg := if st = rt then (!rt, got ++ [x]) else (rt, got)
    if k then (st, x :: l, rg.1, rg.2) else (!st, l, rg.1, rg.2)
def trun {α : Type} (xs : List (Bool × Bool)) (s : Bool × List α × Bool × List α) : Bool × List α × Bool × List α := xs.foldl (fun s x => tstep x.1 x.2 s) s
def exCells (xs : List (Bool × Bool)) : List Value := xs.flatMap fun x => [.bool x.1, .bool x.2]

theorem trun_empty {α : Type} (xs : List (Bool × Bool)) (st rt : Bool) (got : List α) : trun xs (st, [], rt, got) = (st, [], rt, got) := by
  induction xs with
  | nil => rfl
  | cons x xs ih => simp only [trun, List.foldl_cons, tstep] at *; exact ih
theorem trun_snoc {α : Type} (xs : List (Bool × Bool)) (x : Bool × Bool) (s : Bool × List α × Bool × List α) : trun (xs ++ [x]) s = tstep x.1 x.2 (trun xs s) := by simp [trun]

theorem trun_stop {α : Type} (xs : List (Bool × Bool)) (k : Nat) (t : Bool × List α × Bool × List α) (h : (trun (xs.take k) t).2.1 = []) : trun xs t = trun (xs.take k) t := by
  have e : trun xs t = trun (xs.drop k) (trun (xs.take k) t) := by
    unfold trun
    rw [← List.foldl_append, List.take_append_drop]
  rw [e]
  generalize hs : trun (xs.take k) t = s at h ⊢
  obtain ⟨s1, l, s2, g⟩ := s
  simp only at h
  subst h
  exact trun_empty _ _ _ _

theorem exCells_get {xs : List (Bool × Bool)} : ∀ {i : Nat} {x : Bool × Bool}, xs[i]? = some x → (exCells xs)[i * 2]? = some (.bool x.1) ∧ (exCells xs)[i * 2 + 1]? = some (.bool x.2) := by
  induction xs with
  | nil => intro i x h; simp at h
  | cons y xs ih =>
    intro i x h
    cases i with
    | zero => simp at h; subst h; simp [exCells]
    | succ i =>
      have := ih (i := i) (x := x) (by simpa using h)
      have e : exCells (y :: xs) = .bool y.1 :: .bool y.2 :: exCells xs := by simp [exCells]
      rw [e, show (i + 1) * 2 = i * 2 + 2 from by omega, show i * 2 + 2 + 1 = i * 2 + 1 + 2 from by omega]
      simpa using this

/-- The two states go side by side: the values, and what they read as. -/
def Beside (w : World) (s : Bool × List Value × Bool × List Value) (t : Bool × List (List Int) × Bool × List (List Int)) : Prop :=
  s.1 = t.1 ∧ s.2.2.1 = t.2.2.1 ∧ Rows .u8 w s.2.1 t.2.1 ∧ Rows .u8 w s.2.2.2 t.2.2.2
theorem Beside.step {w : World} (d k : Bool) {s : Bool × List Value × Bool × List Value} {t : Bool × List (List Int) × Bool × List (List Int)} (h : Beside w s t) : Beside w (tstep d k s) (tstep d k t) := by
  obtain ⟨s1, sl, s2, sg⟩ := s
  obtain ⟨t1, tl, t2, tg⟩ := t
  obtain ⟨h1, h2, h3, h4⟩ := h
  simp only at h1 h2 h3 h4
  subst h1 h2
  cases sl with
  | nil => cases tl with
    | nil => exact ⟨rfl, rfl, h3, h4⟩
    | cons y tl => exact h3.elim
  | cons x sl => cases tl with
    | nil => exact h3.elim
    | cons y tl =>
      obtain ⟨h5, h6⟩ := h3
      by_cases he : s1 = s2
      · cases d <;> cases k <;> simp only [tstep, if_pos he] <;> first | exact ⟨rfl, rfl, ⟨h5, h6⟩, h4⟩ | exact ⟨rfl, rfl, ⟨h5, h6⟩, Rows.append h4 ⟨h5, trivial⟩⟩ | exact ⟨rfl, rfl, h6, Rows.append h4 ⟨h5, trivial⟩⟩
      · cases d <;> cases k <;> simp only [tstep, if_neg he] <;> first | exact ⟨rfl, rfl, ⟨h5, h6⟩, h4⟩ | exact ⟨rfl, rfl, h6, h4⟩
theorem Beside.run {w : World} (xs : List (Bool × Bool)) : ∀ {s : Bool × List Value × Bool × List Value} {t : Bool × List (List Int) × Bool × List (List Int)}, Beside w s t → Beside w (trun xs s) (trun xs t) := by
  induction xs with
  | nil => intro s t h; exact h
  | cons x xs ih => intro s t h; exact ih (h.step x.1 x.2)

theorem tstep_mem {α : Type} (d k : Bool) (s : Bool × List α × Bool × List α) (x : α) (h : x ∈ (tstep d k s).2.1 ∨ x ∈ (tstep d k s).2.2.2) : x ∈ s.2.1 ∨ x ∈ s.2.2.2 := by
  obtain ⟨s1, sl, s2, sg⟩ := s
  cases sl with
  | nil => simpa [tstep] using h
  | cons y sl =>
    by_cases he : s1 = s2 <;> cases d <;> cases k <;> simp [tstep, he] at h ⊢ <;> grind
theorem trun_mem {α : Type} (xs : List (Bool × Bool)) : ∀ (s : Bool × List α × Bool × List α) (x : α), (x ∈ (trun xs s).2.1 ∨ x ∈ (trun xs s).2.2.2) → x ∈ s.2.1 ∨ x ∈ s.2.2.2 := by
  induction xs with
  | nil => intro s x h; exact h
  | cons y xs ih => intro s x h; exact tstep_mem _ _ s x (ih _ x h)

theorem tstep_len {α : Type} (d k : Bool) (s : Bool × List α × Bool × List α) : (tstep d k s).2.1.length ≤ s.2.1.length ∧ (tstep d k s).2.2.2.length ≤ s.2.2.2.length + 1 := by
  obtain ⟨s1, sl, s2, sg⟩ := s
  cases sl with
  | nil => simp [tstep]
  | cons x sl =>
    by_cases he : s1 = s2 <;> cases d <;> cases k <;> simp [tstep, he]
theorem trun_len {α : Type} (xs : List (Bool × Bool)) : ∀ s : Bool × List α × Bool × List α, (trun xs s).2.1.length ≤ s.2.1.length ∧ (trun xs s).2.2.2.length ≤ s.2.2.2.length + xs.length := by
  induction xs with
  | nil => intro s; simp [trun]
  | cons x xs ih =>
    intro s
    have h1 := ih (tstep x.1 x.2 s)
    have h2 := tstep_len x.1 x.2 s
    simp only [trun, List.foldl_cons, List.length_cons] at *
    omega

/-- The list that the receiver has: what came in, cut to its length, or one of the call's own. -/
def GotV (B : Nat) (wr : World) (a' : Option Addr) (vs : List Value) (gv : Value) (got : List Value) : Prop :=
  (gv = .slice a' vs.length vs.length ∧ got = vs) ∨ wr.ownsRow B 32 1 gv got.length got

/-- What 'hear' leaves, whether or not it takes the packet. -/
def Heard (B p : Nat) (st rt t : Bool) (sv bv : Value) (a' : Option Addr) (vs got : List Value) (w w' : World) : Prop :=
  ∃ gv', w'.heap[p]? = some (.cells #[.bool st, sv, .bool (if t = rt then !rt else rt), gv'] 103) ∧ GotV B w' a' vs gv' (if t = rt then got ++ [bv] else got) ∧ Below B w w' ∧
    (∀ k cs e fr, w.heap[k]? = some (.cells cs e fr) → e ≠ 32 → k ≠ p → w'.heap[k]? = some (.cells cs e fr))

theorem hear_any (B p : Nat) (st rt t : Bool) (sv gv : Value) (ba : Option Addr) (bn bc : Nat) (a' : Option Addr) (vs got : List Value) (w : World) (hp : w.heap[p]? = some (.cells #[.bool st, sv, .bool rt, gv] 103)) (hg : GotV B w a' vs gv got)
    (hc : Cells w a' vs) (h0 : a' = none → vs.length = 0) (hn : got.length ≤ 1000000) (hB : B ≤ p) :
    Calls Try.prog 43 #[.pointer (some ⟨p, 0, none⟩), .bool t, .slice ba bn bc] w fun e w' => e = .returned (.bool (decide (t = rt))) ∧ Heard B p st rt t sv (.slice ba bn bc) a' vs got w w' := by
  have hlt := (Array.getElem?_eq_some_iff.1 hp).1
  by_cases he : t = rt
  · subst he
    rcases hg with ⟨rfl, rfl⟩ | hown
    · refine (hear_new B p got.length st t sv a' ba bn bc got w hp hc rfl h0 hn (by omega)).mono ?_
      rintro e w' ⟨rfl, gv', h1, h2, h3⟩
      refine ⟨by simp, gv', by simpa using h1, .inr (by simpa using h2), h3.below (by omega) (fun k hk => by omega), fun k cs e fr hk _ hne => h3.kb hk hne⟩
    · refine (hear_own B p got.length st t sv gv ba bn bc got w hp hown hn (by omega)).mono ?_
      rintro e w' ⟨rfl, gv', h1, h2, h3⟩
      refine ⟨by simp, gv', by simpa using h1, .inr (by simpa using h2), h3.below (by omega) (fun k hk => ?_), fun k cs e fr hk hne hkp => h3.kb hk ?_⟩
      · rcases hk with hk | hk
        · omega
        · exact (hown.lt k hk.symm).1
      · rintro (h | h)
        · exact hkp h
        · rcases own_ne hown hk (fun h => hne h.symm) with h' | h'
          · rw [h'] at h; cases h
          · exact h' h.symm
  · refine (hear_no p t st rt sv gv (.slice ba bn bc) w hp he).mono ?_
    rintro e w' ⟨rfl, rfl⟩
    exact ⟨by simp [he], gv, by simpa [he] using hp, by simpa [he] using hg, Below.refl _ _, fun k cs e fr hk _ _ => hk⟩

set_option maxRecDepth 100000 in
set_option maxHeartbeats 2000000 in
theorem run_ok (st rt : Bool) (a a' ax : Option Addr) (us vs : List Value) (ls gs : List (List Int)) (xs : List (Bool × Bool)) (cap cap' capx : Nat) (w : World)
    (hc : Cells w a us) (hr : Rows .u8 w us ls) (hc' : Cells w a' vs) (hr' : Rows .u8 w vs gs) (hx : Cells w ax (exCells xs))
    (hn : us.length ≤ 100000) (hn' : vs.length ≤ 100000) (hnx : xs.length ≤ 100000) (hl : ∀ l ∈ ls, l.length ≤ 1000000) (hl' : ∀ l ∈ gs, l.length ≤ 1000000)
    (hcap : us.length ≤ cap) (hcm : cap ≤ 9223372036854775807) (hcap' : vs.length ≤ cap') (hcm' : cap' ≤ 9223372036854775807) (h0' : a' = none → cap' = 0) :
    Calls Try.prog 28 #[.agg #[.bool st, .slice a us.length cap], .agg #[.bool rt, .slice a' vs.length cap'], .slice ax xs.length capx] w fun e w' =>
      ∃ x y n m, e = .returned (.tuple #[.agg #[.bool (trun xs (st, ls, rt, gs)).1, .slice (some ⟨x, 0, none⟩) n n], .agg #[.bool (trun xs (st, ls, rt, gs)).2.2.1, .slice (some ⟨y, 0, none⟩) m m]]) ∧
        Copied w (.slice (some ⟨x, 0, none⟩) n n) (.slice (some ⟨y, 0, none⟩) m m) n m (trun xs (st, ls, rt, gs)).2.1 (trun xs (st, ls, rt, gs)).2.2.2 w' := by
  have Hc := Lib.hid hc; clear hc
  have Hr := Lib.hid hr; clear hr
  have Hl := Lib.hid hl; clear hl
  have Hc' := Lib.hid hc'; clear hc'
  have Hr' := Lib.hid hr'; clear hr'
  have Hl' := Lib.hid hl'; clear hl'
  have Hx := Lib.hid hx; clear hx
  have H0' := Lib.hid h0'; clear h0'
  go_enter Try.func28, Try.ntmps28
  go_wp2_with fail
  refine (begin_ok _ _ _ _ _ _ _ hcap' hcm').mono ?_
  rintro e w1 ⟨rfl, KP, hb1⟩
  have K2 := kb hb1 (blk_old (blk_new ((w.alloc (.cells #[.bool st, .slice a us.length cap] 55)).alloc (.cells #[.bool rt, .slice a' vs.length cap'] 57)) (.cells #[.bool false, .slice none 0 0] 55)))
  have K3 := kb hb1 (blk_new (((w.alloc (.cells #[.bool st, .slice a us.length cap] 55)).alloc (.cells #[.bool rt, .slice a' vs.length cap'] 57)).alloc (.cells #[.bool false, .slice none 0 0] 55)) (.cells #[.bool false, .slice none 0 0] 57))
  have hB1 : Below w.heap.size w w1 := Below.trans (by go_grown) (hb1.mono (by go_size))
  simp only [World.size_alloc] at KP K2 K3
  clear hb1
  go_wp2_with fail
  go_loopw [22] (fun i wr => ∃ (k : Nat) (s1 r1 : Bool) (left got : List Value) (al : Option Addr) (cl : Nat) (gv : Value), k ≤ xs.length ∧ i = .int .i64 k ∧ Hid (trun (xs.take k) (st, us, rt, vs) = (s1, left, r1, got)) ∧
      wr.heap[w.heap.size + 1 + 1 + 1 + 1 + 2]? = some (.cells #[.bool s1, .slice al left.length cl, .bool r1, gv] 103) ∧ Hid (Cells w al left) ∧ left.length ≤ cl ∧ cl ≤ 9223372036854775807 ∧ Hid (GotV w.heap.size wr a' vs gv got) ∧
      wr.heap[w.heap.size + 1 + 1]? = some (.cells #[.bool false, .slice none 0 0] 55) ∧ wr.heap[w.heap.size + 1 + 1 + 1]? = some (.cells #[.bool false, .slice none 0 0] 57) ∧ Below w.heap.size w wr)
    (fun i _ => xs.length - (intOf i).toNat)
  case atStart => exact ⟨0, st, rt, us, vs, a, cap, _, by omega, rfl, Lib.hid rfl, KP, Hc, hcap, hcm, Lib.hid (.inl ⟨rfl, rfl⟩), K2, K3, hB1⟩
  case round =>
    clear KP K2 K3 hB1
    obtain ⟨k, s1, r1, left, got, al, cl, gv, hk, rfl, HT, KP, HL, hcl, hclm, HG, K2, K3, hB⟩ := hrel
    obtain ⟨p0, p1, p2, p3, pf, pl⟩ := blk4 KP
    have hlen := trun_len (xs.take k) (st, us, rt, vs)
    rw [HT.out] at hlen
    obtain ⟨hlen1, hlen2⟩ := hlen
    simp only [List.length_take] at hlen1 hlen2
    by_cases hlt : k < xs.length
    · obtain ⟨x, hxk⟩ : ∃ x, xs[k]? = some x := ⟨xs[k], by simp [hlt]⟩
      obtain ⟨hx1, hx2⟩ := exCells_get hxk
      obtain ⟨d, kk⟩ := x
      obtain ⟨bx, ox, rfl, hcx⟩ : ∃ b off, ax = some ⟨b, off, none⟩ ∧ w.cell? ⟨b, off + k * 2, none⟩ = some (.bool d) ∧ w.cell? ⟨b, off + (k * 2 + 1), none⟩ = some (.bool kk) := by
        obtain ⟨b, off, h1, h2⟩ := Hx.out (by intro e; rw [e] at hx1; simp at hx1)
        exact ⟨b, off, h1, h2 _ _ hx1, h2 _ _ hx2⟩
      obtain ⟨hcx1, hcx2⟩ := hcx
      replace hcx1 := kc hB hcx1
      replace hcx2 := kc hB hcx2
      rw [← Nat.add_assoc] at hcx2
      have HX := Lib.hid hxk
      clear hxk hx1 hx2
      cases left with
      | nil =>
        simp only [List.length_nil] at *
        have hbes := Beside.run (xs.take k) (s := (st, us, rt, vs)) (t := (st, ls, rt, gs)) (w := w) ⟨rfl, rfl, Hr.out, Hr'.out⟩
        rw [HT.out] at hbes
        obtain ⟨be1, be2, be3, be4⟩ := hbes
        simp only at be1 be2 be3 be4
        have hnil : (trun (xs.take k) (st, ls, rt, gs)).2.1 = [] := by have := Rows.length be3; simpa using this.symm
        have hstop := trun_stop xs k (st, ls, rt, gs) hnil
        rw [← hstop] at be1 be2 be3 be4
        obtain ⟨ga, gc, rfl, hcg⟩ : ∃ ga gc, gv = .slice ga got.length gc ∧ Cells wr ga got := by
          rcases HG.out with ⟨h1, h2⟩ | h1
          · subst h2; exact ⟨a', got.length, h1, Hc'.out.below hB⟩
          · obtain ⟨ga, gc, h2, h3, _, _⟩ := own_view h1; exact ⟨ga, gc, h2, h3⟩
        have hlsl : ∀ l ∈ (trun xs (st, ls, rt, gs)).2.1, l.length ≤ 1000000 := fun l hl => (trun_mem _ _ l (.inl hl)).elim (Hl.out l) (Hl'.out l)
        have hlsg : ∀ l ∈ (trun xs (st, ls, rt, gs)).2.2.2, l.length ≤ 1000000 := fun l hl => (trun_mem _ _ l (.inr hl)).elim (Hl.out l) (Hl'.out l)
        go_wp2_with fail
        replace KP := blk_old (o := .cells #[.bool d, .bool kk] 101) KP
        replace K2 := blk_old (o := .cells #[.bool d, .bool kk] 101) K2
        replace K3 := blk_old (o := .cells #[.bool d, .bool kk] 101) K3
        replace hcg := hcg.below ((Below.refl _ wr).alloc (Nat.le_refl _) (.cells #[.bool d, .bool kk] 101))
        replace hB := hB.alloc hB.size (.cells #[.bool d, .bool kk] 101)
        generalize wr.alloc (.cells #[.bool d, .bool kk] 101) = wq at *
        refine (copied_ok _ s1 r1 al ga [] got _ _ cl gc wq KP (HL.out.below hB) (Rows.below hB be3) hcg (Rows.below hB be4) (by simp) hlsl (by omega) hlsg).mono ?_
        rintro e w5 ⟨x, y, rfl, cus, cvs, o1, o2, o3, o4, hb5⟩
        replace K2 := kb hb5 K2
        replace K3 := kb hb5 K3
        obtain ⟨m0, m1, mf, ml⟩ := blk2 K2
        obtain ⟨n0, n1, nf, nl⟩ := blk2 K3
        have hB5 := hB.trans (hb5.mono hB.size)
        have hsB := hB.size
        have hsP := (Array.getElem?_eq_some_iff.1 KP).1
        clear K2 K3 KP p0 p1 p2 p3 pf pl
        go_wp2_with fail
        have dis : ∀ q : Nat, q ≤ w.heap.size + 1 + 1 + 1 → q < wq.heap.size := fun q hq => by omega
        refine bodyPost_ret ?_ rfl ⟨x, y, 0, got.length, by rw [← be1, ← be2], cus, cvs, ?_, ?_, ?_, ?_, ?_⟩
        · simp [results, Try.results28, go_sem, m0, m1, n0, n1]
          exact ⟨by rw [← hstop]; exact be1.symm, by rw [← hstop]; exact be2.symm⟩
        · exact own_base (ownsRow_setCell_below (ownsRow_setCell_below (ownsRow_setCell_below (ownsRow_setCell_below o1 (dis _ (by simp)) _) (dis _ (by simp)) _) (dis _ (by simp)) _) (dis _ (by simp)) _) hsB
        · exact OwnRows.base hsB (OwnRows.setBelow (dis _ (by simp)) _ (OwnRows.setBelow (dis _ (by simp)) _ (OwnRows.setBelow (dis _ (by simp)) _ (OwnRows.setBelow (dis _ (by simp)) _ o2))))
        · exact own_base (ownsRow_setCell_below (ownsRow_setCell_below (ownsRow_setCell_below (ownsRow_setCell_below o3 (dis _ (by simp)) _) (dis _ (by simp)) _) (dis _ (by simp)) _) (dis _ (by simp)) _) hsB
        · exact OwnRows.base hsB (OwnRows.setBelow (dis _ (by simp)) _ (OwnRows.setBelow (dis _ (by simp)) _ (OwnRows.setBelow (dis _ (by simp)) _ (OwnRows.setBelow (dis _ (by simp)) _ o4))))
        · exact (((hB5.setCell (by simp; omega) _).setCell (by simp; omega) _).setCell (by simp; omega) _).setCell (by simp; omega) _
      | cons v0 l0 =>
        obtain ⟨bl, ol, rfl, hcl0⟩ : ∃ b off, al = some ⟨b, off, none⟩ ∧ w.cell? ⟨b, off, none⟩ = some v0 := by
          obtain ⟨b, off, h1, h2⟩ := HL.out (by simp)
          exact ⟨b, off, h1, h2 0 v0 rfl⟩
        have hclw := hcl0
        replace hcl0 := kc hB hcl0
        cases d with
        | true =>
          go_wp2_with fail
          go_roundw
          case rel =>
            refine ⟨k + 1, s1, r1, v0 :: l0, got, some ⟨bl, ol, none⟩, cl, gv, by omega, by go_num, Lib.hid ?_, blk_old KP, HL, hcl, hclm, Lib.hid ?_, blk_old K2, blk_old K3, hB.alloc hB.size _⟩
            · rw [take_snoc HX.out, trun_snoc, HT.out]; simp [tstep]
            · exact HG.out.imp id (fun h => h.alloc _)
          case measure => simp [intOf]; omega
        | false =>
          have hbes := Beside.run (xs.take k) (s := (st, us, rt, vs)) (t := (st, ls, rt, gs)) (w := w) ⟨rfl, rfl, Hr.out, Hr'.out⟩
          rw [HT.out] at hbes
          obtain ⟨ba, bn, bc, rfl⟩ : ∃ ba bn bc, v0 = .slice ba bn bc := by
            obtain ⟨-, -, hb3, -⟩ := hbes
            simp only at hb3
            cases hL : (trun (xs.take k) (st, ls, rt, gs)).2.1 with
            | nil => rw [hL] at hb3; exact hb3.elim
            | cons y ys => rw [hL] at hb3; obtain ⟨⟨ba, bc, h1, _⟩, _⟩ := hb3; exact ⟨ba, _, bc, h1⟩
          clear hbes
          simp only [List.length_cons] at p1 KP
          obtain ⟨r2, HR2⟩ : ∃ r2, Hid ((if s1 = r1 then !r1 else r1) = r2) := ⟨_, Lib.hid rfl⟩
          obtain ⟨got2, HG2⟩ : ∃ got2, Hid ((if s1 = r1 then got ++ [Value.slice ba bn bc] else got) = got2) := ⟨_, Lib.hid rfl⟩
          obtain ⟨fresh, HF⟩ : ∃ fresh, Hid (decide (s1 = r1) = fresh) := ⟨_, Lib.hid rfl⟩
          have HA : ∀ wq, Below wr.heap.size wr wq → Calls Try.prog 43 #[.pointer (some ⟨w.heap.size + 1 + 1 + 1 + 1 + 2, 0, none⟩), .bool s1, .slice ba bn bc] wq fun e w' => e = .returned (.bool fresh) ∧
              ∃ gv', w'.heap[w.heap.size + 1 + 1 + 1 + 1 + 2]? = some (.cells #[.bool s1, .slice (some ⟨bl, ol, none⟩) (l0.length + 1) cl, .bool r2, gv'] 103) ∧ Hid (GotV w.heap.size w' a' vs gv' got2) ∧ Below w.heap.size w w' ∧ w'.cell? ⟨bl, ol, none⟩ = some (.slice ba bn bc) ∧
                w'.heap[w.heap.size + 1 + 1]? = some (.cells #[.bool false, .slice none 0 0] 55) ∧ w'.heap[w.heap.size + 1 + 1 + 1]? = some (.cells #[.bool false, .slice none 0 0] 57) ∧ (wq.heap[wr.heap.size]? = some (.cells #[.bool false, .bool kk] 101) → w'.heap[wr.heap.size]? = some (.cells #[.bool false, .bool kk] 101)) := by
            intro wq hq
            refine (hear_any w.heap.size _ s1 r1 s1 _ gv ba bn bc a' vs got wq (kb hq KP) (HG.out.imp id (fun h => ownsRow_below h hq)) ((Hc'.out.below hB).below hq) (fun h => by have := H0'.out h; omega) (by omega) (by omega)).mono ?_
            rintro e w' ⟨rfl, gv', g1, g2, g3, g4⟩
            have hB' := (hB.trans (hq.mono hB.size)).trans g3
            refine ⟨by rw [HF.out], gv', by rw [← HR2.out]; exact g1, Lib.hid (by rw [← HG2.out]; exact g2), hB', kc hB' hclw, g4 _ _ _ _ (kb hq K2) (by decide) (by omega), g4 _ _ _ _ (kb hq K3) (by decide) (by omega), fun hx => g4 _ _ _ _ hx (by decide) (by have := (Array.getElem?_eq_some_iff.1 KP).1; omega)⟩
          replace HA := Lib.hid HA
          clear hclw
          go_wp2_with fail
          go_region_held3 (fun w' => w'.cell? ⟨w.heap.size + 1 + 1 + 1 + 1 + 2, 0, none⟩ = some (.bool s1) ∧ w'.cell? ⟨w.heap.size + 1 + 1 + 1 + 1 + 2, 1, none⟩ = some (.slice (some ⟨bl, ol, none⟩) (l0.length + 1) cl) ∧ w'.cell? ⟨bl, ol, none⟩ = some (.slice ba bn bc))
            (first
              | assumption
              | ((repeat' apply And.intro) <;> first | assumption | go_cell_look)
              | go_keep)
            (first
              | (go_at_call 43; refine (HA.out _ (by go_grown)).mono ?_; rintro e w2 ⟨rfl, gv', KP2, HG3, hB2, hcl2, K22, K32, KX2⟩; obtain ⟨q0, q1, q2, q3, qf, ql⟩ := blk4 KP2))
          replace KX2 := KX2 (by first | exact blk_new _ _ | (simp; done) | simpa using blk_new wr (.cells #[.bool false, .bool kk] 101))
          obtain ⟨x0, x1, xf, xl⟩ := blk2 KX2
          clear HA KX2 hcl0 K2 K3 KP p0 p1 p2 p3 pf pl hcx1 hcx2 HG
          have hstep : trun (xs.take (k + 1)) (st, us, rt, vs) = if kk then (s1, .slice ba bn bc :: l0, r2, got2) else (!s1, l0, r2, got2) := by
            rw [take_snoc HX.out, trun_snoc, HT.out, ← HR2.out, ← HG2.out]
            by_cases he : s1 = r1 <;> cases kk <;> simp [tstep, he]
          replace hstep := Lib.hid hstep
          have hsz2 : w.heap.size + 1 + 1 + 1 + 1 + 2 < w2.heap.size := (Array.getElem?_eq_some_iff.1 KP2).1
          cases kk with
          | true =>
            go_wp2_with fail
            go_roundw
            case rel => exact ⟨k + 1, s1, r2, .slice ba bn bc :: l0, got2, some ⟨bl, ol, none⟩, cl, gv', by omega, by go_num, Lib.hid (by rw [hstep.out]; simp), KP2, HL, hcl, hclm, HG3, K22, K32, hB2⟩
            case measure => simp [intOf]; omega
          | false =>
            go_wp2_with (go_at_call 44; refine (ack_ok _ s1 r2 bl ol l0.length cl gv' _ KP2 hcl hclm).mono ?_; rintro e w3 ⟨rfl, rfl⟩)
            have fr1 := Fr.setCell (S := fun k => k = w.heap.size + 1 + 1 + 1 + 1 + 2) w2 ⟨w.heap.size + 1 + 1 + 1 + 1 + 2, 1, none⟩ (.slice (if cl = 1 then some ⟨bl, ol, none⟩ else some ⟨bl, ol + 1, none⟩) l0.length (cl - 1)) rfl
            have fr2 := fr1.trans (Fr.setCell (S := fun k => k = w.heap.size + 1 + 1 + 1 + 1 + 2) _ ⟨w.heap.size + 1 + 1 + 1 + 1 + 2, 0, none⟩ (.bool !s1) rfl)
            go_roundw
            case rel =>
              refine ⟨k + 1, !s1, r2, l0, got2, if cl = 1 then some ⟨bl, ol, none⟩ else some ⟨bl, ol + 1, none⟩, cl - 1, gv', by omega, by go_num, Lib.hid (by rw [hstep.out]; simp), ?_, Lib.hid ?_, by simp only [List.length_cons] at hcl; omega, by omega, Lib.hid ?_, fr2.kb K22 (by omega), fr2.kb K32 (by omega), hB2.trans (fr2.below (by omega) (fun k hk => by omega))⟩
              · simpa using blk_set (o := 0) (blk_set (o := 1) KP2 (.slice (if cl = 1 then some ⟨bl, ol, none⟩ else some ⟨bl, ol + 1, none⟩) l0.length (cl - 1))) (.bool !s1)
              · by_cases h1 : cl = 1
                · have : l0 = [] := by
                    cases l0 with
                    | nil => rfl
                    | cons y ys => simp only [List.length_cons] at hcl; omega
                  subst this; exact Cells.nil _ _
                · rw [if_neg h1]; exact HL.out.tail
              · exact HG3.out.imp id (fun h => own_setBlk (own_setBlk h KP2 (by decide) _) (blk_set KP2 _) (by decide) _)
            case measure => simp [intOf]; omega
    · have hkl : k = xs.length := by omega
      subst hkl
      rw [take_all (Nat.le_refl _)] at HT
      have hbes := Beside.run xs (s := (st, us, rt, vs)) (t := (st, ls, rt, gs)) (w := w) ⟨rfl, rfl, Hr.out, Hr'.out⟩
      rw [HT.out] at hbes
      obtain ⟨be1, be2, be3, be4⟩ := hbes
      simp only at be1 be2 be3 be4
      obtain ⟨ga, gc, rfl, hcg⟩ : ∃ ga gc, gv = .slice ga got.length gc ∧ Cells wr ga got := by
        rcases HG.out with ⟨h1, h2⟩ | h1
        · subst h2; exact ⟨a', got.length, h1, Hc'.out.below hB⟩
        · obtain ⟨ga, gc, h2, h3, _, _⟩ := own_view h1; exact ⟨ga, gc, h2, h3⟩
      have hlsl : ∀ l ∈ (trun xs (st, ls, rt, gs)).2.1, l.length ≤ 1000000 := fun l hl => (trun_mem _ _ l (.inl hl)).elim (Hl.out l) (Hl'.out l)
      have hlsg : ∀ l ∈ (trun xs (st, ls, rt, gs)).2.2.2, l.length ≤ 1000000 := fun l hl => (trun_mem _ _ l (.inr hl)).elim (Hl.out l) (Hl'.out l)
      go_wp2_with fail
      refine (copied_ok _ s1 r1 al ga left got _ _ cl gc wr KP (HL.out.below hB) (Rows.below hB be3) hcg (Rows.below hB be4) (by omega) hlsl (by omega) hlsg).mono ?_
      rintro e w5 ⟨x, y, rfl, cus, cvs, o1, o2, o3, o4, hb5⟩
      replace K2 := kb hb5 K2
      replace K3 := kb hb5 K3
      obtain ⟨m0, m1, mf, ml⟩ := blk2 K2
      obtain ⟨n0, n1, nf, nl⟩ := blk2 K3
      have hB5 := hB.trans (hb5.mono hB.size)
      have hsB := hB.size
      have hsP := (Array.getElem?_eq_some_iff.1 KP).1
      clear K2 K3 KP p0 p1 p2 p3 pf pl
      go_wp2_with fail
      have dis : ∀ q : Nat, q ≤ w.heap.size + 1 + 1 + 1 → q < wr.heap.size := fun q hq => by omega
      refine bodyPost_ret ?_ rfl ⟨x, y, left.length, got.length, by rw [← be1, ← be2], cus, cvs, ?_, ?_, ?_, ?_, ?_⟩
      · simp [results, Try.results28, go_sem, m0, m1, n0, n1]
        exact ⟨be1.symm, be2.symm⟩
      · exact own_base (ownsRow_setCell_below (ownsRow_setCell_below (ownsRow_setCell_below (ownsRow_setCell_below o1 (dis _ (by simp)) _) (dis _ (by simp)) _) (dis _ (by simp)) _) (dis _ (by simp)) _) hsB
      · exact OwnRows.base hsB (OwnRows.setBelow (dis _ (by simp)) _ (OwnRows.setBelow (dis _ (by simp)) _ (OwnRows.setBelow (dis _ (by simp)) _ (OwnRows.setBelow (dis _ (by simp)) _ o2))))
      · exact own_base (ownsRow_setCell_below (ownsRow_setCell_below (ownsRow_setCell_below (ownsRow_setCell_below o3 (dis _ (by simp)) _) (dis _ (by simp)) _) (dis _ (by simp)) _) (dis _ (by simp)) _) hsB
      · exact OwnRows.base hsB (OwnRows.setBelow (dis _ (by simp)) _ (OwnRows.setBelow (dis _ (by simp)) _ (OwnRows.setBelow (dis _ (by simp)) _ (OwnRows.setBelow (dis _ (by simp)) _ o4))))
      · exact (((hB5.setCell (by simp; omega) _).setCell (by simp; omega) _).setCell (by simp; omega) _).setCell (by simp; omega) _
end Go.Proofs.Ytphajgehfbimnaa
