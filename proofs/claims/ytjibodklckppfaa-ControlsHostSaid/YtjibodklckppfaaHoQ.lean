/-
  The statement ControlsHost: the plain law, part 2: the law's loops.
  Conditions: none.
-/
import Derived.Test.YtjibodklckppfaaH8b
import Derived.Test.YtjibodklckppfaaHoP
namespace Go.Proofs.Ytjibodklckppfaa
set_option linter.unusedVariables false
set_option linter.unusedSimpArgs false
set_option maxRecDepth 100000
set_option maxHeartbeats 4000000

abbrev TryT : Type := Int × Int × Int × Bool × Bool × Int × List Int × Unit
theorem view_on (m : Nat) (q : Req) (hq : q.Ok) {st : Int} {tg tg' : Bool} {at' : Int} {got : List Int} {er e : Int} (hi : HI q st tg tg' at' got er e) (h4 : st ≠ 4) :
    ∃ b : Int × Bool × Int × List Int, next8_D m (tOf q st tg at' got er e) = some (((0, 0, b.1, b.2.1, false, b.2.2.1, b.2.2.2, ()), true, ()), ()) ∧ rnext8_D m (hOf q st tg' at' got er e) = some ((0, 0, b.1, b.2.1, false, b.2.2.1, b.2.2.2, ()), ()) ∧ end8_D m (tOf q st tg at' got er e) = some (([], 6, ()), ()) := by
  obtain ⟨h1, h2, h3, _, _⟩ := hi
  obtain rfl := h2 h4
  rcases h1 with rfl | rfl | rfl | rfl
  · have hs := split_eq m q.r1 q.r2 q.r3 q.r4 q.r5 hq.h3 hq.h4 hq.h5
    obtain ⟨y, hy⟩ : ∃ y, rbytes_D m (q.r1, q.r2, q.r3, q.r4, q.r5, ()) = some (y, ()) := ⟨_, rfl⟩
    rw [hy] at hs
    refine ⟨(13, false, 0, y), ?_, ?_, by rfl⟩
    · unfold next8_D tOf
      simp only [hs, bnd_some, decide_true, cond_true]
    · unfold rnext8_D hOf
      simp only [rreads_eq, bnd_some, hy]
      rfl
  · cases hr : rdB q.r1 q.r5 with
    | false =>
      obtain ⟨a, b⟩ := next_data m q hq tg at' got er e h3 hr
      exact ⟨(1, tg, 0, outNow q at'), a, b, by rfl⟩
    | true =>
      refine ⟨(9, tg, q.mx, []), ?_, ?_, by rfl⟩
      · unfold next8_D tOf
        simp only [reads_eq m _ _ _ _ _ hq.h1.1 hq.h1.2, bnd_some, hr]
        rfl
      · unfold rnext8_D rnext8_J0 hOf
        simp only [rreads_eq, bnd_some, hr]
        rfl
  · cases hr : rdB q.r1 q.r5 with
    | false =>
      refine ⟨(9, true, 0, []), ?_, ?_, by rfl⟩
      · unfold next8_D tOf
        simp only [reads_eq m _ _ _ _ _ hq.h1.1 hq.h1.2, bnd_some, hr]
        rfl
      · unfold rnext8_D rnext8_J0 hOf
        simp only [rreads_eq, bnd_some, hr]
        rfl
    | true =>
      refine ⟨(1, true, 0, []), ?_, ?_, by rfl⟩
      · unfold next8_D tOf
        simp only [reads_eq m _ _ _ _ _ hq.h1.1 hq.h1.2, bnd_some, hr]
        rfl
      · unfold rnext8_D rnext8_J0 hOf
        simp only [rreads_eq, bnd_some, hr]
        rfl
  · exact absurd rfl h4
theorem view_end (m : Nat) (q : Req) (tg : Bool) (at' : Int) (got : List Int) (er e : Int) (hg : got.length ≤ 1000000) :
    next8_D m (tOf q 4 tg at' got er e) = some (((0, 0, 0, false, false, 0, [], ()), false, ()), ()) ∧ end8_D m (tOf q 4 tg at' got er e) = some ((if e = 0 then got else [], e, ()), ()) := by
  refine ⟨by rfl, ?_⟩
  unfold end8_D tOf
  by_cases he : e = 0
  · subst he; simp [clone8_eq m got hg, bnd_some]
  · simp [he]
theorem wS (i : Nat) (h : i < 1000000000) : Go.IntKind.wrap .i64 ((i : Int) + 1) = ((i + 1 : Nat) : Int) := by rw [wi64 (by omega) (by omega)]; omega
theorem getD_mem {α : Type} {l : List α} {i : Nat} {d : α} (h : i < l.length) : l.getD i d ∈ l := by rw [getD_lt h]; exact List.getElem_mem h
theorem host_L1 (m : Nat) (q : Req) (hq : q.Ok) (l : List (Int × List Int × Unit)) (hl : ∀ o ∈ l, 0 ≤ o.1) (hn : l.length ≤ 80) : ∀ (f i : Nat) {st : Int} {tg tg' : Bool} {at' : Int} {got : List Int} {er e : Int}, HI q st tg tg' at' got er e → i ≤ l.length → l.length - i < f →
    hostL_L1 m f l (i : Int) (tOf q st tg at' got er e) (hOf q st tg' at' got er e) = some (.inl ((true, ()), ())) ∨ hostL_L1 m f l (i : Int) (tOf q st tg at' got er e) (hOf q st tg' at' got er e) = some (.inr ((), ())) := by
  intro f
  induction f with
  | zero => intro i st tg tg' at' got er e hi h1 h2; omega
  | succ f ih =>
    intro i st tg tg' at' got er e hi h1 h2
    have h5 := hq.h5
    have hgl := hi.gl
    rw [hostL_L1, dT (by omega : (i : Int) ≤ (l.length : Nat))]
    simp only [cond_true]
    have key : ∀ (k0 : Bool → Option ((Bool × Unit) × Unit ⊕ Unit × Unit)) (tr : TryT) (b : Bool), next8_D m (tOf q st tg at' got er e) = some ((tr, b, ()), ()) →
        k0 true = some (.inl ((true, ()), ())) → i < l.length →
        (∀ a h, hostL_L1 m f l (Go.IntKind.wrap .i64 ((i : Int) + 1)) a h = hostL_L1 m f l ((i + 1 : Nat) : Int) a h) := by
      intro k0 tr b _ _ hlt a h; rw [wS i (by omega)]
    have tail : ∀ (k0 : Bool → Option ((Bool × Unit) × Unit ⊕ Unit × Unit)) (tr : TryT) (b : Bool), next8_D m (tOf q st tg at' got er e) = some ((tr, b, ()), ()) → k0 true = some (.inl ((true, ()), ())) → i < l.length →
        let X := (bif decide (100 < ((l.getD i (0, [], ())).2.1.length : Int)) then k0 true else (bif inB (i : Int) l.length then bnd (ans8_D m (tOf q st tg at' got er e) (l.getD (Int.toNat i) (0, [], ()))) fun y1 => (bif inB (i : Int) l.length then bnd (rans8_D m (hOf q st tg' at' got er e) (l.getD (Int.toNat i) (0, [], ()))) fun y2 => bnd (next8_D m (tOf q st tg at' got er e)) fun y3 => hostL_J5 m l (i : Int) y1.1 y2.1 tr y3.1.1 (fun d => bif d then k0 false else hostL_L1 m f l (Go.IntKind.wrap .i64 ((i : Int) + 1)) y1.1 y2.1) else none) else none))
        X = some (.inl ((true, ()), ())) ∨ X = some (.inr ((), ())) := by
      intro k0 tr b hnx hk hlt X
      by_cases hbig : 100 < ((l.getD i (0, [], ())).2.1.length : Int)
      · left; show (bif _ then _ else _) = _; rw [dT hbig]; exact hk
      · obtain ⟨st2, tg2, tg2', at2, got2, er2, e2, a1, a2, a3⟩ := ans_step m q hq hi (l.getD i (0, [], ())) (hl _ (getD_mem hlt)) (by omega)
        have hr := ih (i + 1) a3 (by omega) (by omega)
        have hX : X = hostL_L1 m f l ((i + 1 : Nat) : Int) (tOf q st2 tg2 at2 got2 er2 e2) (hOf q st2 tg2' at2 got2 er2 e2) := by
          show (bif _ then _ else _) = _
          rw [dF hbig, inT (by omega) (by omega : (i : Int) < (l.length : Nat)), toNatC, a1, a2, hnx]
          simp only [cond_true, cond_false, bnd_some, hostL_J5, decide_true, Bool.not_true, wS i (by omega)]
        rw [hX]; exact hr
    by_cases h4 : st = 4
    · subst h4
      obtain ⟨n1, n2⟩ := view_end m q tg at' got er e (by omega)
      unfold hostL_J7
      rw [n1, n2]
      have hj : ∀ (k : Bool → Option ((Bool × Unit) × Unit ⊕ Unit × Unit)), hostL_J4 m l (i : Int) false (if e = 0 then got else []) e (tOf q 4 tg at' got er e) (hOf q 4 tg' at' got er e) (0, 0, 0, false, false, 0, [], ()) k = k false := by
        intro k
        unfold hostL_J4 hOf
        by_cases he : e = 0
        · subst he; simp
        · simp [he]
      simp only [bnd_some]
      rw [show decide ((hOf q 4 tg' at' got er e).fst = (3 : Int)) = true from by rfl]
      simp only [cond_true]
      rw [hj]
      simp only [cond_false]
      by_cases hlt : i < l.length
      · rw [dF (by omega : ¬ (i : Int) = (l.length : Nat)), inT (by omega) (by omega : (i : Int) < (l.length : Nat))]
        simp only [cond_true, cond_false]
        have := tail (fun d => some (Sum.inl ((d, ()), ()))) _ _ n1 rfl hlt
        rw [inT (by omega) (by omega : (i : Int) < (l.length : Nat))] at this
        simp only [n1, bnd_some] at this
        simp only [toNatC, cond_true, n1, bnd_some] at this ⊢
        exact this
      · right
        rw [dT (by omega : (i : Int) = (l.length : Nat))]
        rfl
    · obtain ⟨b, n1, n2, n3⟩ := view_on m q hq hi h4
      unfold hostL_J7
      rw [n1, n2, n3]
      have hs3 : decide ((hOf q st tg' at' got er e).fst = (3 : Int)) = false := by
        refine dF ?_
        show ¬ st - 1 = 3
        omega
      have hj : ∀ (k : Bool → Option ((Bool × Unit) × Unit ⊕ Unit × Unit)), hostL_J6 m l (i : Int) true [] 6 (tOf q st tg at' got er e) (hOf q st tg' at' got er e) (0, 0, b.1, b.2.1, false, b.2.2.1, b.2.2.2, ()) (0, 0, b.1, b.2.1, false, b.2.2.1, b.2.2.2, ()) k = k false := by
        intro k
        unfold hostL_J6
        simp
      simp only [bnd_some]
      rw [hs3]
      simp only [cond_false]
      rw [hj]
      simp only [cond_false]
      by_cases hlt : i < l.length
      · rw [dF (by omega : ¬ (i : Int) = (l.length : Nat)), inT (by omega) (by omega : (i : Int) < (l.length : Nat))]
        simp only [cond_true, cond_false]
        have := tail (fun d => some (Sum.inl ((d, ()), ()))) _ _ n1 rfl hlt
        rw [inT (by omega) (by omega : (i : Int) < (l.length : Nat))] at this
        simp only [n1, bnd_some] at this
        simp only [toNatC, cond_true, n1, bnd_some] at this ⊢
        exact this
      · right
        rw [dT (by omega : (i : Int) = (l.length : Nat))]
        rfl
theorem outO_L0_eq (m : Nat) (x0 : Int × Int × Int × Int × Int × List Int × Int × Unit) (hd : x0.2.2.2.2.2.1.length ≤ 300) : ∀ (f i : Nat) (l : List Int), i ≤ l.length → l.length ≤ 65535 → l.length - i < f → ∃ l2 : List Int, l2.length = l.length ∧ outO_L0 m f (i : Int) x0 l = some ((), l2, ()) := by
  intro f
  induction f with
  | zero => intro i l h1 h2 h3; omega
  | succ f ih =>
    intro i l h1 h2 h3
    rw [outO_L0]
    unfold outO_J0
    by_cases h : i < l.length
    · rw [dT (by omega : (i : Int) < (l.length : Nat))]
      simp only [cond_true]
      by_cases hz : 0 < (x0.2.2.2.2.2.1.length : Int)
      · have hnz : ¬ (x0.2.2.2.2.2.1.length : Int) = 0 := by omega
        have ht : Int.tmod (i : Int) (x0.2.2.2.2.2.1.length : Int) = ((i % x0.2.2.2.2.2.1.length : Nat) : Int) := by
          rw [Int.tmod_eq_emod_of_nonneg (by omega)]; omega
        have hlt : i % x0.2.2.2.2.2.1.length < x0.2.2.2.2.2.1.length := Nat.mod_lt _ (by omega)
        rw [dT hz, dF hnz, ht, inT (by omega) (by omega : ((i % x0.2.2.2.2.2.1.length : Nat) : Int) < (x0.2.2.2.2.2.1.length : Nat)), inT (by omega) (by omega : (i : Int) < (l.length : Nat)), toNatC, dT h, wS i (by omega)]
        simp only [cond_true, Bool.not_false]
        obtain ⟨l2, e1, e2⟩ := ih (i + 1) (l.set i (Go.IntKind.wrap .u8 (List.getD x0.2.2.2.2.2.1 (i % x0.2.2.2.2.2.1.length) 0 + Go.IntKind.wrap .u8 (Go.IntKind.wrap .i64 (Int.tdiv (i : Int) (x0.2.2.2.2.2.1.length : Int)))))) (by simp; omega) (by simp; omega) (by simp; omega)
        refine ⟨l2, by simpa using e1, ?_⟩
        rw [toNatC]
        exact e2
      · rw [dF hz]
        exact ⟨l, rfl, rfl⟩
    · rw [dF (by omega : ¬ (i : Int) < (l.length : Nat))]
      exact ⟨l, rfl, rfl⟩
theorem outO_eq (m : Nat) (r1 r2 r3 r4 r5 : Int) (d : List Int) (n : Int) (h5 : 0 ≤ r5 ∧ r5 ≤ 300) (hd : d.length ≤ 300) (hm : 301 ≤ m) :
    (wrB r1 r5 = true ∧ ∃ O : List Int, (O.length : Int) = r5 ∧ outO_D m (r1, r2, r3, r4, r5, d, n, ()) = some (.inl ((), O, ()))) ∨ (wrB r1 r5 = false ∧ outO_D m (r1, r2, r3, r4, r5, d, n, ()) = some (.inr ((), ()))) := by
  have w5 : Go.IntKind.wrap .i64 r5 = r5 := wi64 (by omega) (by omega)
  cases hw : wrB r1 r5 with
  | false =>
    refine .inr ⟨rfl, ?_⟩
    unfold outO_D
    simp only [rwrites_eq, bnd_some, hw]
    rfl
  | true =>
    obtain ⟨l2, e1, e2⟩ := outO_L0_eq m (r1, r2, r3, r4, r5, d, n, ()) hd m 0 (List.replicate r5.toNat 0) (by omega) (by simp; omega) (by simp; omega)
    refine .inl ⟨rfl, l2, by rw [e1]; simp; omega, ?_⟩
    unfold outO_D
    simp only [rwrites_eq, bnd_some, hw, w5, Bool.not_true, cond_false]
    rw [mkL 1 r5 (by omega) (by omega) (by omega)]
    simp only [cond_true]
    have e3 : outO_L0 m m 0 (r1, r2, r3, r4, r5, d, n, ()) (List.replicate r5.toNat 0) = some ((), l2, ()) := by simpa using e2
    rw [e3]; rfl
theorem cloneQ_eq (m : Nat) (xs : List Int) (h : xs.length ≤ 1000000) : cloneQ_D m xs = some ((), xs, ()) := by
  unfold cloneQ_D
  rw [mkA 1 _ true (by omega) (by omega) (by omega), gr1 _ (by simp; omega)]
  rfl
theorem startQ_eq (m : Nat) (r1 r2 r3 r4 r5 mx : Int) (O : List Int) (h1 : 0 ≤ r1 ∧ r1 < 256) (h5 : 0 ≤ r5 ∧ r5 ≤ 300) (hm : isMx mx) (hO : (O.length : Int) = if wrB r1 r5 = true then r5 else 0) :
    startQ_D m (r1, r2, r3, r4, r5, ()) O mx = some (.inl (((1, r1, r2, r3, r4, r5, mx, true, 0, 0, 0, ()), ()), O, ())) := by
  have w5 : Go.IntKind.wrap .i64 r5 = r5 := wi64 (by omega) (by omega)
  have hO2 : O.length ≤ 300 := by split at hO <;> omega
  unfold startQ_D
  rw [fits8_eq m mx hm]
  simp only [bnd_some, Bool.not_true, cond_false, writes_eq m _ _ _ _ _ h1.1 h1.2, w5]
  cases hw : wrB r1 r5 with
  | true => rw [hw, if_pos rfl] at hO; simp only [cond_true, dT hO, Bool.not_true, cond_false, cloneQ_eq m O (by omega), bnd_some]
  | false => rw [hw, if_neg (by simp)] at hO; simp only [cond_false, dT hO, Bool.not_true, cloneQ_eq m O (by omega), bnd_some]
theorem host_L0 (m : Nat) (x1 : List (Int × List Int × Unit)) (x0 : Int × Int × Int × Int × Int × List Int × Int × Unit) (a1 a2 a3 a4 a5 a6 a7 : Int) (a8 : Bool) (a9 a10 a11 : Int) (Q : List Int) : ∀ (f i : Nat) (l : List Int), i ≤ l.length → l.length ≤ 65535 → l.length - i < f →
    hostL_L0 m f x1 (i : Int) x0 a1 a2 a3 a4 a5 a6 a7 a8 a9 a10 a11 l Q = some ((x1, ()), (x0, ((a1, a2, a3, a4, a5, a6, a7, a8, a9, a10, a11, ()), (Q, ())))) := by
  intro f
  induction f with
  | zero => intro i l h1 h2 h3; omega
  | succ f ih =>
    intro i l h1 h2 h3
    rw [hostL_L0]
    by_cases h : i < l.length
    · rw [dT (by omega : (i : Int) < (l.length : Nat)), inT (by omega) (by omega : (i : Int) < (l.length : Nat)), toNatC, dT h, wS i (by omega)]
      simp only [cond_true]
      exact ih (i + 1) _ (by simp; omega) (by simp; omega) (by simp; omega)
    · rw [dF (by omega : ¬ (i : Int) < (l.length : Nat))]
      rfl
theorem hostL_true (r1 r2 r3 r4 r5 : Int) (d : List Int) (n : Int) (l : List (Int × List Int × Unit)) (h1 : 0 ≤ r1 ∧ r1 < 256) (h3 : 0 ≤ r3 ∧ r3 < 65536) (h4 : 0 ≤ r4 ∧ r4 < 65536) (h5 : 0 ≤ r5 ∧ r5 < 65536) (hn : 0 ≤ n) (hl : ∀ o ∈ l, 0 ≤ o.1) :
    hostL_D 400 (r1, r2, r3, r4, r5, d, n, ()) l = some (true, ()) := by
  unfold hostL_D hostL_J0
  by_cases c1 : 300 < r5
  · rw [show decide ((300 : Int) < (r1, r2, r3, r4, r5, d, n, ()).snd.snd.snd.snd.fst) = true from dT c1]; rfl
  by_cases c2 : 300 < (d.length : Int)
  · rw [show decide ((300 : Int) < (r1, r2, r3, r4, r5, d, n, ()).snd.snd.snd.snd.fst) = false from dF c1, show decide ((300 : Int) < (List.length (r1, r2, r3, r4, r5, d, n, ()).snd.snd.snd.snd.snd.fst : Int)) = true from dT c2]; rfl
  by_cases c3 : 80 < (l.length : Int)
  · rw [show decide ((300 : Int) < (r1, r2, r3, r4, r5, d, n, ()).snd.snd.snd.snd.fst) = false from dF c1, show decide ((300 : Int) < (List.length (r1, r2, r3, r4, r5, d, n, ()).snd.snd.snd.snd.snd.fst : Int)) = false from dF c2, dT c3]; rfl
  rw [show decide ((300 : Int) < (r1, r2, r3, r4, r5, d, n, ()).snd.snd.snd.snd.fst) = false from dF c1, show decide ((300 : Int) < (List.length (r1, r2, r3, r4, r5, d, n, ()).snd.snd.snd.snd.snd.fst : Int)) = false from dF c2, dF c3]
  simp only [cond_false]
  obtain ⟨mx, hmx, hm⟩ := sizes_eq 400 n hn
  have fin : ∀ (q : Req), q.Ok → q.r1 = r1 → q.r2 = r2 → q.r3 = r3 → q.r4 = r4 → q.r5 = r5 → q.mx = mx → (bnd (hostL_L1 400 400 l 0 (1, r1, r2, r3, r4, r5, q.O, mx, true, 0, [], 0, 0, ()) (0, r1, r2, r3, r4, r5, q.O, mx, true, [], 0, 0, ())) fun y => sumK y (fun a => some a.fst) (fun b => bnd (lives8_D 400) fun y2 => some y2)) = some (true, ()) := by
    intro q hq e1 e2 e3 e4 e5 e6
    have hi : HI q 1 true true 0 [] 0 0 := ⟨.inl rfl, fun _ => rfl, ⟨by omega, by omega⟩, by have := hq.h5; simp; omega, ⟨by omega, .inl (by omega)⟩⟩
    have := host_L1 400 q hq l hl (by omega) 400 0 hi (by omega) (by omega)
    rw [show tOf q 1 true 0 [] 0 0 = (1, r1, r2, r3, r4, r5, q.O, mx, true, 0, [], 0, 0, ()) by unfold tOf; rw [e1, e2, e3, e4, e5, e6], show hOf q 1 true 0 [] 0 0 = (0, r1, r2, r3, r4, r5, q.O, mx, true, [], 0, 0, ()) by unfold hOf; rw [e1, e2, e3, e4, e5, e6]; rfl] at this
    rw [show ((0 : Nat) : Int) = 0 from rfl] at this
    rcases this with h | h <;> rw [h] <;> rfl
  rcases outO_eq 400 r1 r2 r3 r4 r5 d n ⟨h5.1, by omega⟩ (by omega) (by omega) with ⟨hw, O, hO, ho⟩ | ⟨hw, ho⟩
  · unfold hostL_J1
    rw [ho]
    simp only [bnd_some, sumK]
    unfold hostL_J2
    simp only [hmx, bnd_some, startQ_eq 400 r1 r2 r3 r4 r5 mx O h1 ⟨h5.1, by omega⟩ hm (by rw [hw]; simpa using hO), sumK]
    have e0 := host_L0 400 l (r1, r2, r3, r4, r5, d, n, ()) 1 r1 r2 r3 r4 r5 mx true 0 0 0 O 400 0 O (by omega) (by omega) (by omega)
    rw [show ((0 : Nat) : Int) = 0 from rfl] at e0
    rw [e0]
    simp only [bnd_some]
    unfold hostL_J3
    simp only [ho, bnd_some, sumK, hmx]
    exact fin ⟨r1, r2, r3, r4, r5, O, mx⟩ ⟨h1, h3, h4, h5, by show O.length ≤ 65535; omega, hm⟩ rfl rfl rfl rfl rfl rfl
  · unfold hostL_J1
    rw [ho]
    simp only [bnd_some, sumK]
    unfold hostL_J8
    simp only [hmx, bnd_some, startQ_eq 400 r1 r2 r3 r4 r5 mx [] h1 ⟨h5.1, by omega⟩ hm (by rw [hw]; simp), sumK]
    unfold hostL_J9
    simp only [ho, bnd_some, sumK, hmx]
    exact fin ⟨r1, r2, r3, r4, r5, [], mx⟩ ⟨h1, h3, h4, h5, by simp, hm⟩ rfl rfl rfl rfl rfl rfl
end Go.Proofs.Ytjibodklckppfaa

