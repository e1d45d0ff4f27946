/-
  The statement ControlsHost: the plain law, part 1: what a transfer and the reference's host do with an outcome.
  Conditions: none.
-/
import Derived.Test.YtjibodklckppfaaH8h
import Derived.Test.YtjibodklckppfaaKF
namespace Go.Proofs.Ytjibodklckppfaa
set_option linter.unusedVariables false
set_option linter.unusedSimpArgs false
set_option maxRecDepth 100000
set_option maxHeartbeats 4000000

theorem gr1 (n : Nat) (h : n ≤ 1000000000) : growOb 1 n = true := growT (by omega) (by omega)
theorem wi64 {x : Int} (h0 : -9223372036854775808 ≤ x) (h1 : x < 9223372036854775808) : Go.IntKind.wrap .i64 x = x := by simp [Go.IntKind.wrap, Go.IntKind.bits, Go.IntKind.signed]; omega
theorem mkA (b : Nat) (c : Int) (any : Bool) (hb : b ≤ 64) (h0 : 0 ≤ c) (h : c ≤ 1000000) : makeOb b 0 c any = true := by
  have : (b : Int) * c ≤ 281474976710656 := by
    have := Int.mul_le_mul (show (b : Int) ≤ 64 by omega) h h0 (by omega)
    omega
  simp [makeOb, h0, this]
theorem mkL (b : Nat) (c : Int) (hb : b ≤ 64) (h0 : 0 ≤ c) (h : c ≤ 1000000) : makeOb b c c true = true := by
  have : (b : Int) * c ≤ 281474976710656 := by
    have := Int.mul_le_mul (show (b : Int) ≤ 64 by omega) h h0 (by omega)
    omega
  simp [makeOb, h0, this]
theorem clipT (n : Nat) : (decide ((0 : Int) ≤ (n : Int)) && (decide ((n : Int) ≤ (n : Int)) && decide (Int.toNat (n : Int) ≤ n))) = true := by
  rw [dT (show (0 : Int) ≤ (n : Int) by omega), dT (show (n : Int) ≤ (n : Int) by omega), dT (show Int.toNat (n : Int) ≤ n by omega)]; rfl
theorem and128 : ∀ n : Fin 256, decide (Go.bits .and .u8 ((n.val : Nat) : Int) 128 = 0) = decide (n.val < 128) := by decide +kernel
theorem and128' (x : Int) (h0 : 0 ≤ x) (h1 : x < 256) : decide (Go.bits .and .u8 x 128 = 0) = decide (x < 128) := by
  obtain ⟨n, rfl⟩ : ∃ n : Nat, x = n := ⟨x.toNat, by omega⟩
  have := and128 ⟨n, by omega⟩
  simp only at this
  rw [this]
  simp only [decide_eq_decide]; omega
def rdB (r1 r5 : Int) : Bool := decide (128 ≤ r1) && decide (0 < r5)
def wrB (r1 r5 : Int) : Bool := decide (r1 < 128) && decide (0 < r5)
theorem reads_eq (m : Nat) (r1 r2 r3 r4 r5 : Int) (h0 : 0 ≤ r1) (h1 : r1 < 256) : reads_D m (r1, r2, r3, r4, r5, ()) = some (rdB r1 r5, ()) := by
  unfold reads_D reads_J0
  rw [show decide (Go.bits .and .u8 (r1, r2, r3, r4, r5, ()).fst 128 = 0) = decide (r1 < 128) from and128' r1 h0 h1]
  by_cases h : r1 < 128
  · rw [dT h, rdB, dF (by omega : ¬ 128 ≤ r1)]; rfl
  · rw [dF h, rdB, dT (by omega : 128 ≤ r1)]; rfl
theorem writes_eq (m : Nat) (r1 r2 r3 r4 r5 : Int) (h0 : 0 ≤ r1) (h1 : r1 < 256) : writes_D m (r1, r2, r3, r4, r5, ()) = some (wrB r1 r5, ()) := by
  unfold writes_D writes_J0
  rw [show decide (Go.bits .and .u8 (r1, r2, r3, r4, r5, ()).fst 128 = 0) = decide (r1 < 128) from and128' r1 h0 h1]
  by_cases h : r1 < 128
  · rw [dT h, wrB, dT h]; rfl
  · rw [dF h, wrB, dF h]; rfl
theorem rreads_eq (m : Nat) (r1 r2 r3 r4 r5 : Int) : rreads_D m (r1, r2, r3, r4, r5, ()) = some (rdB r1 r5, ()) := by
  unfold rreads_D rreads_J0 rdB
  by_cases h : 128 ≤ r1
  · simp only [dT h, cond_true, Bool.true_and]
  · simp only [dF h, cond_false, Bool.false_and]
theorem rwrites_eq (m : Nat) (r1 r2 r3 r4 r5 : Int) : rwrites_D m (r1, r2, r3, r4, r5, ()) = some (wrB r1 r5, ()) := by
  unfold rwrites_D rwrites_J0 wrB
  by_cases h : r1 < 128
  · simp only [dT h, cond_true, Bool.true_and]
  · simp only [dF h, cond_false, Bool.false_and]
def isMx (x : Int) : Prop := x = 8 ∨ x = 16 ∨ x = 32 ∨ x = 64
theorem sizes_eq (m : Nat) (n : Int) (h0 : 0 ≤ n) : ∃ x, sizes_D m n = some (x, ()) ∧ isMx x := by
  have h : Int.tmod n 4 = 0 ∨ Int.tmod n 4 = 1 ∨ Int.tmod n 4 = 2 ∨ Int.tmod n 4 = 3 := by
    rw [Int.tmod_eq_emod_of_nonneg h0]; omega
  unfold sizes_D
  rcases h with h | h | h | h <;> rw [h]
  · exact ⟨8, by rfl, .inl rfl⟩
  · exact ⟨16, by rfl, .inr (.inl rfl)⟩
  · exact ⟨32, by rfl, .inr (.inr (.inl rfl))⟩
  · exact ⟨64, by rfl, .inr (.inr (.inr rfl))⟩
theorem fits8_eq (m : Nat) (x : Int) (h : isMx x) : fits8_D m x = some (true, ()) := by
  rcases h with rfl | rfl | rfl | rfl <;> rfl
theorem clone8_eq (m : Nat) (xs : List Int) (h : xs.length ≤ 1000000) : clone8_D m xs = some (xs, ()) := by
  unfold clone8_D
  rw [mkA 1 _ true (by omega) (by omega) (by omega), gr1 _ (by simp; omega)]
  rfl
theorem wu8 (x : Int) : Go.IntKind.wrap .u8 x = x % 256 := by simp [Go.IntKind.wrap, Go.IntKind.bits, Go.IntKind.signed]
theorem wu16 (x : Int) : Go.IntKind.wrap .u16 x = x % 65536 := by simp [Go.IntKind.wrap, Go.IntKind.bits, Go.IntKind.signed]
theorem byteLo (x : Int) (h0 : 0 ≤ x) : Go.IntKind.wrap .u8 (Int.tmod x 256) = Go.IntKind.wrap .u8 x := by
  rw [wu8, wu8, Int.tmod_eq_emod_of_nonneg h0]; omega
theorem byteHi (x : Int) (h0 : 0 ≤ x) (h1 : x < 65536) : Go.IntKind.wrap .u8 (Go.IntKind.wrap .u16 (Int.tdiv x 256)) = Go.IntKind.wrap .u8 (Int.fdiv x 256) := by
  rw [wu8, wu8, wu16, Int.tdiv_eq_ediv_of_nonneg h0, Int.fdiv_eq_ediv_of_nonneg _ (by omega)]; omega
theorem split_eq (m : Nat) (r1 r2 r3 r4 r5 : Int) (h3 : 0 ≤ r3 ∧ r3 < 65536) (h4 : 0 ≤ r4 ∧ r4 < 65536) (h5 : 0 ≤ r5 ∧ r5 < 65536) : split8_D m (r1, r2, r3, r4, r5, ()) = rbytes_D m (r1, r2, r3, r4, r5, ()) := by
  unfold split8_D rbytes_D
  simp only [byteLo _ h3.1, byteLo _ h4.1, byteLo _ h5.1, byteHi _ h3.1 h3.2, byteHi _ h4.1 h4.2, byteHi _ h5.1 h5.2]
  rfl
abbrev HoT : Type := Int × Int × Int × Int × Int × Int × List Int × Int × Bool × List Int × Int × Int × Unit
structure Req where
  r1 : Int
  r2 : Int
  r3 : Int
  r4 : Int
  r5 : Int
  O : List Int
  mx : Int
structure Req.Ok (q : Req) : Prop where
  h1 : 0 ≤ q.r1 ∧ q.r1 < 256
  h3 : 0 ≤ q.r3 ∧ q.r3 < 65536
  h4 : 0 ≤ q.r4 ∧ q.r4 < 65536
  h5 : 0 ≤ q.r5 ∧ q.r5 < 65536
  hO : q.O.length ≤ 65535
  hm : isMx q.mx
def tOf (q : Req) (st : Int) (tg : Bool) (at' : Int) (got : List Int) (er e : Int) : TrT := (st, q.r1, q.r2, q.r3, q.r4, q.r5, q.O, q.mx, tg, at', got, er, e, ())
def hOf (q : Req) (st : Int) (tg : Bool) (at' : Int) (got : List Int) (er e : Int) : HoT := (st - 1, q.r1, q.r2, q.r3, q.r4, q.r5, q.O.drop at'.toNat, q.mx, tg, got, er, e, ())
structure HI (q : Req) (st : Int) (tg tg' : Bool) (at' : Int) (got : List Int) (er e : Int) : Prop where
  st1 : st = 1 ∨ st = 2 ∨ st = 3 ∨ st = 4
  tgl : st ≠ 4 → tg = tg'
  at0 : 0 ≤ at' ∧ at' ≤ q.O.length
  gl : (got.length : Int) ≤ q.r5
  er0 : 0 ≤ er ∧ (er < 3 ∨ st = 4)
theorem mx_lt {x : Int} (h : isMx x) : 8 ≤ x ∧ x ≤ 64 := by rcases h with rfl | rfl | rfl | rfl <;> omega
theorem out_next (q : Req) (hq : q.Ok) (at' : Int) (h : 0 ≤ at' ∧ at' ≤ q.O.length) :
    (if (q.O.length : Int) < at' + q.mx then (q.O.length : Int) else at' + q.mx) = at' + (min q.mx (q.O.length - at')) := by
  have := mx_lt hq.hm
  split <;> omega
def outNow (q : Req) (at' : Int) : List Int := (q.O.drop at'.toNat).take q.mx.toNat
theorem outNow_len (q : Req) (hq : q.Ok) (at' : Int) (h : 0 ≤ at' ∧ at' ≤ q.O.length) : ((outNow q at').length : Int) = min q.mx (q.O.length - at') := by
  have := mx_lt hq.hm
  unfold outNow
  simp only [List.length_take, List.length_drop]; omega
theorem next_data (m : Nat) (q : Req) (hq : q.Ok) (tg : Bool) (at' : Int) (got : List Int) (er e : Int) (h : 0 ≤ at' ∧ at' ≤ q.O.length) (hr : rdB q.r1 q.r5 = false) :
    next8_D m (tOf q 2 tg at' got er e) = some (((0, 0, 1, tg, false, 0, outNow q at', ()), true, ()), ()) ∧
    rnext8_D m (hOf q 2 tg at' got er e) = some ((0, 0, 1, tg, false, 0, outNow q at', ()), ()) := by
  have hm := mx_lt hq.hm
  have hO := hq.hO
  constructor
  · unfold next8_D tOf
    simp only [reads_eq m _ _ _ _ _ hq.h1.1 hq.h1.2, bnd_some, hr, cond_false]
    rw [wi64 (by omega) (by omega), out_next q hq at' h]
    have e1 : (q.O.take (Int.toNat (at' + min q.mx (q.O.length - at')))).drop at'.toNat = outNow q at' := by
      unfold outNow
      rw [List.drop_take]
      have : (Int.toNat (at' + min q.mx (q.O.length - at'))) - at'.toNat = min q.mx.toNat (q.O.length - at'.toNat) := by omega
      rw [this, List.take_eq_take_iff]
      simp only [List.length_drop]; omega
    simp only [decide_true, cond_true, cond_false]
    rw [dT h.1, dT (by omega : at' ≤ at' + min q.mx (q.O.length - at')), dT (by omega : Int.toNat (at' + min q.mx (q.O.length - at')) ≤ q.O.length), e1,
      clone8_eq m _ (by have := outNow_len q hq at' h; omega)]
    rfl
  · unfold rnext8_D rnext8_J0 hOf
    simp only [rreads_eq, bnd_some, hr, cond_false]
    have e2 : decide ((2 : Int) - 1 = 1) = true := by decide
    have e3 : decide ((2 : Int) - 1 = 0) = false := by decide
    rw [e2, e3]
    simp only [cond_true, cond_false]
    by_cases hc : q.mx < ((q.O.drop at'.toNat).length : Int)
    · rw [dT hc, dT (by omega : (0 : Int) ≤ q.mx), dT (by omega : q.mx.toNat ≤ (q.O.drop at'.toNat).length)]
      rfl
    · rw [dF hc]
      simp only [cond_false]
      have : outNow q at' = q.O.drop at'.toNat := by unfold outNow; rw [List.take_of_length_le (by omega)]
      rw [this]
theorem ans_step (m : Nat) (q : Req) (hq : q.Ok) {st : Int} {tg tg' : Bool} {at' : Int} {got : List Int} {er e : Int} (hi : HI q st tg tg' at' got er e) (o : Int × List Int × Unit) (ho : 0 ≤ o.1) (hl : o.2.1.length ≤ 100) :
    ∃ st2 tg2 tg2' at2 got2 er2 e2, ans8_D m (tOf q st tg at' got er e) o = some (tOf q st2 tg2 at2 got2 er2 e2, ()) ∧ rans8_D m (hOf q st tg' at' got er e) o = some (hOf q st2 tg2' at2 got2 er2 e2, ()) ∧ HI q st2 tg2 tg2' at2 got2 er2 e2 := by
  obtain ⟨c, b, ⟨⟩⟩ := o
  simp only at ho hl
  have hm := mx_lt hq.hm
  have hO := hq.hO
  have h5 := hq.h5
  obtain ⟨h1, h2, h3, h4, h6⟩ := hi
  -- out of range, or over
  by_cases hx : st = 4 ∨ c < 1 ∨ 6 < c
  · refine ⟨st, tg, tg', at', got, er, e, ?_, ?_, ⟨h1, h2, h3, h4, h6⟩⟩
    · unfold ans8_D tOf
      rcases h1 with rfl | rfl | rfl | rfl
      · unfold ans81_D ans81_J0
        rcases hx with hx | hx | hx
        · omega
        · simp [show c = 0 by omega]
        · simp [show ¬ c = 0 by omega, hx]
      · unfold ans82_D ans82_J0
        rcases hx with hx | hx | hx
        · omega
        · simp [show c = 0 by omega]
        · simp [show ¬ c = 0 by omega, hx]
      · unfold ans83_D ans83_J0
        rcases hx with hx | hx | hx
        · omega
        · simp [show c = 0 by omega]
        · simp [show ¬ c = 0 by omega, hx]
      · rfl
    · unfold rans8_D rans8_J0 hOf
      by_cases h : st - 1 = 3
      · simp [h]
      · rcases hx with hx | hx | hx
        · omega
        · simp [h, hx]
        · simp [h, show ¬ c < 1 by omega, hx]
  have hst : st ≠ 4 := fun h => hx (.inl h)
  obtain rfl := h2 hst
  have er3 : er < 3 := by rcases h6.2 with h | h; exact h; exact absurd h hst
  have hw : Go.IntKind.wrap .i64 (er + 1) = er + 1 := wi64 (by omega) (by omega)
  have w3 : Go.IntKind.wrap .i64 3 = 3 := by decide
  have c1 : ¬ c < 1 := fun h => hx (.inr (.inl h))
  have c6 : ¬ 6 < c := fun h => hx (.inr (.inr h))
  have c0 : ¬ c = 0 := by omega
  have s3 : ¬ st - 1 = 3 := by omega
  by_cases c4 : c = 4
  · subst c4
    by_cases hn : er + 1 = 3
    · refine ⟨4, tg, tg, at', got, er + 1, 11, ?_, ?_, ⟨by simp, fun _ => rfl, h3, h4, ⟨by omega, .inr rfl⟩⟩⟩
      · unfold ans8_D tOf
        rcases h1 with rfl | rfl | rfl | rfl
        · unfold ans81_D ans81_J0; simp [hw, hn, w3]
        · unfold ans82_D ans82_J0; simp [hw, hn, w3]
        · unfold ans83_D ans83_J0; simp [hw, hn, w3]
        · exact absurd rfl hst
      · unfold rans8_D rans8_J0 hOf; simp [hw, hn, s3, w3]
    · refine ⟨st, tg, tg, at', got, er + 1, e, ?_, ?_, ⟨h1, fun _ => rfl, h3, h4, ⟨by omega, .inl (by omega)⟩⟩⟩
      · unfold ans8_D tOf
        rcases h1 with rfl | rfl | rfl | rfl
        · unfold ans81_D ans81_J0; simp [hw, hn, w3]
        · unfold ans82_D ans82_J0; simp [hw, hn, w3]
        · unfold ans83_D ans83_J0; simp [hw, hn, w3]
        · exact absurd rfl hst
      · unfold rans8_D rans8_J0 hOf; simp [hw, hn, s3, w3]
  by_cases c3 : c = 3
  · subst c3
    refine ⟨4, tg, tg, at', got, 0, 12, ?_, ?_, ⟨by simp, fun _ => rfl, h3, h4, ⟨by omega, .inr rfl⟩⟩⟩
    · unfold ans8_D tOf
      rcases h1 with rfl | rfl | rfl | rfl
      · unfold ans81_D ans81_J0; simp
      · unfold ans82_D ans82_J0; simp
      · unfold ans83_D ans83_J0; simp
      · exact absurd rfl hst
    · unfold rans8_D rans8_J0 hOf; simp [s3]
  by_cases c5 : c = 5
  · subst c5
    refine ⟨4, tg, tg, at', got, 0, 13, ?_, ?_, ⟨by simp, fun _ => rfl, h3, h4, ⟨by omega, .inr rfl⟩⟩⟩
    · unfold ans8_D tOf
      rcases h1 with rfl | rfl | rfl | rfl
      · unfold ans81_D ans81_J0; simp
      · unfold ans82_D ans82_J0; simp
      · unfold ans83_D ans83_J0; simp
      · exact absurd rfl hst
    · unfold rans8_D rans8_J0 hOf; simp [s3]
  by_cases cd : ¬ c = 1
  · refine ⟨st, tg, tg, at', got, 0, e, ?_, ?_, ⟨h1, fun _ => rfl, h3, h4, ⟨by omega, .inl (by omega)⟩⟩⟩
    · unfold ans8_D tOf
      rcases h1 with rfl | rfl | rfl | rfl
      · unfold ans81_D ans81_J0; simp [c0, c6, c4, c3, c5, cd]
      · unfold ans82_D ans82_J0; simp [c0, c6, c4, c3, c5, cd]
      · unfold ans83_D ans83_J0; simp [c0, c6, c4, c3, c5, cd]
      · exact absurd rfl hst
    · unfold rans8_D rans8_J0 hOf; simp [s3, c1, c6, c4, c3, c5, cd]
  obtain rfl : c = 1 := Classical.not_not.1 cd
  rcases h1 with rfl | rfl | rfl | rfl
  · -- setup
    by_cases hz : 0 < q.r5
    · refine ⟨2, tg, tg, at', got, 0, e, ?_, ?_, ⟨by simp, fun _ => rfl, h3, h4, ⟨by omega, .inl (by omega)⟩⟩⟩
      · unfold ans8_D tOf ans81_D ans81_J0; simp [hz]
      · unfold rans8_D rans8_J0 hOf; simp [rreads_eq, bnd_some, hz]
    · refine ⟨3, tg, tg, at', got, 0, e, ?_, ?_, ⟨by simp, fun _ => rfl, h3, h4, ⟨by omega, .inl (by omega)⟩⟩⟩
      · unfold ans8_D tOf ans81_D ans81_J0; simp [hz]
      · unfold rans8_D rans8_J0 hOf; simp [rreads_eq, bnd_some, hz]
  · -- data
    cases hr : rdB q.r1 q.r5 with
    | false =>
      obtain ⟨_, hn⟩ := next_data m q hq (!tg) at' got 0 e h3 hr
      have hol := outNow_len q hq at' h3
      have e0 : Int.toNat (((outNow q at').length : Nat) : Int) = (outNow q at').length := toNatC _
      have ob : (decide ((0 : Int) ≤ ((outNow q at').length : Nat)) && decide (Int.toNat (((outNow q at').length : Nat) : Int) ≤ (q.O.drop at'.toNat).length)) = true := by
        rw [dT (by omega), dT (by simp only [List.length_drop]; omega)]; rfl
      have ed : (q.O.drop at'.toNat).drop (Int.toNat (((outNow q at').length : Nat) : Int)) = q.O.drop (at' + (outNow q at').length).toNat := by
        rw [List.drop_drop, e0]; congr 1; omega
      have ew : (if (q.O.length : Int) < Go.IntKind.wrap .i64 (at' + q.mx) then (q.O.length : Int) else Go.IntKind.wrap .i64 (at' + q.mx)) = at' + (outNow q at').length := by
        rw [wi64 (by omega) (by omega), out_next q hq at' h3, hol]
      by_cases hend : at' + ((outNow q at').length : Int) = q.O.length
      · refine ⟨3, !tg, !tg, at' + (outNow q at').length, got, 0, e, ?_, ?_, ⟨by simp, fun _ => rfl, ⟨by omega, by omega⟩, h4, ⟨by omega, .inl (by omega)⟩⟩⟩
        · unfold ans8_D tOf ans82_D ans82_J0
          simp only [reads_eq m _ _ _ _ _ hq.h1.1 hq.h1.2, bnd_some, hr, cond_false]
          rw [ew, dT hend]
          simp
        · unfold rans8_D rans8_J0
          unfold hOf at hn ⊢
          simp only [rreads_eq, bnd_some, hr, Bool.not_false, cond_true]
          simp only [show ((2 : Int) - 1) = 1 by rfl] at hn ⊢
          rw [hn]
          simp only [bnd_some]
          rw [ob, ed, dT (show (((q.O.drop (at' + (outNow q at').length).toNat).length : Nat) : Int) = 0 by simp only [List.length_drop]; omega)]
          simp
      · refine ⟨2, !tg, !tg, at' + (outNow q at').length, got, 0, e, ?_, ?_, ⟨by simp, fun _ => rfl, ⟨by omega, by omega⟩, h4, ⟨by omega, .inl (by omega)⟩⟩⟩
        · unfold ans8_D tOf ans82_D ans82_J0
          simp only [reads_eq m _ _ _ _ _ hq.h1.1 hq.h1.2, bnd_some, hr, cond_false]
          rw [ew, dF hend]
          simp
        · unfold rans8_D rans8_J0
          unfold hOf at hn ⊢
          simp only [rreads_eq, bnd_some, hr, Bool.not_false, cond_true]
          simp only [show ((2 : Int) - 1) = 1 by rfl] at hn ⊢
          rw [hn]
          simp only [bnd_some]
          rw [ob, ed, dF (show ¬ (((q.O.drop (at' + (outNow q at').length).toNat).length : Nat) : Int) = 0 by simp only [List.length_drop]; omega)]
          simp
    | true =>
      have w5 : Go.IntKind.wrap .i64 q.r5 = q.r5 := wi64 (by omega) (by omega)
      have wg : Go.IntKind.wrap .i64 ((got.length : Int) + (b.length : Int)) = got.length + b.length := wi64 (by omega) (by omega)
      have tk : got.take (Int.toNat (got.length : Int)) = got := by rw [toNatC, List.take_length]
      by_cases hb : q.mx < (b.length : Int) ∨ q.r5 < (got.length : Int) + b.length
      · refine ⟨4, tg, !tg, at', got, 0, 13, ?_, ?_, ⟨by simp, fun h => absurd rfl h, h3, h4, ⟨by omega, .inr rfl⟩⟩⟩
        · unfold ans8_D tOf ans82_D ans82_J0
          simp only [reads_eq m _ _ _ _ _ hq.h1.1 hq.h1.2, bnd_some, hr, cond_true, w5, wg]
          by_cases hb1 : q.mx < (b.length : Int)
          · simp [hb1]
          · have hb2 : q.r5 < (got.length : Int) + b.length := hb.resolve_left hb1
            simp [hb1, hb2]
        · unfold rans8_D rans8_J0 rans8_J2 hOf
          simp only [rreads_eq, bnd_some, hr, Bool.not_true, cond_false, w5, wg]
          by_cases hb1 : q.mx < (b.length : Int)
          · simp [hb1]
          · have hb2 : q.r5 < (got.length : Int) + b.length := hb.resolve_left hb1
            simp [hb1, hb2]
      · have hb1 : ¬ q.mx < (b.length : Int) := fun h => hb (.inl h)
        have hb2 : ¬ q.r5 < (got.length : Int) + b.length := fun h => hb (.inr h)
        have g1 : growOb 1 (0 + got.length) = true := gr1 _ (by omega)
        have g2 : growOb 1 (([] ++ got).length + b.length) = true := gr1 _ (by simp only [List.nil_append]; omega)
        have g3 : growOb 1 (got.length + b.length) = true := gr1 _ (by omega)
        have ans : ∀ (s : Int), (if (b.length : Int) < q.mx ∨ ((got.length + b.length : Nat) : Int) = q.r5 then (3 : Int) else 2) = s → ans8_D m (tOf q 2 tg at' got er e) (1, b, ()) = some (tOf q s (!tg) at' (got ++ b) 0 e, ()) ∧ rans8_D m (hOf q 2 tg at' got er e) (1, b, ()) = some (hOf q s (!tg) at' (got ++ b) 0 e, ()) := by
          intro s hs
          constructor
          · unfold ans8_D tOf ans82_D ans82_J0
            simp only [reads_eq m _ _ _ _ _ hq.h1.1 hq.h1.2, bnd_some, hr, cond_true, w5, wg, tk, clipT, dF hb1, dF hb2, cond_false]
            by_cases hbz : b.length = 0
            · have : b = [] := List.length_eq_zero_iff.1 hbz
              subst this
              have : s = 3 := by rw [← hs, if_pos (.inl (by simp only [List.length_nil]; omega))]
              subst this
              simp [show (0 : Int) < q.mx by omega]
            · simp only [dF hbz, cond_false, toNatC, dT (rfl : got.length = got.length), dT (show 0 < b.length by omega), g3, Bool.and_self, cond_true]
              by_cases hx1 : (b.length : Int) < q.mx
              · rw [if_pos (.inl hx1)] at hs; subst hs; simp [hx1]
              · by_cases hx2 : ((got.length + b.length : Nat) : Int) = q.r5
                · rw [if_pos (.inr hx2)] at hs; subst hs
                  have : ((got.length : Int) + (b.length : Int)) = q.r5 := by omega
                  simp [hx1, this]
                · rw [if_neg (by omega)] at hs; subst hs
                  have : ¬ ((got.length : Int) + (b.length : Int)) = q.r5 := by omega
                  simp [hx1, this]
          · unfold rans8_D rans8_J0 rans8_J2 rans8_J3 hOf
            simp only [rreads_eq, bnd_some, hr, Bool.not_true, cond_false, w5, wg, dF hb1, dF hb2, g1, g2]
            by_cases hx1 : (b.length : Int) < q.mx
            · rw [if_pos (.inl hx1)] at hs; subst hs; simp [hx1]
            · by_cases hx2 : ((got.length + b.length : Nat) : Int) = q.r5
              · rw [if_pos (.inr hx2)] at hs; subst hs
                have : ((got.length : Int) + (b.length : Int)) = q.r5 := by omega
                simp [hx1, this]
              · rw [if_neg (by omega)] at hs; subst hs
                have : ¬ ((got.length : Int) + (b.length : Int)) = q.r5 := by omega
                simp [hx1, this]
        refine ⟨_, !tg, !tg, at', got ++ b, 0, e, (ans _ rfl).1, (ans _ rfl).2, ⟨by split <;> simp, fun _ => rfl, h3, by simp only [List.length_append]; omega, ⟨by omega, .inl (by omega)⟩⟩⟩
  · -- status
    cases hr : rdB q.r1 q.r5 with
    | true =>
      refine ⟨4, tg, tg, at', got, 0, 0, ?_, ?_, ⟨by simp, fun _ => rfl, h3, h4, ⟨by omega, .inr rfl⟩⟩⟩
      · unfold ans8_D tOf ans83_D ans83_J0
        simp only [reads_eq m _ _ _ _ _ hq.h1.1 hq.h1.2, bnd_some, hr, Bool.not_true, cond_false]
        simp
      · unfold rans8_D rans8_J0 rans8_J1 hOf
        simp only [rreads_eq, bnd_some, hr]
        simp
    | false =>
      by_cases hb : 0 < (b.length : Int)
      · refine ⟨4, tg, tg, at', got, 0, 13, ?_, ?_, ⟨by simp, fun _ => rfl, h3, h4, ⟨by omega, .inr rfl⟩⟩⟩
        · unfold ans8_D tOf ans83_D ans83_J0
          simp only [reads_eq m _ _ _ _ _ hq.h1.1 hq.h1.2, bnd_some, hr, Bool.not_false, cond_true, dT hb]
          simp
        · unfold rans8_D rans8_J0 rans8_J1 hOf
          simp only [rreads_eq, bnd_some, hr, dT hb]
          simp
      · refine ⟨4, tg, tg, at', got, 0, 0, ?_, ?_, ⟨by simp, fun _ => rfl, h3, h4, ⟨by omega, .inr rfl⟩⟩⟩
        · unfold ans8_D tOf ans83_D ans83_J0
          simp only [reads_eq m _ _ _ _ _ hq.h1.1 hq.h1.2, bnd_some, hr, Bool.not_false, cond_true, dF hb]
          simp
        · unfold rans8_D rans8_J0 rans8_J1 hOf
          simp only [rreads_eq, bnd_some, hr, dF hb]
          simp
  · exact absurd rfl hst
end Go.Proofs.Ytjibodklckppfaa

