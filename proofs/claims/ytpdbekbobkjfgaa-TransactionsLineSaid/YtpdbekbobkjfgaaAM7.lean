/-
  An abstract view of the machine, part 7: slices of slices, structs that are built, and one function for all operations that turn nothing.
  Conditions: none; nothing here speaks of one program.
-/
import Derived.Test.YtpdbekbobkjfgaaAM6
namespace Go.Proofs.Ytpdbekbobkjfgaa
open Go.RowKit
set_option linter.unusedVariables false

/-! ### Slices of slices -/
structure Cut3 where
  l : Nat
  h : Nat
  m : Option Nat
/-- The bounds of a slice of a slice of n elements, all within its length. -/
def cutB (n : Nat) (lo hi mx : Option Int) : Option Cut3 :=
  let h := (hi.getD n).toNat
  let l := (lo.getD 0).toNat
  if 0 ≤ hi.getD n ∧ 0 ≤ lo.getD 0 ∧ l ≤ h ∧ h ≤ n then
    match mx with
    | none => some ⟨l, h, none⟩
    | some m => if 0 ≤ m ∧ h ≤ m.toNat ∧ m.toNat ≤ n ∧ hi.isSome then some ⟨l, h, some m.toNat⟩ else none
  else none
def capC (c : Option Nat) (b : Cut3) : Option Nat :=
  match b.m with
  | some m => some (m - b.l)
  | none => c.map (· - b.l)
def intsOf (k : IntKind) : List D → Option (List Int)
  | [] => some []
  | .v (.int k' x) :: l => if k = k' then omap (intsOf k l) (x :: ·) else none
  | _ :: _ => none
theorem intsOf_cells {w : World} {F : Nat → Prop} {k : IntKind} : ∀ {ds : List D} {xs : List Int} {us : List Value}, intsOf k ds = some xs → RepRow w F (fun v => v.oneCell' = true) ds us → us = xs.map (.int k)
  | [], xs, us, h, hr => by
    simp only [intsOf, Option.some.injEq] at h; subst h
    simp only [RepRow] at hr; subst hr; rfl
  | d :: ds, xs, us, h, hr => by
    unfold intsOf at h
    split at h
    · rename_i heq; cases heq
    · rename_i k' x l heq
      cases heq
      split at h
      · rename_i hk
        subst hk
        obtain ⟨r, hr1, rfl⟩ := Option.map_eq_some_iff.1 h
        simp only [RepRow, RepD] at hr
        obtain ⟨v, rest, rfl, _, ⟨rfl, _⟩, h3⟩ := hr
        rw [intsOf_cells hr1 h3]
        simp [Value.cells]
      · cases h
    · cases h
def sliceV (P : Program) (t : TypeId) (x : AV) (lo hi mx : Option Int) : Option AV :=
  match x with
  | .d (.ints k xs c) => match elemT P t with
    | some (_, 1, _) => omap (cutB xs.length lo hi mx) fun b => .d (.ints k ((xs.take b.h).drop b.l) (capC c b))
    | _ => none
  | .d (.sl n xs c) => match elemT P t with
    | some (_, n', _) => if n = n' then omap (cutB xs.length lo hi mx) fun b => .d (.sl n ((xs.take b.h).drop b.l) (capC c b)) else none
    | none => none
  | .d (.v (.slice none 0 0)) => match elemT P t with
    | some _ => omap (cutB 0 lo hi mx) fun _ => .d (.v (.slice none 0 0))
    | none => none
  | .d (.v (.string s)) => match P.underlying t with
    | some .string => if mx.isSome then none else omap (cutB s.size lo hi none) fun b => .d (.v (.string (s.extract b.l b.h)))
    | _ => none
  | .eaddr (.agg ds) => match arrT P t with
    | some (l, e, 1, _) => match intT P e with
      | some k => match intsOf k ds with
        | some xs => if xs.length = l ∧ l ≤ 1000000 then omap (cutB l lo hi mx) fun b => .d (.ints k ((xs.take b.h).drop b.l) (capC (some l) b)) else none
        | none => none
      | none => none
    | _ => none
  | _ => none

def opI : Option Int → Option Value → Prop
  | none, none => True
  | some i, some v => ∃ k, v = .int k i
  | _, _ => False

theorem run_sliceBound {P : Program} {w : World} {k : IntKind} {i : Int} {y : Nat} {code : BoundsCode} (h0 : 0 ≤ i) (h1 : i.toNat ≤ y) : (Instr.sliceBound (.int k i) y code).run P w = .ok i.toNat w := by
  have : i ≤ (y : Int) := by omega
  simp [Instr.sliceBound, asIntOf, h0, this]

theorem run_sliceBounds {P : Program} {w : World} {b : Bool} {n cap : Nat} {lo hi mx : Option Int} {vl vh vm : Option Value} {r : Cut3} (hl : opI lo vl) (hh : opI hi vh) (hm : opI mx vm) (hb : cutB n lo hi mx = some r) (hc : n ≤ cap) :
    (Instr.sliceBounds b n cap vl vh vm).run P w = .ok (r.l, r.h, r.m.getD cap) w ∧ r.l ≤ r.h ∧ r.h ≤ n ∧ ∀ m, r.m = some m → r.h ≤ m ∧ m ≤ n := by
  unfold cutB at hb
  simp only at hb
  split at hb
  · rename_i hcond
    obtain ⟨h1, h2, h3, h4⟩ := hcond
    cases mx with
    | none =>
      cases vm with
      | some v => exact hm.elim
      | none =>
        simp only [Option.some.injEq] at hb; subst hb
        refine ⟨?_, h3, h4, by simp⟩
        cases hi with
        | none =>
          cases vh with
          | some v => exact hh.elim
          | none =>
            cases lo with
            | none =>
              cases vl with
              | some v => exact hl.elim
              | none => simp [Instr.sliceBounds]
            | some l =>
              cases vl with
              | none => exact hl.elim
              | some v =>
                obtain ⟨k, rfl⟩ := hl
                simp only [Option.getD_some, Option.getD_none] at h1 h2 h3 h4 ⊢
                simp only [Instr.sliceBounds, Sem.run_bind, Sem.run_pure, Result.andThen_ok]
                rw [run_sliceBound h2 (by simpa using h3)]; simp
        | some h =>
          cases vh with
          | none => exact hh.elim
          | some v =>
            obtain ⟨k, rfl⟩ := hh
            simp only [Option.getD_some, Option.getD_none] at h1 h2 h3 h4 ⊢
            cases lo with
            | none =>
              cases vl with
              | some v => exact hl.elim
              | none =>
                simp only [Instr.sliceBounds, Sem.run_bind, Sem.run_pure, Result.andThen_ok]
                rw [run_sliceBound h1 (by omega)]; simp
            | some l =>
              cases vl with
              | none => exact hl.elim
              | some v =>
                obtain ⟨k', rfl⟩ := hl
                simp only [Option.getD_some] at h2 h3 ⊢
                simp only [Instr.sliceBounds, Sem.run_bind, Sem.run_pure, Result.andThen_ok]
                rw [run_sliceBound h1 (by omega)]
                simp only [Result.andThen_ok]
                rw [run_sliceBound h2 h3]; simp
    | some m =>
      cases vm with
      | none => exact hm.elim
      | some v =>
        obtain ⟨km, rfl⟩ := hm
        simp only at hb
        split at hb
        · rename_i hcm
          obtain ⟨h5, h6, h7, h8⟩ := hcm
          simp only [Option.some.injEq] at hb; subst hb
          refine ⟨?_, h3, h4, by simp; omega⟩
          cases hi with
          | none => simp at h8
          | some h =>
            cases vh with
            | none => exact hh.elim
            | some v =>
              obtain ⟨k, rfl⟩ := hh
              simp only [Option.getD_some] at h1 h2 h3 h4 h6 ⊢
              cases lo with
              | none =>
                cases vl with
                | some v => exact hl.elim
                | none =>
                  simp only [Instr.sliceBounds, Sem.run_bind, Sem.run_pure, Result.andThen_ok]
                  rw [run_sliceBound h5 (by omega)]
                  simp only [Result.andThen_ok]
                  rw [run_sliceBound h1 h6]; simp
              | some l =>
                cases vl with
                | none => exact hl.elim
                | some v =>
                  obtain ⟨k', rfl⟩ := hl
                  simp only [Option.getD_some] at h2 h3 ⊢
                  simp only [Instr.sliceBounds, Sem.run_bind, Sem.run_pure, Result.andThen_ok]
                  rw [run_sliceBound h5 (by omega)]
                  simp only [Result.andThen_ok]
                  rw [run_sliceBound h1 h6]
                  simp only [Result.andThen_ok]
                  rw [run_sliceBound h2 h3]; simp
        · cases hb
  · cases hb

theorem run_slice_slice {P : Program} {w : World} {t e n : Nat} {g : Bool} (he : elemT P t = some (e, n, g)) {a : Option Addr} {len cap : Nat} {lo hi mx : Option Int} {vl vh vm : Option Value} {r : Cut3} (hl : opI lo vl) (hh : opI hi vh) (hm : opI mx vm) (hb : cutB len lo hi mx = some r) (hc : len ≤ cap) :
    (Instr.sliceAt t (.slice a len cap) vl vh vm).run P w = .ok (.slice (if r.m.getD cap = r.l then a else a.map (·.add (r.l * n))) (r.h - r.l) (r.m.getD cap - r.l)) w := by
  obtain ⟨hu, hn, hg, hne⟩ := elemT_parts he
  have hs := (run_sliceBounds (P := P) (w := w) (b := true) hl hh hm hb hc).1
  unfold Instr.sliceAt Instr.slice
  simp only [Sem.run_bind, run_underlying hu, Result.andThen_ok, hs, run_sizeOf' hn, Sem.run_pure]

theorem RepRow_slice {w : World} {F : Nat → Prop} {n : Nat} : ∀ {ds : List D} {vals : List Value} (i k : Nat), RepRow w F (fun v => v.cells.size = n) ds vals → RepRow w F (fun v => v.cells.size = n) ((ds.take k).drop i) ((vals.take (k * n)).drop (i * n))
  | ds, vals, i, 0, h => by simp [RepRow]
  | [], vals, i, k + 1, h => by
    simp only [RepRow] at h; subst h; simp [RepRow]
  | d :: ds, vals, i, k + 1, h => by
    simp only [RepRow] at h
    obtain ⟨v, rest, rfl, h0, h1, h2⟩ := h
    have hl : v.cells.toList.length = n := by simpa using h0
    have e1 : (v.cells.toList ++ rest).take ((k + 1) * n) = v.cells.toList ++ rest.take (k * n) := by
      rw [List.take_append, hl, List.take_of_length_le (by rw [hl, Nat.add_mul]; omega)]
      congr 1
      rw [Nat.add_mul]; simp
    rw [e1]
    cases i with
    | zero =>
      simp only [List.drop_zero, Nat.zero_mul, List.take_succ_cons]
      simp only [RepRow]
      refine ⟨v, _, rfl, h0, h1, ?_⟩
      simpa using RepRow_slice 0 k h2
    | succ i =>
      have e2 : (v.cells.toList ++ rest.take (k * n)).drop ((i + 1) * n) = (rest.take (k * n)).drop (i * n) := by
        rw [show (i + 1) * n = v.cells.toList.length + i * n by rw [hl, Nat.add_mul]; omega, List.drop_append, List.drop_eq_nil_of_le (Nat.le_add_right _ _), List.nil_append, Nat.add_sub_cancel_left]
      rw [e2]
      simpa using RepRow_slice i k h2

theorem opI_of {c : Ctx} {m : Nat → Value} {s : St} {a : Act} {w : World} (h : SRep c m s a w) {x : Option Operand} {i : Option Int}
    (hx : match x, i with | none, none => True | some x, some i => ∃ k, s.ev x = some (.d (.v (.int k i))) | _, _ => False) : opI i (x.map a.eval) := by
  cases x with
  | none => cases i with
    | none => trivial
    | some i => exact hx.elim
  | some x => cases i with
    | none => exact hx.elim
    | some i =>
      obtain ⟨k, hk⟩ := hx
      exact ⟨k, (repV_v.1 (h.ev hk)).1⟩

/-- The bounds as operands. -/
def St.evI (s : St) : Option Operand → Option (Option Int)
  | none => some none
  | some x => match s.ev x with
    | some (.d (.v (.int _ i))) => some (some i)
    | _ => none

theorem evI_opI {c : Ctx} {m : Nat → Value} {s : St} {a : Act} {w : World} (h : SRep c m s a w) {x : Option Operand} {i : Option Int} (hx : s.evI x = some i) : opI i (x.map a.eval) := by
  cases x with
  | none => simp only [St.evI, Option.some.injEq] at hx; subst hx; trivial
  | some x =>
    simp only [St.evI] at hx
    split at hx
    · rename_i k j hk
      cases hx
      exact ⟨k, (repV_v.1 (h.ev hk)).1⟩
    · cases hx

theorem sliceV_sound {P : Program} {c : Ctx} {m : Nat → Value} {s : St} {a : Act} {w : World} (h : SRep c m s a w) {o : Oper} {t : TypeId} {x : Operand} {xl xh xm : Option Operand} {lo hi mx : Option Int} {vx v : AV}
    (ho : o.op = .slice t x xl xh xm) (hx : s.ev x = some vx) (hl : s.evI xl = some lo) (hh : s.evI xh = some hi) (hm : s.evI xm = some mx) (hv : sliceV P t vx lo hi mx = some v) : ∃ u, Yld P o a w u ∧ RepV w (Forb c m s.hp) m v u := by
  have rx := h.ev hx
  have ol := evI_opI h hl
  have oh := evI_opI h hh
  have om := evI_opI h hm
  have key : ∀ u u', a.eval x = u → (Instr.sliceAt t u (xl.map a.eval) (xh.map a.eval) (xm.map a.eval)).run P w = .ok u' w → Yld P o a w u' := by
    intro u u' hu hr
    unfold Yld
    simp only [execOp, ho, hu, Sem.run_bind, hr, Result.andThen_ok, Sem.run_pure]
  have capP : ∀ (cc : Option Nat) (cap len : Nat) (b : Cut3), (∀ n, cc = some n → cap = n) → ∀ n, capC cc b = some n → b.m.getD cap - b.l = n := by
    intro cc cap len b hcc n hn
    unfold capC at hn
    split at hn
    · rename_i mm hmm; rw [hmm]; simpa using hn
    · rename_i hmm
      obtain ⟨n', h1, h2⟩ := Option.map_eq_some_iff.1 hn
      rw [hmm, Option.getD_none, hcc n' h1]; exact h2
  unfold sliceV at hv
  split at hv
  · rename_i k xs cc
    simp only [RepV, RepD] at rx
    obtain ⟨ad, cap, hu, h1, h2, h3, hcc, h4⟩ := rx
    split at hv
    · rename_i e g he
      obtain ⟨b, hb, rfl⟩ := Option.map_eq_some_iff.1 hv
      obtain ⟨_, b1, b2, b3⟩ := run_sliceBounds (P := P) (w := w) (b := true) ol oh om hb h1
      refine ⟨_, key _ _ hu (run_slice_slice he ol oh om hb h1), ?_⟩
      simp only [RepV, RepD]
      have hmcap : b.h ≤ b.m.getD cap := by
        cases hbm : b.m with
        | none => simp; omega
        | some mm => have := b3 mm hbm; simp; omega
      have hmle : b.m.getD cap ≤ cap := by
        cases hbm : b.m with
        | none => simp
        | some mm => have := b3 mm hbm; simp; omega
      have hlen : ((xs.take b.h).drop b.l).length = b.h - b.l := by simp; omega
      refine ⟨_, _, by rw [hlen], by rw [hlen]; omega, by omega, ?_, capP cc cap xs.length b hcc, fun hne => ?_⟩
      · intro hnone
        split at hnone
        · omega
        · have := h3 (by simpa using hnone); omega
      · have hlt : b.l < b.h := by
          rcases Nat.lt_or_ge b.l b.h with h' | h'
          · exact h'
          · exact absurd (List.eq_nil_of_length_eq_zero (by rw [hlen]; omega)) hne
        obtain ⟨bb, off, rfl, hF, hc⟩ := h4 (by intro e; rw [e] at b2; simp at b2; omega)
        refine ⟨bb, off + b.l, ?_, hF, fun i z hz => ?_⟩
        · rw [if_neg (by omega)]; simp [addr_add]
        · rw [List.getElem?_drop, List.getElem?_take] at hz
          split at hz
          · rw [Nat.add_assoc]; exact hc _ z hz
          · cases hz
    · cases hv
  · rename_i n xs cc
    simp only [RepV, RepD] at rx
    obtain ⟨ad, cap, vals, hu, h1, h2, h3, hcc, hr, h4⟩ := rx
    split at hv
    · rename_i e n' g he
      split at hv
      · rename_i hnn
        subst hnn
        obtain ⟨b, hb, rfl⟩ := Option.map_eq_some_iff.1 hv
        obtain ⟨_, b1, b2, b3⟩ := run_sliceBounds (P := P) (w := w) (b := true) ol oh om hb h1
        refine ⟨_, key _ _ hu (run_slice_slice he ol oh om hb h1), ?_⟩
        simp only [RepV, RepD]
        have hmcap : b.h ≤ b.m.getD cap := by
          cases hbm : b.m with
          | none => simp; omega
          | some mm => have := b3 mm hbm; simp; omega
        have hmle : b.m.getD cap ≤ cap := by
          cases hbm : b.m with
          | none => simp
          | some mm => have := b3 mm hbm; simp; omega
        have hlen : ((xs.take b.h).drop b.l).length = b.h - b.l := by simp; omega
        refine ⟨_, _, _, by rw [hlen], by rw [hlen]; omega, by omega, ?_, capP cc cap xs.length b hcc, RepRow_slice b.l b.h hr, fun hne => ?_⟩
        · intro hnone
          split at hnone
          · omega
          · have := h3 (by simpa using hnone); omega
        · have hne' : vals ≠ [] := by
            intro e; rw [e] at hne; simp at hne
          have hlt : b.l < b.h := by
            rcases Nat.lt_or_ge b.l b.h with h' | h'
            · exact h'
            · refine absurd ?_ hne
              apply List.drop_eq_nil_of_le
              rw [List.length_take]
              have := Nat.mul_le_mul_right n h'
              omega
          obtain ⟨bb, off, rfl, hF, hc⟩ := h4 hne'
          refine ⟨bb, off + b.l * n, ?_, hF, fun i z hz => ?_⟩
          · rw [if_neg (by omega)]; simp [addr_add]
          · rw [List.getElem?_drop, List.getElem?_take] at hz
            split at hz
            · rw [Nat.add_assoc]; exact hc _ z hz
            · cases hz
      · cases hv
    · cases hv
  · rw [repV_v] at rx
    split at hv
    · rename_i e3 he
      obtain ⟨b, hb, rfl⟩ := Option.map_eq_some_iff.1 hv
      obtain ⟨e, n, g⟩ := e3
      obtain ⟨_, b1, b2, b3⟩ := run_sliceBounds (P := P) (w := w) (b := true) (cap := 0) ol oh om hb (Nat.le_refl _)
      refine ⟨_, key _ _ rx.1 (run_slice_slice he ol oh om hb (Nat.le_refl _)), repV_v.2 ⟨?_, rfl⟩⟩
      have e1 : b.h - b.l = 0 := by omega
      have e2 : b.m.getD 0 - b.l = 0 := by
        cases hbm : b.m with
        | none => simp
        | some mm => have := b3 mm hbm; simp; omega
      rw [e1, e2]; simp
    · cases hv
  · rename_i str
    rw [repV_v] at rx
    split at hv
    · rename_i hu
      split at hv
      · cases hv
      · rename_i hmx
        obtain ⟨b, hb, rfl⟩ := Option.map_eq_some_iff.1 hv
        have hmx' : mx = none := by cases mx <;> simp at hmx ⊢
        subst hmx'
        cases xm with
        | some y => exact om.elim
        | none =>
          have hs := (run_sliceBounds (P := P) (w := w) (b := false) (mx := none) (vm := none) ol oh om hb (Nat.le_refl _)).1
          refine ⟨_, key _ _ rx.1 ?_, repV_v.2 ⟨rfl, rfl⟩⟩
          unfold Instr.sliceAt Instr.slice
          simp only [Sem.run_bind, run_underlying hu, Result.andThen_ok, Option.map_none, Option.isSome_none, Bool.false_eq_true, if_false, hs, Sem.run_pure]
    · cases hv
  · rename_i ds
    simp only [RepV, RepD] at rx
    obtain ⟨b0, off, u, hu, hF, ⟨us, rfl, hr⟩, hb0, hc⟩ := rx
    split at hv
    · rename_i l e g he
      obtain ⟨hun, hn, hg, hne⟩ := arrT_parts he
      split at hv
      · rename_i k hk
        split at hv
        · rename_i xs hxs
          split at hv
          · rename_i hlen
            obtain ⟨hlen, hbig⟩ := hlen
            obtain ⟨b, hb, rfl⟩ := Option.map_eq_some_iff.1 hv
            have hus := intsOf_cells hxs hr
            obtain ⟨hs, b1, b2, b3⟩ := run_sliceBounds (P := P) (w := w) (b := false) ol oh om hb (Nat.le_refl _)
            have hmcap : b.h ≤ b.m.getD l := by
              cases hbm : b.m with
              | none => simp; omega
              | some mm => have := b3 mm hbm; simp; omega
            have hmle : b.m.getD l ≤ l := by
              cases hbm : b.m with
              | none => simp
              | some mm => have := b3 mm hbm; simp; omega
            refine ⟨.slice (some (if b.m.getD l = b.l then ⟨b0, off, none⟩ else ⟨b0, off + b.l, none⟩)) (b.h - b.l) (b.m.getD l - b.l), key _ _ hu ?_, ?_⟩
            · unfold Instr.sliceAt
              simp only [Sem.run_bind, run_underlying hun, Result.andThen_ok, Instr.sureAddr, Sem.run_pure, hs, run_sizeOf' hn, Nat.mul_one, addr_add]
            · simp only [RepV, RepD]
              have hll : ((xs.take b.h).drop b.l).length = b.h - b.l := by simp; omega
              refine ⟨_, _, by rw [hll], by rw [hll]; omega, by unfold maxLen; omega, by simp, capP (some l) l l b (by simp), fun hne' => ?_⟩
              have hlt : b.l < b.h := by
                rcases Nat.lt_or_ge b.l b.h with h' | h'
                · exact h'
                · exact absurd (List.eq_nil_of_length_eq_zero (by rw [hll]; omega)) hne'
              refine ⟨b0, off + b.l, by rw [if_neg (by omega)], hF, fun i z hz => ?_⟩
              rw [List.getElem?_drop, List.getElem?_take] at hz
              split at hz
              · have := hc (b.l + i) (.int k z) (by rw [hus]; simp [Value.cells, hz])
                rw [Nat.add_assoc]; exact this
              · cases hz
          · cases hv
        · cases hv
      · cases hv
    · cases hv
  · cases hv

end Go.Proofs.Ytpdbekbobkjfgaa
