/-
  An abstract view of the machine, part 6: indices, lengths, slices of slices, structs that are built; all operations that turn nothing.
  Conditions: none; nothing here speaks of one program.
-/
import Derived.Test.YtpdbekbobkjfgaaAM5
namespace Go.Proofs.Ytpdbekbobkjfgaa
open Go.RowKit
set_option linter.unusedVariables false

theorem addr_add (b off n : Nat) : (⟨b, off, none⟩ : Addr).add n = ⟨b, off + n, none⟩ := by
  unfold Addr.add; split
  · rename_i h; subst h; rfl
  · rfl

/-- The address of an element. -/
def indexAddrV (P : Program) (s : St) (t : TypeId) (x : AV) (i : Int) : Option AV :=
  if i < 0 then none else
  match x with
  | .d (.ints k xs _) => match elemT P t with
    | some (_, 1, _) => omap (xs[i.toNat]?) fun z => .eaddr (.v (.int k z))
    | _ => none
  | .d (.sl n xs _) => match elemT P t with
    | some (_, n', _) => if n = n' then omap (xs[i.toNat]?) .eaddr else none
    | none => none
  | .own κ => match gt κ s.hp with
    | some (.ints _ _ xs _) => match elemT P t with
      | some (_, 1, _) => if i.toNat < xs.length then some (.pel κ i.toNat) else none
      | _ => none
    | some (.row _ n xs _) => match elemT P t with
      | some (_, n', _) => if n = n' ∧ i.toNat < xs.length then some (.pel κ (i.toNat * n)) else none
      | none => none
    | _ => none
  | .ptr κ off => match arrT P t with
    | some (l, _, n, _) => if i.toNat < l then some (.ptr κ (off + i.toNat * n)) else none
    | none => none
  | .eaddr (.agg ds) => match arrT P t with
    | some (l, _, 1, false) => if i.toNat < l then obind (ds[i.toNat]?) fun d => if d.isAgg then none else some (.eaddr d) else none
    | _ => none
  | _ => none

theorem run_indexAt_slice {P : Program} {w : World} {t e n : Nat} {g : Bool} (h : elemT P t = some (e, n, g)) {b off len cap : Nat} {k : IntKind} {i : Int} (h0 : 0 ≤ i) (h1 : i < len) :
    (Instr.indexAt t (.slice (some ⟨b, off, none⟩) len cap) (.int k i)).run P w = .ok (.pointer (some ⟨b, off + i.toNat * n, none⟩)) w := by
  obtain ⟨hu, hn, hg, hne⟩ := elemT_parts h
  unfold Instr.indexAt
  simp only [asIntOf, Sem.run_bind, Sem.run_pure, Result.andThen_ok, run_underlying hu]
  simp only [h0, h1, and_self, if_true, Sem.run_bind, run_sizeOf' hn, Result.andThen_ok, Sem.run_pure, addr_add]

theorem run_indexAt_array {P : Program} {w : World} {t l e n : Nat} {g : Bool} (h : arrT P t = some (l, e, n, g)) {b off : Nat} {k : IntKind} {i : Int} (h0 : 0 ≤ i) (h1 : i < l) :
    (Instr.indexAt t (.pointer (some ⟨b, off, none⟩)) (.int k i)).run P w = .ok (.pointer (some ⟨b, off + i.toNat * n, none⟩)) w := by
  obtain ⟨hu, hn, hg, hne⟩ := arrT_parts h
  unfold Instr.indexAt
  simp only [asIntOf, Sem.run_bind, Sem.run_pure, Result.andThen_ok, run_underlying hu, Instr.sureAddr]
  simp only [h0, h1, and_self, if_true, Sem.run_bind, run_sizeOf' hn, Result.andThen_ok, Sem.run_pure, addr_add]

theorem indexAddrV_sound {P : Program} {c : Ctx} {m : Nat → Value} {s : St} {a : Act} {w : World} (h : SRep c m s a w) {o : Oper} {t : TypeId} {x y : Operand} {vx v : AV} {k : IntKind} {i : Int}
    (ho : o.op = .indexAddr t x y) (hx : s.ev x = some vx) (hy : s.ev y = some (.d (.v (.int k i)))) (hv : indexAddrV P s t vx i = some v) : ∃ u, Yld P o a w u ∧ RepV w (Forb c m s.hp) m v u := by
  have rx := h.ev hx
  have ry := repV_v.1 (h.ev hy)
  unfold indexAddrV at hv
  split at hv
  · cases hv
  · rename_i hi0
    have h0 : 0 ≤ i := by omega
    have hin : (i.toNat : Int) = i := Int.toNat_of_nonneg h0
    split at hv
    · rename_i k' xs cc
      simp only [RepV, RepD] at rx
      obtain ⟨ad, cap, hu, h1, h2, h3, _, h4⟩ := rx
      split at hv
      · rename_i e g he
        obtain ⟨z, hz, rfl⟩ := Option.map_eq_some_iff.1 hv
        have hlt : i.toNat < xs.length := (List.getElem?_eq_some_iff.1 hz).1
        obtain ⟨b, off, rfl, hF, hc⟩ := h4 (by intro e; rw [e] at hlt; simp at hlt)
        refine ⟨.pointer (some ⟨b, off + i.toNat * 1, none⟩), ?_, ?_⟩
        · unfold Yld
          simp only [execOp, ho, hu, ry.1, Sem.run_bind, run_indexAt_slice he h0 (by omega : i < (xs.length : Int)), Result.andThen_ok, Sem.run_pure]
        · simp only [RepV, RepD, Nat.mul_one]
          refine ⟨b, off + i.toNat, .int k' z, rfl, hF, ⟨rfl, rfl⟩, cell_lt (hc _ z hz), fun j zz hj => ?_⟩
          cases j with
          | zero => simp [Value.cells] at hj; subst hj; exact hc _ z hz
          | succ j => simp [Value.cells] at hj
      · cases hv
    · rename_i n xs cc
      simp only [RepV, RepD] at rx
      obtain ⟨ad, cap, vals, hu, h1, h2, h3, _, hr, h4⟩ := rx
      split at hv
      · rename_i e n' g he
        split at hv
        · rename_i hnn
          subst hnn
          obtain ⟨d, hd, rfl⟩ := Option.map_eq_some_iff.1 hv
          have hlt : i.toNat < xs.length := (List.getElem?_eq_some_iff.1 hd).1
          obtain ⟨hl, hget⟩ := RepRow_get hr
          obtain ⟨u, hu1, hu2, hu3⟩ := hget _ d hd
          have hn0 := (elemT_parts he).2.2.2
          have hne : vals ≠ [] := by
            intro e
            rw [e] at hl
            rcases Nat.mul_eq_zero.1 hl.symm with hl | hl
            · rw [hl] at hlt; simp at hlt
            · exact hn0 hl
          obtain ⟨b, off, rfl, hF, hc⟩ := h4 hne
          refine ⟨.pointer (some ⟨b, off + i.toNat * n, none⟩), ?_, ?_⟩
          · unfold Yld
            simp only [execOp, ho, hu, ry.1, Sem.run_bind, run_indexAt_slice he h0 (by omega : i < (xs.length : Int)), Result.andThen_ok, Sem.run_pure]
          · simp only [RepV]
            have hb : b < w.heap.size := by
              cases vals with
              | nil => exact absurd rfl hne
              | cons z l => exact cell_lt (hc 0 z rfl)
            refine ⟨b, off + i.toNat * n, u, rfl, hF, hu2, hb, fun j zz hj => ?_⟩
            have := hc _ zz (hu3 j zz hj)
            rw [Nat.add_assoc]; exact this
        · cases hv
      · cases hv
    · rename_i κ
      simp only [RepV] at rx
      split at hv
      · rename_i e' k' xs cc hB
        split at hv
        · rename_i e g he
          split at hv
          · rename_i hlt
            cases hv
            obtain ⟨ad, cap, h1, h2, h3, h4, h5⟩ := (h.heap κ _ hB).1.cells
            obtain ⟨b, rfl, _, _, _⟩ := h5 (by intro e; have := congrArg List.length e; simp at this; rw [this] at hlt; simp at hlt)
            refine ⟨.pointer (some ⟨b, 0 + i.toNat * 1, none⟩), ?_, ?_⟩
            · unfold Yld
              simp only [execOp, ho, rx.1, h1, ry.1, Sem.run_bind, run_indexAt_slice he h0 (by omega : i < (xs.length : Int)), Result.andThen_ok, Sem.run_pure]
            · simp only [RepV, Nat.mul_one, Nat.zero_add]; exact ⟨b, _, _, h1, rfl⟩
          · cases hv
        · cases hv
      · rename_i e' n xs cc hB
        split at hv
        · rename_i e n' g he
          split at hv
          · rename_i hlt
            obtain ⟨rfl, hlt⟩ := hlt
            cases hv
            obtain ⟨vals, hown, _, hr⟩ := h.heap κ _ hB
            obtain ⟨ad, cap, h1, h2, h3, h4, h5⟩ := hown.cells
            have hn0 := (elemT_parts he).2.2.2
            obtain ⟨b, rfl, _, _, _⟩ := h5 (by
              intro e
              have hl := hown.1
              rw [e] at hl
              rcases Nat.mul_eq_zero.1 hl.symm with hl | hl
              · rw [hl] at hlt; simp at hlt
              · exact hn0 hl)
            refine ⟨.pointer (some ⟨b, 0 + i.toNat * n, none⟩), ?_, ?_⟩
            · unfold Yld
              simp only [execOp, ho, rx.1, h1, ry.1, Sem.run_bind, run_indexAt_slice he h0 (by omega : i < (xs.length : Int)), Result.andThen_ok, Sem.run_pure]
            · simp only [RepV, Nat.zero_add]; exact ⟨b, _, _, h1, rfl⟩
          · cases hv
        · cases hv
      · cases hv
    · rename_i κ off
      simp only [RepV] at rx
      obtain ⟨b, hm, hu⟩ := rx
      split at hv
      · rename_i l e n g he
        split at hv
        · rename_i hlt
          cases hv
          refine ⟨.pointer (some ⟨b, off + i.toNat * n, none⟩), ?_, by simp only [RepV]; exact ⟨b, hm, rfl⟩⟩
          unfold Yld
          simp only [execOp, ho, hu, ry.1, Sem.run_bind, run_indexAt_array he h0 (by omega : i < (l : Int)), Result.andThen_ok, Sem.run_pure]
        · cases hv
      · cases hv
    · rename_i ds
      simp only [RepV, RepD] at rx
      obtain ⟨b, off, u, hu, hF, ⟨us, rfl, hr⟩, hb, hc⟩ := rx
      rw [RepOnes_iff] at hr
      split at hv
      · rename_i l e he
        split at hv
        · rename_i hlt
          obtain ⟨d, hd, hv⟩ := Option.bind_eq_some_iff.1 hv
          split at hv
          · cases hv
          · cases hv
            obtain ⟨u, h1, h2, h3⟩ := hr.2 _ d hd
            refine ⟨.pointer (some ⟨b, off + i.toNat * 1, none⟩), ?_, ?_⟩
            · unfold Yld
              simp only [execOp, ho, hu, ry.1, Sem.run_bind, run_indexAt_array he h0 (by omega : i < (l : Int)), Result.andThen_ok, Sem.run_pure]
            · simp only [RepV, Nat.mul_one]
              refine ⟨b, off + i.toNat, u, rfl, hF, h3, hb, fun j z hz => ?_⟩
              rw [cells_one h2] at hz
              have hj : j = 0 := by
                have := (Array.getElem?_eq_some_iff.1 hz).1
                simp at this; exact this
              subst hj
              simp at hz; subst hz
              exact hc i.toNat u (by simpa [Value.cells] using h1)
        · cases hv
      · cases hv
    · cases hv

/-- An element of an array that is held by value; a byte of a string. -/
def indexV (P : Program) (t : TypeId) (x : AV) (i : Int) : Option AV :=
  if i < 0 then none else
  match x with
  | .d (.v (.string s)) => match P.underlying t with
    | some .string => omap (s[i.toNat]?) fun b => .d (.v (.int .u8 b.toNat))
    | _ => none
  | x => match x.fields with
    | some cs => match arrT P t with
      | some (l, _, n, true) => if i.toNat < l ∧ i.toNat * n + n ≤ cs.length then some (mkAgg ((cs.drop (i.toNat * n)).take n)) else none
      | some (l, _, n, false) => if i.toNat < l then cs[i.toNat * n]? else none
      | none => none
    | none => none

theorem indexV_sound {P : Program} {c : Ctx} {m : Nat → Value} {s : St} {a : Act} {w : World} (h : SRep c m s a w) {o : Oper} {t : TypeId} {x y : Operand} {vx v : AV} {k : IntKind} {i : Int}
    (ho : o.op = .index t x y) (hx : s.ev x = some vx) (hy : s.ev y = some (.d (.v (.int k i)))) (hv : indexV P t vx i = some v) : ∃ u, Yld P o a w u ∧ RepV w (Forb c m s.hp) m v u := by
  have rx := h.ev hx
  have ry := repV_v.1 (h.ev hy)
  unfold indexV at hv
  split at hv
  · cases hv
  · rename_i hi0
    have h0 : 0 ≤ i := by omega
    split at hv
    · rename_i str
      rw [repV_v] at rx
      split at hv
      · rename_i hu
        obtain ⟨b, hb, rfl⟩ := Option.map_eq_some_iff.1 hv
        refine ⟨_, ?_, repV_v.2 ⟨rfl, rfl⟩⟩
        unfold Yld
        simp only [execOp, ho, rx.1, ry.1, Instr.index, asIntOf, Sem.run_bind, Sem.run_pure, Result.andThen_ok, run_underlying hu, h0, if_true, hb]
      · cases hv
    · split at hv
      · rename_i cs hcs
        obtain ⟨us, hu, hr, h1⟩ := fields_rep rx hcs
        split at hv
        · rename_i l e n he
          obtain ⟨hun, hn, hg, hne⟩ := arrT_parts he
          split at hv
          · rename_i hle
            cases hv
            have hil : i < (l : Int) := by omega
            refine ⟨.agg ((us.drop (i.toNat * n)).take n).toArray, ?_, mkAgg_rep (RepVs_slice hr _ n) (fun z hz => h1 z (List.mem_of_mem_drop (List.mem_of_mem_take hz)))⟩
            unfold Yld
            simp only [execOp, ho, hu, ry.1, Instr.index, asIntOf, Sem.run_bind, Sem.run_pure, Result.andThen_ok, run_underlying hun, h0, hil, and_self, if_true, run_sizeOf' hn, part, run_isAgg' hg]
            congr 3
            apply Array.ext'
            simp
          · cases hv
        · rename_i l e n he
          obtain ⟨hun, hn, hg, hne⟩ := arrT_parts he
          split at hv
          · rename_i hlt
            obtain ⟨u, h3, h4⟩ := (RepVs_iff.1 hr).2 _ v hv
            have hil : i < (l : Int) := by omega
            refine ⟨u, ?_, h4⟩
            have h5 : us.toArray[i.toNat * n]? = some u := by simpa using h3
            unfold Yld
            simp only [execOp, ho, hu, ry.1, Instr.index, asIntOf, Sem.run_bind, Sem.run_pure, Result.andThen_ok, run_underlying hun, h0, hil, and_self, if_true, run_sizeOf' hn, part, run_isAgg' hg, Bool.false_eq_true, if_false, h5]
          · cases hv
        · cases hv
      · cases hv

/-- Of a slice: its length, its capacity. -/
def lenV (P : Program) (s : St) (t : TypeId) : AV → Option Int
  | .d (.ints _ xs _) => if (elemT P t).isSome then some xs.length else none
  | .d (.sl _ xs _) => if (elemT P t).isSome then some xs.length else none
  | .d (.v (.slice none 0 0)) => if (elemT P t).isSome then some 0 else none
  | .d (.v (.string x)) => match P.underlying t with | some .string => some x.size | _ => none
  | .own κ => if (elemT P t).isSome then match gt κ s.hp with
    | some (.ints _ _ xs _) => some xs.length
    | some (.row _ _ xs _) => some xs.length
    | _ => none else none
  | _ => none
def capV (P : Program) (s : St) (t : TypeId) : AV → Option Int
  | .d (.ints _ xs (some c)) => if (elemT P t).isSome then some c else none
  | .d (.sl _ xs (some c)) => if (elemT P t).isSome then some c else none
  | .d (.v (.slice none 0 0)) => if (elemT P t).isSome then some 0 else none
  | .own κ => if (elemT P t).isSome then match gt κ s.hp with
    | some (.ints _ _ xs (some c)) => some c
    | some (.row _ _ xs (some c)) => some c
    | _ => none else none
  | _ => none

theorem elemT_some {P : Program} {t : TypeId} (h : (elemT P t).isSome = true) : ∃ e, P.underlying t = some (.slice e) := by
  obtain ⟨⟨e, n, g⟩, he⟩ := Option.isSome_iff_exists.1 h
  exact ⟨e, (elemT_parts he).1⟩

theorem run_len_slice {P : Program} {w : World} {t e ty : TypeId} (hu : P.underlying t = some (.slice e)) (a : Option Addr) (n cap : Nat) : (Builtin.len_ #[t] ty #[.slice a n cap]).run P w = .ok (.int .i64 n) w := by
  simp [Builtin.len_, run_underlying hu, goInt]
theorem run_cap_slice {P : Program} {w : World} {t e ty : TypeId} (hu : P.underlying t = some (.slice e)) (a : Option Addr) (n cap : Nat) : (Builtin.cap_ #[t] ty #[.slice a n cap]).run P w = .ok (.int .i64 cap) w := by
  simp [Builtin.cap_, run_underlying hu, goInt]
theorem run_len_string {P : Program} {w : World} {t ty : TypeId} (hu : P.underlying t = some .string) (x : ByteArray) : (Builtin.len_ #[t] ty #[.string x]).run P w = .ok (.int .i64 x.size) w := by
  simp [Builtin.len_, run_underlying hu, goInt]

theorem lenV_sound {P : Program} {c : Ctx} {m : Nat → Value} {s : St} {a : Act} {w : World} (h : SRep c m s a w) {o : Oper} {t : TypeId} {x : Operand} {vx : AV} {n : Int}
    (ho : o.op = .call { callee := .builtin .len, args := #[x], argTypes := #[t] }) (hx : s.ev x = some vx) (hv : lenV P s t vx = some n) : Yld P o a w (.int .i64 n) := by
  have rx := h.ev hx
  have key : ∀ u, a.eval x = u → (Builtin.len_ #[t] o.type #[u]).run P w = .ok (.int .i64 n) w → Yld P o a w (.int .i64 n) := by
    intro u hu hr
    unfold Yld
    simp only [execOp, ho, resolve, invoke, builtin, Sem.run_bind, Sem.run_pure, Result.andThen_ok, List.map_toArray, List.map_cons, List.map_nil, hu, hr]
  unfold lenV at hv
  split at hv
  · simp only [RepV, RepD] at rx
    obtain ⟨ad, cap, hu, _⟩ := rx
    split at hv
    · rename_i he; obtain ⟨e, he⟩ := elemT_some he
      cases hv; exact key _ hu (run_len_slice he _ _ _)
    · cases hv
  · simp only [RepV, RepD] at rx
    obtain ⟨ad, cap, vals, hu, _⟩ := rx
    split at hv
    · rename_i he; obtain ⟨e, he⟩ := elemT_some he
      cases hv; exact key _ hu (run_len_slice he _ _ _)
    · cases hv
  · split at hv
    · rename_i he; obtain ⟨e, he⟩ := elemT_some he
      cases hv; exact key _ (repV_v.1 rx).1 (run_len_slice he _ _ _)
    · cases hv
  · split at hv
    · rename_i hu
      cases hv; exact key _ (repV_v.1 rx).1 (run_len_string hu _)
    · cases hv
  · simp only [RepV] at rx
    split at hv
    · rename_i he; obtain ⟨e, he⟩ := elemT_some he
      split at hv
      · rename_i hB
        cases hv
        obtain ⟨ad, cap, h1, _⟩ := (h.heap _ _ hB).1.cells
        exact key _ (rx.1.trans h1) (run_len_slice he _ _ _)
      · rename_i hB
        cases hv
        obtain ⟨vals, hown, _⟩ := h.heap _ _ hB
        obtain ⟨ad, cap, h1, _⟩ := hown.cells
        exact key _ (rx.1.trans h1) (run_len_slice he _ _ _)
      · cases hv
    · cases hv
  · cases hv

theorem capV_sound {P : Program} {c : Ctx} {m : Nat → Value} {s : St} {a : Act} {w : World} (h : SRep c m s a w) {o : Oper} {t : TypeId} {x : Operand} {vx : AV} {n : Int}
    (ho : o.op = .call { callee := .builtin .cap, args := #[x], argTypes := #[t] }) (hx : s.ev x = some vx) (hv : capV P s t vx = some n) : Yld P o a w (.int .i64 n) := by
  have rx := h.ev hx
  have key : ∀ u, a.eval x = u → (Builtin.cap_ #[t] o.type #[u]).run P w = .ok (.int .i64 n) w → Yld P o a w (.int .i64 n) := by
    intro u hu hr
    unfold Yld
    simp only [execOp, ho, resolve, invoke, builtin, Sem.run_bind, Sem.run_pure, Result.andThen_ok, List.map_toArray, List.map_cons, List.map_nil, hu, hr]
  unfold capV at hv
  split at hv
  · simp only [RepV, RepD] at rx
    obtain ⟨ad, cap, hu, _, _, _, hc, _⟩ := rx
    split at hv
    · rename_i he; obtain ⟨e, he⟩ := elemT_some he
      cases hv
      have := hc _ rfl; subst this
      exact key _ hu (run_cap_slice he _ _ _)
    · cases hv
  · simp only [RepV, RepD] at rx
    obtain ⟨ad, cap, vals, hu, _, _, _, hc, _⟩ := rx
    split at hv
    · rename_i he; obtain ⟨e, he⟩ := elemT_some he
      cases hv
      have := hc _ rfl; subst this
      exact key _ hu (run_cap_slice he _ _ _)
    · cases hv
  · split at hv
    · rename_i he; obtain ⟨e, he⟩ := elemT_some he
      cases hv; exact key _ (repV_v.1 rx).1 (run_cap_slice he _ _ _)
    · cases hv
  · simp only [RepV] at rx
    split at hv
    · rename_i he; obtain ⟨e, he⟩ := elemT_some he
      split at hv
      · rename_i hB
        cases hv
        obtain ⟨ad, l, h1⟩ := (h.heap _ _ hB).2 _ rfl
        exact key _ (rx.1.trans h1) (run_cap_slice he _ _ _)
      · rename_i hB
        cases hv
        obtain ⟨vals, hown, hcap, _⟩ := h.heap _ _ hB
        obtain ⟨ad, l, h1⟩ := hcap _ rfl
        exact key _ (rx.1.trans h1) (run_cap_slice he _ _ _)
      · cases hv
    · cases hv
  · cases hv

end Go.Proofs.Ytpdbekbobkjfgaa
