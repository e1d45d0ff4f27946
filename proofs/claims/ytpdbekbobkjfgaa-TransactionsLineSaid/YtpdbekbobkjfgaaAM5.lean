/-
  An abstract view of the machine, part 5: operations that read memory, or reckon out addresses.
  Conditions: none; nothing here speaks of one program.
-/
import Derived.Test.YtpdbekbobkjfgaaAM30
namespace Go.Proofs.Ytpdbekbobkjfgaa
open Go.RowKit
set_option linter.unusedVariables false

def D.isAgg : D → Bool
  | .agg _ => true
  | _ => false
def D.size : D → Nat
  | .agg cs => cs.length
  | _ => 1

theorem repD_notAgg {w : World} {F : Nat → Prop} {d : D} {u : Value} (h : RepD w F d u) (hd : d.isAgg = false) : u.oneCell' = true := by
  cases d with
  | v x => simp only [RepD] at h; rw [h.1]; exact h.2
  | ints k xs c => simp only [RepD] at h; obtain ⟨a, cap, rfl, _⟩ := h; rfl
  | sl n xs c => simp only [RepD] at h; obtain ⟨a, cap, vals, rfl, _⟩ := h; rfl
  | agg cs => simp [D.isAgg] at hd
theorem repD_agg {w : World} {F : Nat → Prop} {d : D} {u : Value} (h : RepD w F d u) (hd : d.isAgg = true) : ∃ us : List Value, u = .agg us.toArray ∧ us.length = d.size := by
  cases d with
  | agg cs =>
    simp only [RepD] at h
    obtain ⟨us, h1, h2⟩ := h
    exact ⟨us, h1, (RepOnes_iff.1 h2).1.symm⟩
  | _ => simp [D.isAgg] at hd

theorem run_load_cell {P : Program} {w : World} {a : Addr} {v : Value} (h : w.cell? a = some v) : (load a).run P w = .ok v w := by simp [load, Sem.run, h]

/-- A variable that is read whole: what its cells stand for. -/
theorem run_loadVar_d {P : Program} {w : World} {F : Nat → Prop} {d : D} {v : Value} {t : TypeId} {b off : Nat} (hd : RepD w F d v) (hg : aggT P t = some d.isAgg) (hn : d.isAgg = true → szT P t = some d.size)
    (hc : ∀ (i : Nat) c, v.cells[i]? = some c → w.cell? ⟨b, off + i, none⟩ = some c) : (loadVar t ⟨b, off, none⟩).run P w = .ok v w := by
  unfold loadVar
  simp only [Sem.run_bind, run_isAgg' hg, Result.andThen_ok]
  cases hb : d.isAgg with
  | true =>
    obtain ⟨us, rfl, hl⟩ := repD_agg hd hb
    simp only [if_true, Sem.run_bind, run_sizeOf' (hn hb), Result.andThen_ok]
    have := run_loadCells_list (P := P) w ⟨b, off, none⟩ us (fun j v hv => by
      have := hc j v (by simpa [Value.cells] using hv)
      unfold Addr.add; split
      · rename_i h0; subst h0; exact this
      · exact this)
    rw [← hl, this]; rfl
  | false =>
    have h1 := repD_notAgg hd hb
    have h2 := hc 0 v (by rw [cells_one h1]; rfl)
    simp only [Bool.false_eq_true, if_false]
    exact run_load_cell h2

theorem run_loadVar_vs {P : Program} {w : World} {F : Nat → Prop} {m : Nat → Value} {cs : List AV} {us : List Value} {t : TypeId} {b off : Nat} {g : Bool} (hr : RepVs w F m cs us) (h1 : ∀ u ∈ us, u.oneCell' = true)
    (hg : aggT P t = some g) (hn : g = true → szT P t = some us.length) (hn' : g = false → us.length = 1)
    (hc : ∀ (i : Nat) c, us[i]? = some c → w.cell? ⟨b, off + i, none⟩ = some c) : ∃ v, (loadVar t ⟨b, off, none⟩).run P w = .ok v w ∧ RepV w F m (if g then mkAgg cs else (cs.head?).getD .bot) v := by
  unfold loadVar
  simp only [Sem.run_bind, run_isAgg' hg, Result.andThen_ok]
  cases g with
  | true =>
    simp only [if_true, Sem.run_bind, run_sizeOf' (hn rfl), Result.andThen_ok]
    have := run_loadCells_list (P := P) w ⟨b, off, none⟩ us (fun j v hv => by
      have := hc j v hv
      unfold Addr.add; split
      · rename_i h0; subst h0; exact this
      · exact this)
    exact ⟨_, by rw [this]; rfl, mkAgg_rep hr h1⟩
  | false =>
    have hl := hn' rfl
    obtain ⟨u, rfl⟩ := List.length_eq_one_iff.1 hl
    have h2 := hc 0 u rfl
    simp only [Bool.false_eq_true, if_false]
    rw [RepVs_iff] at hr
    obtain ⟨v0, rfl⟩ := List.length_eq_one_iff.1 hr.1
    obtain ⟨u', h3, h4⟩ := hr.2 0 v0 rfl
    simp at h3; subst h3
    exact ⟨u, run_load_cell h2, by simpa using h4⟩

/-- A load. -/
def loadV (P : Program) (s : St) (t : TypeId) : AV → Option AV
  | .ptr κ off => match gt κ s.hp with
    | some (.box _ cs) => match aggT P t with
      | some true => match szT P t with
        | some n => if off + n ≤ cs.length then some (mkAgg ((cs.drop off).take n)) else none
        | none => none
      | some false => cs[off]?
      | none => none
    | _ => none
  | .pel κ off => match gt κ s.hp with
    | some (.ints _ k xs _) => if aggT P t = some false then omap (xs[off]?) fun x => .d (.v (.int k x)) else none
    | some (.row _ n xs _) => if n ≠ 0 ∧ off % n = 0 then match xs[off / n]? with
        | some d => if aggT P t = some d.isAgg ∧ szT P t = some d.size ∧ (d.isAgg = true ∨ n = 1) then some (.d d) else none
        | none => none else none
    | _ => none
  | .eaddr d => if aggT P t = some d.isAgg ∧ szT P t = some d.size then some (.d d) else none
  | _ => none

theorem ownRow_cell {w : World} {e : TypeId} {size : Nat} {v : Value} {n : Nat} {xs : List Value} (h : OwnRow w e size v n xs) {b l cap : Nat} (hv : v = .slice (some ⟨b, 0, none⟩) l cap) {i : Nat} {x : Value} (hx : xs[i]? = some x) : w.cell? ⟨b, i, none⟩ = some x := by
  obtain ⟨a, cap', h1, _, _, _, h5⟩ := h.cells
  obtain ⟨b', h6, _, _, h8⟩ := h5 (by intro e; rw [e] at hx; simp at hx)
  rw [h1] at hv; simp at hv
  obtain ⟨hv, _⟩ := hv
  rw [h6] at hv; simp at hv; subst hv
  simpa using h8 i x hx

theorem loadV_sound {P : Program} {c : Ctx} {m : Nat → Value} {s : St} {a : Act} {w : World} (h : SRep c m s a w) {o : Oper} {t : TypeId} {x : Operand} {vx v : AV}
    (ho : o.op = .load t x) (hx : s.ev x = some vx) (hv : loadV P s t vx = some v) : ∃ u, Yld P o a w u ∧ RepV w (Forb c m s.hp) m v u := by
  have rx := h.ev hx
  unfold loadV at hv
  split at hv
  · rename_i κ off
    simp only [RepV] at rx
    obtain ⟨b, hm, hu⟩ := rx
    split at hv
    · rename_i e cs hB
      obtain ⟨b', cells, h1, h2, h3, h4⟩ := h.heap κ _ hB
      rw [hm] at h1; simp at h1; subst h1
      have hcell : ∀ (i : Nat) z, cells.toList[i]? = some z → w.cell? ⟨b, i, none⟩ = some z := fun i z hz => by
        rw [cell_of_row w b i cells e (0, 0) h2]; simpa using hz
      have key : ∀ (g : Bool) (k : Nat), aggT P t = some g → (g = true → szT P t = some k) → (g = false → k = 1) → off + k ≤ cs.length → ∃ u, Yld P o a w u ∧ RepV w (Forb c m s.hp) m (if g then mkAgg ((cs.drop off).take k) else (((cs.drop off).take k).head?).getD .bot) u := by
        intro g k hg hk1 hk2 hle
        have hlen := (RepVs_iff.1 h3).1
        obtain ⟨u, h5, h6⟩ := run_loadVar_vs (P := P) (t := t) (b := b) (off := off) (g := g) (RepVs_slice h3 off k) (fun z hz => h4 z (by
          have := List.mem_of_mem_drop (List.mem_of_mem_take hz); simpa using this)) hg (fun hgt => by rw [hk1 hgt, List.length_take, List.length_drop]; congr 1; omega) (fun hgf => by rw [List.length_take, List.length_drop, hk2 hgf]; have := hk2 hgf; omega)
          (fun i z hz => by
            rw [List.getElem?_take] at hz
            split at hz
            · rw [List.getElem?_drop] at hz; exact hcell _ z hz
            · cases hz)
        refine ⟨u, ?_, h6⟩
        unfold Yld
        simp only [execOp, ho, hu, Instr.loadAt, Instr.sureAddr, Sem.run_bind, Sem.run_pure, Result.andThen_ok, h5]
      split at hv
      · rename_i hg
        split at hv
        · rename_i k hk
          split at hv
          · rename_i hle
            cases hv
            exact key true k hg (fun _ => hk) (by simp) hle
          · cases hv
        · cases hv
      · rename_i hg
        have hlt : off < cs.length := (List.getElem?_eq_some_iff.1 hv).1
        have := key false 1 hg (by simp) (fun _ => rfl) (by omega)
        have e2 : (List.take 1 (List.drop off cs)).head? = some v := by
          rw [List.head?_eq_getElem?, List.getElem?_take, if_pos (by decide), List.getElem?_drop]; exact hv
        simpa [e2] using this
      · cases hv
    · cases hv
  · rename_i κ off
    simp only [RepV] at rx
    obtain ⟨b, l, cap, hm, hu⟩ := rx
    split at hv
    · rename_i e k xs cc hB
      have hown := (h.heap κ _ hB).1
      split at hv
      · rename_i hg
        obtain ⟨z, hz, rfl⟩ := Option.map_eq_some_iff.1 hv
        have hcell := ownRow_cell hown hm (i := off) (x := .int k z) (by simp [hz])
        refine ⟨.int k z, ?_, repV_v.2 ⟨rfl, rfl⟩⟩
        have hl : (loadVar t ⟨b, off, none⟩).run P w = .ok (.int k z) w := by
          unfold loadVar
          simp only [Sem.run_bind, run_isAgg' hg, Result.andThen_ok, Bool.false_eq_true, if_false]
          exact run_load_cell hcell
        unfold Yld
        simp only [execOp, ho, hu, Instr.loadAt, Instr.sureAddr, Sem.run_bind, Sem.run_pure, Result.andThen_ok, hl]
      · cases hv
    · rename_i e n xs cc hB
      obtain ⟨vals, hown, _, hr⟩ := h.heap κ _ hB
      split at hv
      · rename_i hoff
        split at hv
        · rename_i d hd
          split at hv
          · rename_i hg
            cases hv
            obtain ⟨hl, hget⟩ := RepRow_get hr
            obtain ⟨u, h1, h2, h3⟩ := hget _ d hd
            have e1 : off / n * n = off := by
              have := Nat.div_add_mod' off n
              omega
            rw [e1] at h3
            refine ⟨u, ?_, by simpa only [RepV] using h2⟩
            have hl : (loadVar t ⟨b, off, none⟩).run P w = .ok u w := run_loadVar_d (P := P) h2 hg.1 (fun _ => hg.2.1) fun i z hz => ownRow_cell hown hm (h3 i z hz)
            unfold Yld
            simp only [execOp, ho, hu, Instr.loadAt, Instr.sureAddr, Sem.run_bind, Sem.run_pure, Result.andThen_ok, hl]
          · cases hv
        · cases hv
      · cases hv
    · cases hv
  · rename_i d
    simp only [RepV] at rx
    obtain ⟨b, off, u, hu, hF, hd, hb, hc⟩ := rx
    split at hv
    · rename_i hg
      cases hv
      refine ⟨u, ?_, by simpa only [RepV] using hd⟩
      have hl := run_loadVar_d (P := P) (t := t) (b := b) (off := off) hd hg.1 (fun _ => hg.2) hc
      unfold Yld
      simp only [execOp, ho, hu, Instr.loadAt, Instr.sureAddr, Sem.run_bind, Sem.run_pure, Result.andThen_ok, hl]
    · cases hv
  · cases hv

/-- The address of a field. -/
def fieldAddrV (P : Program) (t : TypeId) (i : Nat) : AV → Option AV
  | .ptr κ off => omap (fieldT P t i) fun f => .ptr κ (off + f.1)
  | .eaddr (.agg ds) => match fieldT P t i with
    | some (o, n, true) => if o + n ≤ ds.length then some (.eaddr (.agg ((ds.drop o).take n))) else none
    | some (o, _, false) => obind (ds[o]?) fun d => if d.isAgg then none else some (.eaddr d)
    | none => none
  | _ => none

theorem run_fieldAt {P : Program} {w : World} {t : TypeId} {i o n : Nat} {g : Bool} (h : fieldT P t i = some (o, n, g)) (b off : Nat) : (Instr.fieldAt t (.pointer (some ⟨b, off, none⟩)) i).run P w = .ok (.pointer (some ⟨b, off + o, none⟩)) w := by
  obtain ⟨fs, f, hu, hf, hn, hg, ho, hne⟩ := fieldT_parts h
  unfold Instr.fieldAt
  simp only [Sem.run_bind, run_underlying hu, Result.andThen_ok, hf, Sem.run_pure, Instr.sureAddr]
  unfold fieldPlace
  simp only [Sem.run_bind, run_sizeOf' hn, Result.andThen_ok, if_neg hne, Sem.run_pure, ho, Addr.add]
  split
  · rename_i h0; subst h0; rfl
  · rfl

theorem fieldAddrV_sound {P : Program} {c : Ctx} {m : Nat → Value} {s : St} {a : Act} {w : World} (h : SRep c m s a w) {o : Oper} {t : TypeId} {i : Nat} {x : Operand} {vx v : AV}
    (ho : o.op = .fieldAddr t x i) (hx : s.ev x = some vx) (hv : fieldAddrV P t i vx = some v) : ∃ u, Yld P o a w u ∧ RepV w (Forb c m s.hp) m v u := by
  have rx := h.ev hx
  unfold fieldAddrV at hv
  split at hv
  · rename_i κ off
    simp only [RepV] at rx
    obtain ⟨b, hm, hu⟩ := rx
    obtain ⟨⟨fo, n, g⟩, hf, rfl⟩ := Option.map_eq_some_iff.1 hv
    refine ⟨_, ?_, by simp only [RepV]; exact ⟨b, hm, rfl⟩⟩
    unfold Yld
    simp only [execOp, ho, hu, Sem.run_bind, run_fieldAt hf, Result.andThen_ok, Sem.run_pure]
  · rename_i ds
    simp only [RepV, RepD] at rx
    obtain ⟨b, off, u, hu, hF, ⟨us, rfl, hr⟩, hb, hc⟩ := rx
    rw [RepOnes_iff] at hr
    split at hv
    · rename_i fo n hf
      split at hv
      · rename_i hle
        cases hv
        refine ⟨.pointer (some ⟨b, off + fo, none⟩), ?_, ?_⟩
        · unfold Yld
          simp only [execOp, ho, hu, Sem.run_bind, run_fieldAt hf, Result.andThen_ok, Sem.run_pure]
        · simp only [RepV, RepD]
          refine ⟨b, off + fo, .agg ((us.drop fo).take n).toArray, rfl, hF, ⟨_, rfl, RepOnes_iff.2 ⟨by simp [hr.1], fun j d hj => ?_⟩⟩, hb, fun j z hz => ?_⟩
          · rw [List.getElem?_take] at hj ⊢
            split at hj
            · rename_i hlt; rw [if_pos hlt, List.getElem?_drop]; rw [List.getElem?_drop] at hj; exact hr.2 _ d hj
            · cases hj
          · have hz' : ((us.drop fo).take n)[j]? = some z := by simpa [Value.cells] using hz
            rw [List.getElem?_take] at hz'
            split at hz'
            · rw [List.getElem?_drop] at hz'
              have := hc (fo + j) z (by simpa [Value.cells] using hz')
              rw [Nat.add_assoc]; exact this
            · cases hz'
      · cases hv
    · rename_i fo n hf
      obtain ⟨d, hd, hv⟩ := Option.bind_eq_some_iff.1 hv
      split at hv
      · cases hv
      · rename_i hna
        cases hv
        obtain ⟨u, h1, h2, h3⟩ := hr.2 fo d hd
        refine ⟨.pointer (some ⟨b, off + fo, none⟩), ?_, ?_⟩
        · unfold Yld
          simp only [execOp, ho, hu, Sem.run_bind, run_fieldAt hf, Result.andThen_ok, Sem.run_pure]
        · simp only [RepV]
          refine ⟨b, off + fo, u, rfl, hF, h3, hb, fun j z hz => ?_⟩
          rw [cells_one h2] at hz
          have hj : j = 0 := by
            have := (Array.getElem?_eq_some_iff.1 hz).1
            simp at this; exact this
          subst hj
          simp at hz; subst hz
          exact hc fo u (by simpa [Value.cells] using h1)
    · cases hv
  · cases hv

/-- A field of a struct that is held by value. -/
def fieldV (P : Program) (t : TypeId) (i : Nat) (x : AV) : Option AV :=
  match x.fields with
  | some cs => match fieldT P t i with
    | some (o, n, true) => if o + n ≤ cs.length then some (mkAgg ((cs.drop o).take n)) else none
    | some (o, _, false) => cs[o]?
    | none => none
  | none => none

theorem fieldV_sound {P : Program} {c : Ctx} {m : Nat → Value} {s : St} {a : Act} {w : World} (h : SRep c m s a w) {o : Oper} {t : TypeId} {i : Nat} {x : Operand} {vx v : AV}
    (ho : o.op = .field t x i) (hx : s.ev x = some vx) (hv : fieldV P t i vx = some v) : ∃ u, Yld P o a w u ∧ RepV w (Forb c m s.hp) m v u := by
  have rx := h.ev hx
  unfold fieldV at hv
  split at hv
  · rename_i cs hcs
    obtain ⟨us, hu, hr, h1⟩ := fields_rep rx hcs
    have hlen := (RepVs_iff.1 hr).1
    split at hv
    · rename_i fo n hf
      obtain ⟨fs, f, hun, hff, hn, hg, hfo, hne⟩ := fieldT_parts hf
      split at hv
      · rename_i hle
        cases hv
        refine ⟨.agg ((us.drop fo).take n).toArray, ?_, mkAgg_rep (RepVs_slice hr fo n) (fun z hz => h1 z (List.mem_of_mem_drop (List.mem_of_mem_take hz)))⟩
        unfold Yld
        simp only [execOp, ho, hu, Instr.field, Sem.run_bind, run_underlying hun, Result.andThen_ok, hff, asAgg, Sem.run_pure, part, run_isAgg' hg, if_true, run_sizeOf' hn, hfo]
        congr 3
        apply Array.ext'
        simp
      · cases hv
    · rename_i fo n hf
      obtain ⟨fs, f, hun, hff, hn, hg, hfo, hne⟩ := fieldT_parts hf
      obtain ⟨u, h3, h4⟩ := (RepVs_iff.1 hr).2 fo v hv
      refine ⟨u, ?_, h4⟩
      have h5 : us.toArray[fo]? = some u := by simpa using h3
      unfold Yld
      simp only [execOp, ho, hu, Instr.field, Sem.run_bind, run_underlying hun, Result.andThen_ok, hff, asAgg, Sem.run_pure, part, run_isAgg' hg, Bool.false_eq_true, if_false, hfo, h5]
    · cases hv
  · cases hv

end Go.Proofs.Ytpdbekbobkjfgaa
