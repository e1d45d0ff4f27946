/-
  An abstract view of the machine, part 30: structs of integers and bools, compared.
  Conditions: none; nothing here speaks of one program.
-/
import Derived.Test.YtpdbekbobkjfgaaAM4
import Derived.Laws.StructEq
namespace Go.Proofs.Ytpdbekbobkjfgaa
open Go.RowKit
set_option linter.unusedVariables false

/-- The kinds of a struct's fields, where all are integers (true) or bools that stand one behind the other. -/
def flatF (P : Program) : Nat → List Field → Option (List Bool)
  | _, [] => some []
  | i, f :: fs => if f.name ≠ "_" ∧ f.offset = i ∧ ((intT P f.type).isSome || boolT P f.type) = true then omap (flatF P (i + 1) fs) ((intT P f.type).isSome :: ·) else none
def eqT (P : Program) (t : TypeId) : Option (List Bool) :=
  match P.underlying t with
  | some (.struct fs) => if P.stoodInHeld t = false ∧ P.eqGuardType P.depth t = false then flatF P 0 fs.toList else none
  | _ => none
def eqFs : List Bool → List D → List D → Option Bool
  | [], [], [] => some true
  | true :: ks, .v (.int k a) :: l, .v (.int k' b) :: l' => if k = k' then omap (eqFs ks l l') (decide (a = b) && ·) else none
  | false :: ks, .v (.bool a) :: l, .v (.bool b) :: l' => omap (eqFs ks l l') (decide (a = b) && ·)
  | _, _, _ => none
/-- The cells of a struct that is data. -/
def aggA : AV → Option (List D)
  | .d (.agg cs) => some cs
  | .agg l => allD l
  | _ => none
def structV (P : Program) (op : BinOp) (t : TypeId) (x y : AV) : Option AV :=
  match aggA x, aggA y with
  | some cs, some ds => match eqT P t with
    | some ks => obind (eqFs ks cs ds) (cmpB op)
    | none => none
  | _, _ => none
theorem aggA_rep {w : World} {F : Nat → Prop} {m : Nat → Value} {v : AV} {u : Value} {cs : List D} (h : RepV w F m v u) (hc : aggA v = some cs) : RepD w F (.agg cs) u := by
  unfold aggA at hc
  split at hc
  · cases hc; simpa only [RepV] using h
  · simp only [RepV] at h
    obtain ⟨us, rfl, h1, h2⟩ := h
    have := mkAgg_rep h1 h2
    simp only [mkAgg, hc, RepV] at this
    exact this
  · cases hc

theorem eqFs_run {P : Program} {d : Nat} : ∀ {fs : List Field} {ks : List Bool} {i : Nat} {cs ds : List D} {xs ys : Array Value} {r : Bool} {w : World}, flatF P i fs = some ks → eqFs ks cs ds = some r →
    (∀ (j : Nat) x, cs[j]? = some (.v x) → xs[i + j]? = some x) → (∀ (j : Nat) x, ds[j]? = some (.v x) → ys[i + j]? = some x) → (Op.eqFields (d + 1) xs ys fs).run P w = .ok r w
  | [], ks, i, cs, ds, xs, ys, r, w, hk, hr, h1, h2 => by
    simp only [flatF, Option.some.injEq] at hk; subst hk
    unfold eqFs at hr
    split at hr
    · cases hr; rfl
    · rename_i heq; cases heq
    · rename_i heq; cases heq
    · cases hr
  | f :: fs, ks, i, cs, ds, xs, ys, r, w, hk, hr, h1, h2 => by
    simp only [flatF] at hk
    split at hk
    · rename_i hc
      obtain ⟨hn, ho, ht⟩ := hc
      obtain ⟨ks', hk', rfl⟩ := Option.map_eq_some_iff.1 hk
      have ag : ∀ g, aggT P f.type = some g → g = false → ∀ (zs : Array Value) z, zs[f.offset]? = some z → (part f.type zs f.offset).run P w = .ok z w := by
        intro g hg hg0 zs z hz
        subst hg0
        unfold part
        simp only [Sem.run_bind, run_isAgg' hg, Result.andThen_ok, Bool.false_eq_true, if_false, hz]; rfl
      cases hi : (intT P f.type).isSome with
      | true =>
        rw [hi] at hr
        obtain ⟨k0, hk0⟩ := Option.isSome_iff_exists.1 hi
        have hu := intT_und hk0
        have hag : aggT P f.type = some false := by unfold aggT; rw [hu]; rfl
        unfold eqFs at hr
        split at hr
        · rename_i heq; cases heq
        · rename_i ks2 k a l k' b l' heq
          cases heq
          split at hr
          · rename_i hkk
            subst hkk
            obtain ⟨r', hr', rfl⟩ := Option.map_eq_some_iff.1 hr
            have e1 := ag _ hag rfl xs _ (by rw [ho]; exact h1 0 _ rfl)
            have e2 := ag _ hag rfl ys _ (by rw [ho]; exact h2 0 _ rfl)
            have ih := eqFs_run (d := d) (w := w) hk' hr' (fun j x hj => by rw [show i + 1 + j = i + (j + 1) by omega]; exact h1 (j + 1) x (by simpa using hj)) (fun j x hj => by rw [show i + 1 + j = i + (j + 1) by omega]; exact h2 (j + 1) x (by simpa using hj))
            simp only [Op.eqFields, if_pos hn, Sem.run_bind, e1, e2, Result.andThen_ok, run_equalIn_int _ d f.type k k0 a b hu]
            by_cases hab : a = b
            · subst hab; simp [ih]
            · have : (a == b) = false := by simpa using hab
              simp [this, hab]
          · cases hr
        · rename_i heq; cases heq
        · cases hr
      | false =>
        rw [hi] at hr
        have hb : boolT P f.type = true := by simpa [hi] using ht
        have hu := boolT_und hb
        have hag : aggT P f.type = some false := by unfold aggT; rw [hu]; rfl
        unfold eqFs at hr
        split at hr
        · rename_i heq; cases heq
        · rename_i heq; cases heq
        · rename_i ks2 a l b l' heq
          cases heq
          obtain ⟨r', hr', rfl⟩ := Option.map_eq_some_iff.1 hr
          have e1 := ag _ hag rfl xs _ (by rw [ho]; exact h1 0 _ rfl)
          have e2 := ag _ hag rfl ys _ (by rw [ho]; exact h2 0 _ rfl)
          have ih := eqFs_run (d := d) (w := w) hk' hr' (fun j x hj => by rw [show i + 1 + j = i + (j + 1) by omega]; exact h1 (j + 1) x (by simpa using hj)) (fun j x hj => by rw [show i + 1 + j = i + (j + 1) by omega]; exact h2 (j + 1) x (by simpa using hj))
          simp only [Op.eqFields, if_pos hn, Sem.run_bind, e1, e2, Result.andThen_ok, run_equalIn_bool' _ d f.type a b hu]
          cases a <;> cases b <;> simp [ih]
        · cases hr
    · cases hk
theorem repD_cellsV {w : World} {F : Nat → Prop} {cs : List D} {u : Value} (h : RepD w F (.agg cs) u) : ∃ xs : Array Value, u = .agg xs ∧ ∀ (j : Nat) x, cs[j]? = some (.v x) → xs[j]? = some x := by
  simp only [RepD] at h
  obtain ⟨us, rfl, hr⟩ := h
  rw [RepOnes_iff] at hr
  refine ⟨us.toArray, rfl, fun j x hj => ?_⟩
  obtain ⟨u, h1, _, h2⟩ := hr.2 j _ hj
  simp only [RepD] at h2
  rw [← h2.1]; simpa using h1
theorem structV_sound {P : Program} {F F' : Nat → Prop} {m : Nat → Value} {a : Act} {w : World} {o : Oper} {op : BinOp} {t t' : TypeId} {x y : Operand} {vx vy v : AV}
    (ho : o.op = .binOp op t x y t') (rx : RepV w F m vx (a.eval x)) (ry : RepV w F m vy (a.eval y)) (hv : structV P op t vx vy = some v) : ∃ u, Yld P o a w u ∧ RepV w F' m v u := by
  unfold structV at hv
  split at hv
  · rename_i cs ds hcs hds
    replace rx := aggA_rep rx hcs
    replace ry := aggA_rep ry hds
    split at hv
    · rename_i ks hks
      obtain ⟨r, hr, hv⟩ := Option.bind_eq_some_iff.1 hv
      unfold eqT at hks
      split at hks
      · rename_i fs hu
        split at hks
        · rename_i hc
          obtain ⟨hp, hg⟩ := hc
          obtain ⟨xs, hx, ix⟩ := repD_cellsV rx
          obtain ⟨ys, hy, iy⟩ := repD_cellsV ry
          have hu' : P.underlying t = some (.struct (P.fieldsOf t)) := by simp only [Program.fieldsOf, hu]
          have hfs : P.fieldsOf t = fs := by simp only [Program.fieldsOf, hu]
          have hrun : (Op.equalIn 10000 t (.agg xs) (.agg ys)).run P w = .ok r w := by
            rw [show (10000 : Nat) = 9999 + 1 from rfl, run_equalIn_struct w 9999 t xs ys hu' hp, hfs]
            exact eqFs_run hks hr (by simpa using ix) (by simpa using iy)
          unfold cmpB at hv
          split at hv
          · cases hv
            refine ⟨.bool r, ?_, repV_v.2 ⟨rfl, rfl⟩⟩
            unfold Yld
            simp only [execOp, ho, hx, hy, Sem.run_bind, run_eqGuard_agg _ _ _ _ _ _ _ hg, Result.andThen_ok, run_eql_struct, hrun]; rfl
          · cases hv
            refine ⟨.bool (!r), ?_, repV_v.2 ⟨rfl, rfl⟩⟩
            unfold Yld
            simp only [execOp, ho, hx, hy, Sem.run_bind, run_eqGuard_agg _ _ _ _ _ _ _ hg, Result.andThen_ok, run_neq_struct, hrun]; rfl
          · cases hv
        · cases hks
      · cases hks
    · cases hv
  · cases hv
end Go.Proofs.Ytpdbekbobkjfgaa
