/-
  The abstract view of the machine: arguments of laws.
  Conditions: none; nothing here speaks of one program.
-/
import Derived.Test.YtmjocalgekfodaaKA
import Derived.ProofKit
import Derived.OpenShut
import Derived.ShutString
import Derived.ChangeOld
import Derived.Below
import Derived.Deep.Slices
import Derived.Test.YtmjocalgekfodaaKB2
import Derived.Test.YtmjocalgekfodaaKE

namespace Go.Proofs.Ytmjocalgekfodaa
open Go.ChangeShapes Go.WideShapes Go.ChangeAt Go.RowKit
set_option linter.unusedVariables false

def Tr (P : Program) (W : World) (t : TypeId) (cs : List Value) : Prop :=
  ∃ (H : Type) (enc : TypeId × Value → H) (fuel : Nat) (x : DataW H × List MemPlace), DataW.trod enc P W 0 (fun _ => true) true fuel t cs = some x


theorem Tr.int {P : Program} {W : World} {t : TypeId} {cs : List Value} {k : IntKind} (hu : P.underlying t = some (.int k)) (h : Tr P W t cs) : ∃ n, cs = [.int k n] ∧ (Lit.int k n).wf = true := by
  obtain ⟨H, enc, fuel, x, hf⟩ := h
  obtain ⟨n, h1, _, h2⟩ := DataW.trod_int hu hf
  exact ⟨n, h1, h2⟩

theorem Tr.bool {P : Program} {W : World} {t : TypeId} {cs : List Value} (hu : P.underlying t = some .bool) (h : Tr P W t cs) : ∃ b, cs = [.bool b] := by
  obtain ⟨H, enc, fuel, x, hf⟩ := h
  cases fuel with
  | zero => simp [DataW.trod] at hf
  | succ n =>
    unfold DataW.trod at hf
    rw [hu] at hf
    split at hf <;> simp_all

theorem cells?_get {w : World} {a : Addr} {n : Nat} {cs : List Value} (h : w.cells? 0 a n = some cs) : cs.length = n ∧ ∀ i, i < n → w.cell? (a.add i) = cs[i]? := by
  unfold World.cells? at h
  rw [if_pos (Nat.zero_le _)] at h
  refine ⟨by simpa using mapM_some_length h, fun i hi => ?_⟩
  have := mapM_some_get h i i (by simp [hi])
  exact this

theorem addr_add_spot {w : World} {a : Addr} {v : Value} (h : w.cell? a = some v) : a.spot = none := World.cell?_spot h

theorem Tr.slice {P : Program} {W : World} {t e : TypeId} {m : Nat} {cs : List Value} (hu : P.underlying t = some (.slice e)) (hc : P.cellsOf e = m) (hm : 0 < m) (h : Tr P W t cs) :
    ∃ (a : Option Addr) (rows : List (List Value)) (cap : Nat), cs = [.slice a rows.length cap] ∧ rows.length ≤ cap ∧ cap ≤ maxLen ∧ (a = none → cap = 0) ∧ Cells W a rows.flatten ∧ ∀ r ∈ rows, r.length = m ∧ Tr P W e r := by
  obtain ⟨H, enc, fuel, x, hf⟩ := h
  rcases DataW.trod_slice hu hf with ⟨rfl, _⟩ | ⟨a, len, cap, elems, rest, n, _, rfl, _, _, hl, hcap, hlen, hel, _, _⟩
  · exact ⟨none, [], 0, rfl, Nat.le_refl _, Nat.zero_le _, fun _ => rfl, Cells.nil _ _, by simp⟩
  · rw [hc] at hel
    have hrow : ∀ i, i < len → ∃ r, W.cells? 0 (a.add (i * m)) m = some r ∧ Tr P W e r := by
      intro i hi
      have h1 := hel i hi
      have h2 : (elems[i]?).isSome = true := by
        have : i < elems.length := by omega
        simp [this]
      rw [← h1] at h2
      obtain ⟨y, hy⟩ := Option.isSome_iff_exists.1 h2
      obtain ⟨r, hr, hr2⟩ := Option.bind_eq_some_iff.1 hy
      exact ⟨r, hr, H, enc, n, y, hr2⟩
    obtain ⟨R, hR⟩ := Go.Deep.choose_lt (α := List Value) (p := fun i r => W.cells? 0 (a.add (i * m)) m = some r ∧ Tr P W e r) hrow
    refine ⟨some a, (List.range len).map R, cap, by simp, by simpa using hl, hcap, by simp, ?_, ?_⟩
    · intro hne
      have hlenpos : 0 < len := by
        rcases Nat.eq_zero_or_pos len with h0 | h0
        · subst h0; simp at hne
        · exact h0
      have h0 := cells?_get (hR 0 hlenpos).1
      have hsp : a.spot = none := by
        have h1 := h0.2 0 hm
        obtain ⟨v, hv⟩ : ∃ v, (R 0)[0]? = some v := by
          have : 0 < (R 0).length := by rw [h0.1]; exact hm
          exact ⟨(R 0)[0], by simp [this]⟩
        rw [hv] at h1
        simpa [Addr.add] using addr_add_spot h1
      obtain ⟨b, off, spot⟩ := a
      simp only at hsp
      subst hsp
      refine ⟨b, off, rfl, fun i v hv => ?_⟩
      have hflat : ∀ (l : List (List Value)), (∀ r ∈ l, r.length = m) → ∀ i v, l.flatten[i]? = some v → ∃ r, l[i / m]? = some r ∧ r[i % m]? = some v := by
        intro l
        induction l with
        | nil => intro _ i v hv; simp at hv
        | cons r l ih =>
          intro hl i v hv
          have hr : r.length = m := hl r (by simp)
          rw [List.flatten_cons, List.getElem?_append] at hv
          split at hv
          · rename_i hlt
            rw [hr] at hlt
            refine ⟨r, by rw [Nat.div_eq_of_lt hlt]; rfl, by rw [Nat.mod_eq_of_lt hlt]; exact hv⟩
          · rename_i hge
            rw [hr] at hge hv
            obtain ⟨r', h1, h2⟩ := ih (fun r hr => hl r (by simp [hr])) (i - m) v hv
            have e1 : i / m = (i - m) / m + 1 := by
              have : i = (i - m) + m := by omega
              rw [this, Nat.add_div_right _ hm]; simp
            have e2 : i % m = (i - m) % m := by
              have : i = (i - m) + m := by omega
              rw [this, Nat.add_mod_right]; simp
            exact ⟨r', by rw [e1]; simpa using h1, by rw [e2]; exact h2⟩
      obtain ⟨r, h1, h2⟩ := hflat _ (by
        intro r hr
        obtain ⟨j, hj, rfl⟩ := List.mem_map.1 hr
        exact (cells?_get (hR j (by simpa using hj)).1).1) i v hv
      have hj : i / m < len := by
        have := (List.getElem?_eq_some_iff.1 h1).1
        simpa using this
      have hr : r = R (i / m) := by simpa [hj] using h1.symm
      subst hr
      have h3 := (cells?_get (hR _ hj).1).2 (i % m) (Nat.mod_lt _ hm)
      rw [h2] at h3
      have e3 : ((⟨b, off, none⟩ : Addr).add (i / m * m)).add (i % m) = ⟨b, off + i, none⟩ := by
        have hdm : i / m * m + i % m = i := Nat.div_add_mod' i m
        unfold Addr.add
        split <;> split <;> simp_all <;> omega
      rw [e3] at h3
      exact h3
    · intro r hr
      obtain ⟨j, hj, rfl⟩ := List.mem_map.1 hr
      have hj' : j < len := by simpa using hj
      exact ⟨(cells?_get (hR j hj').1).1, (hR j hj').2⟩

theorem Tr.slice1 {P : Program} {W : World} {t e : TypeId} {cs : List Value} (hu : P.underlying t = some (.slice e)) (hc : P.cellsOf e = 1) (h : Tr P W t cs) :
    ∃ (a : Option Addr) (xs : List Value) (cap : Nat), cs = [.slice a xs.length cap] ∧ xs.length ≤ cap ∧ cap ≤ maxLen ∧ (a = none → cap = 0) ∧ Cells W a xs ∧ ∀ v ∈ xs, Tr P W e [v] := by
  obtain ⟨a, rows, cap, rfl, h1, h2, h3, h4, h5⟩ := h.slice hu hc (by decide)
  have hrows : rows = rows.flatten.map fun v => [v] := by
    have : ∀ l : List (List Value), (∀ r ∈ l, r.length = 1) → l = l.flatten.map fun v => [v] := by
      intro l
      induction l with
      | nil => intro _; rfl
      | cons r l ih =>
        intro hl
        obtain ⟨v, rfl⟩ := List.length_eq_one_iff.1 (hl r (by simp))
        rw [List.flatten_cons, List.map_append, ← ih (fun r hr => hl r (by simp [hr]))]
        rfl
    exact this rows fun r hr => (h5 r hr).1
  have hlen : rows.length = rows.flatten.length := by
    have := congrArg List.length hrows
    rw [List.length_map] at this; exact this
  refine ⟨a, rows.flatten, cap, by rw [hlen], by rw [← hlen]; exact h1, h2, h3, h4, fun v hv => ?_⟩
  have : [v] ∈ rows := by rw [hrows]; exact List.mem_map.2 ⟨v, hv, rfl⟩
  exact (h5 _ this).2

theorem Tr.ints {P : Program} {W : World} {t e : TypeId} {k : IntKind} {cs : List Value} (hu : P.underlying t = some (.slice e)) (he : P.underlying e = some (.int k)) (hc : P.cellsOf e = 1) (h : Tr P W t cs) :
    ∃ (a : Option Addr) (zs : List Int) (cap : Nat), cs = [.slice a zs.length cap] ∧ zs.length ≤ cap ∧ cap ≤ maxLen ∧ (a = none → cap = 0) ∧ Cells W a (zs.map (.int k)) ∧ ∀ z ∈ zs, (Lit.int k z).wf = true := by
  obtain ⟨a, xs, cap, rfl, h1, h2, h3, h4, h5⟩ := h.slice1 hu hc
  have : ∀ xs : List Value, (∀ v ∈ xs, Tr P W e [v]) → ∃ zs : List Int, xs = zs.map (.int k) ∧ ∀ z ∈ zs, (Lit.int k z).wf = true := by
    intro xs
    induction xs with
    | nil => intro _; exact ⟨[], rfl, by simp⟩
    | cons v xs ih =>
      intro hx
      obtain ⟨zs, rfl, hz⟩ := ih fun u hu => hx u (by simp [hu])
      obtain ⟨n, hn, hw⟩ := (hx v (by simp)).int he
      simp only [List.cons.injEq, and_true] at hn
      subst hn
      refine ⟨n :: zs, rfl, fun z hz' => ?_⟩
      rcases List.mem_cons.1 hz' with h' | h'
      · rw [h']; exact hw
      · exact hz z h'
  obtain ⟨zs, rfl, hz⟩ := this xs h5
  exact ⟨a, zs, cap, by simp, by simpa using h1, h2, h3, h4, hz⟩

theorem Tr.struct {P : Program} {W : World} {t : TypeId} {fs : Array Field} {cs : List Value} (hu : P.underlying t = some (.struct fs)) (h : Tr P W t cs) :
    cs.length = P.cellsOf t ∧ ∀ (i : Nat) (f : Field), fs[i]? = some f → Tr P W f.type ((cs.drop f.offset).take (P.cellsOf f.type)) := by
  obtain ⟨H, enc, fuel, x, hf⟩ := h
  obtain ⟨xs, n, _, _, hl, hxs, hx⟩ := DataW.trod_struct hu hf
  refine ⟨hl, fun i f hi => ?_⟩
  have h1 := hx i f hi
  have hi' : i < xs.length := by rw [hxs]; exact (Array.getElem?_eq_some_iff.1 hi).1
  exact ⟨H, enc, n, xs[i], by rw [h1]; simp [hi']⟩

theorem Tr.field {P : Program} {W : World} {t e : TypeId} {fs : Array Field} {f : Field} {cs : List Value} {i off m : Nat} (hu : P.underlying t = some (.struct fs)) (hi : fs[i]? = some f) (ho : f.offset = off) (he : f.type = e) (hm : P.cellsOf e = m) (h : Tr P W t cs) :
    Tr P W e ((cs.drop off).take m) := by
  have := (h.struct hu).2 i f hi
  rw [ho, he, hm] at this
  exact this


theorem Tr.agg {P : Program} {W : World} {r : Reach} {b0 : Nat} {t : TypeId} {v : Value} {fs : Array Field} {n : Nat} (hu : P.underlying t = some (.struct fs)) (hn : P.cellsOf t = n) (ho : Value.okWide P W r b0 t v) (h : Tr P W t v.cells.toList) :
    ∃ l : List Value, v = .agg l.toArray ∧ l.length = n ∧ Tr P W t l := by
  obtain ⟨cs, rfl, hsz⟩ := okWide_struct hu ho
  exact ⟨cs.toList, by simp, by simpa using hsz.trans hn, h⟩

end Go.Proofs.Ytmjocalgekfodaa

namespace Go.Proofs.Ytmjocalgekfodaa
open Go.ChangeShapes Go.WideShapes Go.ChangeAt Go.RowKit
set_option linter.unusedVariables false

theorem Tr.elem {P : Program} {W : World} {t e : TypeId} {cs : List Value} {k n m : Nat} (hu : P.underlying t = some (.array n e)) (hm : P.cellsOf e = m) (hk : k < n) (h : Tr P W t cs) : Tr P W e ((cs.drop (k * m)).take m) := by
  obtain ⟨H, enc, fuel, x, hf⟩ := h
  cases fuel with
  | zero => simp [DataW.trod] at hf
  | succ f =>
    unfold DataW.trod at hf
    rw [hu] at hf
    simp only at hf
    split at hf
    · obtain ⟨xs, hxs, -⟩ := Option.map_eq_some_iff.1 hf
      have h1 := mapM_some_get hxs k k (by simp [hk])
      have hl : k < xs.length := by
        have := mapM_some_length hxs
        simp at this; omega
      rw [hm] at h1
      exact ⟨H, enc, f, xs[k], by rw [h1]; simp [hl]⟩
    · cases hf

end Go.Proofs.Ytmjocalgekfodaa

namespace Go.Proofs.Ytmjocalgekfodaa
open Go.RowKit
set_option linter.unusedVariables false

def nobody : Nat → Prop := fun _ => False
def ctx0 (w : World) : Ctx := { w0 := w, S := nobody, X := nobody, pin := fun _ => none }

theorem afun_calls {P : Program} {f : FuncId} {ds : List D} {x : Value} {us : List Value} {w : World} (h : AFun P f ds (.v x)) (hr : RepVs w nobody (fun _ => undef) (ds.map .d) us) :
    Calls P f us.toArray w fun e w' => e = .returned x ∧ Below w.heap.size w w' := by
  have hF : ∀ b, ¬ Forb (ctx0 w) (fun _ => undef) (hpFrom 0 []) b := by
    rintro b (hX | ⟨j, B', h1, h2⟩)
    · exact hX
    · simp [hpFrom, gt] at h1
  have hk : Kept w nobody w (Forb (ctx0 w) (fun _ => undef) (hpFrom 0 [])) := fun b _ hb => ⟨hF b, rfl⟩
  have hS : SRep (ctx0 w) (fun _ => undef) (St.bare []) Act.none0 w := by
    refine ⟨Marks.nil _ _, rfl, by simp [St.bare, gt], by simp [St.bare, hpFrom, gt], by simp [St.bare, hpFrom, gt], by simp [St.bare, hpFrom, gt], by simp [St.bare, hpFrom, gt], Fr.refl _ _, fun b hb => hb.elim, fun κ v hv => (by cases hv), fun κ v hv => (by cases hv)⟩
  refine (h (ctx0 w) (fun _ => undef) us w hS (RepVs.kept hk (Nat.le_refl _) _ _ hr) (fun κ v hv => by cases hv)).mono ?_
  rintro e w' ⟨u, m', r, hs', rfl, ⟨rfl, rfl⟩, _, h4, h5⟩
  have h6 := (repV_v.1 h5).1
  subst h6
  refine ⟨rfl, ?_⟩
  have hf := h4.fr
  exact ⟨hf.os, hf.tape, hf.output, hf.size, fun k hk => hf.block k hk (fun h => h)⟩

theorem repVs_nil {w : World} {m : Nat → Value} : RepVs w nobody m [] [] := by simp only [RepVs]
end Go.Proofs.Ytmjocalgekfodaa

namespace Go.Proofs.Ytmjocalgekfodaa
open Go.RowKit
set_option linter.unusedVariables false
set_option linter.constructorNameAsVariable false

def argD (l : List ((s : Sh) × s.T)) : List D := l.map fun a => a.1.toD a.2
def argSV (l : List ((s : Sh) × s.T)) : List SV := l.map fun a => a.1.sv a.2
theorem args_le : ∀ {l : List ((s : Sh) × s.T)}, l.all (fun a => a.1.ok) = true → RepsLe ((argD l).map .d) (SV.toAVs (argSV l))
  | [], _ => fun w F m us hr => hr
  | a :: l, h => by
    simp only [List.all_cons, Bool.and_eq_true] at h
    intro w F m us hr
    simp only [argD, argSV, List.map_cons, SV.toAVs, RepVs] at hr ⊢
    obtain ⟨u, rest, e, r1, r2⟩ := hr
    exact ⟨u, rest, e, a.1.sv_le a.2 h.1 w F m u r1, args_le h.2 w F m rest r2⟩
theorem afun_con {P : Program} {f : FuncId} {A : Con} (h : ConOk P f A) (l : List ((s : Sh) × s.T)) (hk : l.all (fun a => a.1.ok) = true) (x : A.X) (b : A.B) (y : A.Y) (hx : A.inV.put x = argSV l) (hb : A.inB.put b = []) (hF : A.F x b = some y)
    (ho : A.outs.put (SV × List SB) y (fun v BS => some (v, BS)) = some (.b true, [])) : AFun P f (argD l) (.v (.bool true)) := by
  obtain ⟨v, BS, h1, h2, h3⟩ := h x b y hF (SV × List SB) (fun v BS => some (v, BS)) _ ho
  simp only [Option.some.injEq, Prod.mk.injEq] at h3
  obtain ⟨rfl, rfl⟩ := h3
  rw [hx, hb] at h2
  have := h2.le (args_le hk) (BsLe.refl _)
  exact this
end Go.Proofs.Ytmjocalgekfodaa

namespace Go.Proofs.Ytmjocalgekfodaa
open Go.ChangeShapes Go.WideShapes Go.ChangeAt Go.RowKit
set_option linter.unusedVariables false
set_option linter.constructorNameAsVariable false

def Sh.wf : (s : Sh) → s.T → Prop
  | .i k, x => k.min ≤ x ∧ x ≤ k.max
  | .b, _ => True
  | .s, _ => True
  | .ints k, xs => xs.length ≤ 9223372036854775807 ∧ ∀ x ∈ xs, k.min ≤ x ∧ x ≤ k.max
  | .intc _, _ => False
  | .row e, xs => xs.length ≤ 9223372036854775807 ∧ ∀ x ∈ xs, e.wf x
  | .nil, _ => True
  | .cons h t, x => h.wf x.1 ∧ t.wf x.2
end Go.Proofs.Ytmjocalgekfodaa

namespace Go.Proofs.Ytmjocalgekfodaa
set_option linter.unusedVariables false

theorem dT {p : Prop} [Decidable p] (h : p) : decide p = true := decide_eq_true h
theorem dF {p : Prop} [Decidable p] (h : ¬ p) : decide p = false := decide_eq_false h
theorem inT {i : Int} {n : Nat} (h0 : 0 ≤ i) (h1 : i < n) : inB i n = true := inB_iff.2 ⟨h0, by omega⟩
theorem growT {b n : Nat} (h : n * b ≤ 140737488355328) (h2 : n ≤ 9223372036854775807) : growOb b n = true := growOb_iff.2 ⟨h, by unfold maxLen; omega⟩
theorem bnd_some {A B : Type} (a : A) (f : A → Option B) : bnd (some a) f = f a := rfl
theorem sumK_r {A B C : Type} (b : B) (f : A → C) (g : B → C) : sumK (.inr b) f g = g b := rfl
theorem toNatC (n : Nat) : Int.toNat (n : Int) = n := Int.toNat_natCast n
theorem getD_lt {α : Type} {l : List α} {i : Nat} {d : α} (h : i < l.length) : l.getD i d = l[i] := by
  rw [List.getD_eq_getElem?_getD, List.getElem?_eq_getElem h]; rfl
theorem drop_get {α : Type} {l : List α} {i : Nat} (h : i < l.length) : l.drop i = l[i] :: l.drop (i + 1) := List.drop_eq_getElem_cons h
end Go.Proofs.Ytmjocalgekfodaa

