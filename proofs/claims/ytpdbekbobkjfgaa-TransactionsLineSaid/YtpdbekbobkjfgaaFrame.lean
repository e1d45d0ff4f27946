/-
  What the proofs of this seat's rows use: the arguments of a law, as the form reads them, opened into values and cells.
  Conditions: none; nothing here speaks of one program.
-/
import Derived.Test.YtpdbekbobkjfgaaBase
import Derived.ProofKit
import Derived.OpenShut
import Derived.ShutString
import Derived.ChangeOld
import Derived.Below
import Derived.Deep.Slices
namespace Go.Proofs.Ytpdbekbobkjfgaa
open Go.ChangeShapes Go.WideShapes Go.ChangeAt Go.RowKit
set_option linter.unusedVariables false

/-- The cells cs read as data of type t in W (what they read as is left unsaid). -/
def Tr (P : Program) (W : World) (t : TypeId) (cs : List Value) : Prop :=
  ∃ (H : Type) (enc : TypeId × Value → H) (fuel : Nat) (x : DataW H × List MemPlace), DataW.trod enc P W 0 (fun _ => true) true fuel t cs = some x

theorem Tr.of {H : Type} {enc : TypeId × Value → H} {P : Program} {W : World} {t : TypeId} {v : Value} {d : DataW H} {p : List MemPlace} (h : DataW.Trod enc P W 0 (fun _ => true) true t v d p) : Tr P W t v.cells.toList := by
  obtain ⟨fuel, hf⟩ := h
  exact ⟨H, enc, fuel, _, hf⟩

theorem Tr.int {P : Program} {W : World} {t : TypeId} {cs : List Value} {k : IntKind} (hu : P.underlying t = some (.int k)) (h : Tr P W t cs) : ∃ n, cs = [.int k n] ∧ (Lit.int k n).wf = true := by
  obtain ⟨H, enc, fuel, x, hf⟩ := h
  obtain ⟨n, h1, _, h2⟩ := DataW.trod_int hu hf
  exact ⟨n, h1, h2⟩

theorem Tr.bool {P : Program} {W : World} {t : TypeId} {cs : List Value} (hu : P.underlying t = some .bool) (h : Tr P W t cs) : ∃ b, cs = [.bool b] := by
  obtain ⟨H, enc, fuel, x, hf⟩ := h
  cases fuel with
  | zero => simp [DataW.trod] at hf
  | succ n =>
    unfold DataW.trod at hf
    rw [hu] at hf
    split at hf <;> simp_all

theorem cells?_get {w : World} {a : Addr} {n : Nat} {cs : List Value} (h : w.cells? 0 a n = some cs) : cs.length = n ∧ ∀ i, i < n → w.cell? (a.add i) = cs[i]? := by
  unfold World.cells? at h
  rw [if_pos (Nat.zero_le _)] at h
  refine ⟨by simpa using mapM_some_length h, fun i hi => ?_⟩
  have := mapM_some_get h i i (by simp [hi])
  exact this

theorem addr_add_spot {w : World} {a : Addr} {v : Value} (h : w.cell? a = some v) : a.spot = none := World.cell?_spot h

theorem Tr.slice {P : Program} {W : World} {t e : TypeId} {m : Nat} {cs : List Value} (hu : P.underlying t = some (.slice e)) (hc : P.cellsOf e = m) (hm : 0 < m) (h : Tr P W t cs) :
    ∃ (a : Option Addr) (rows : List (List Value)) (cap : Nat), cs = [.slice a rows.length cap] ∧ rows.length ≤ cap ∧ cap ≤ maxLen ∧ (a = none → cap = 0) ∧ Cells W a rows.flatten ∧ ∀ r ∈ rows, r.length = m ∧ Tr P W e r := by
  obtain ⟨H, enc, fuel, x, hf⟩ := h
  rcases DataW.trod_slice hu hf with ⟨rfl, _⟩ | ⟨a, len, cap, elems, rest, n, _, rfl, _, _, hl, hcap, hlen, hel, _, _⟩
  · exact ⟨none, [], 0, rfl, Nat.le_refl _, Nat.zero_le _, fun _ => rfl, Cells.nil _ _, by simp⟩
  · rw [hc] at hel
    have hrow : ∀ i, i < len → ∃ r, W.cells? 0 (a.add (i * m)) m = some r ∧ Tr P W e r := by
      intro i hi
      have h1 := hel i hi
      have h2 : (elems[i]?).isSome = true := by
        have : i < elems.length := by omega
        simp [this]
      rw [← h1] at h2
      obtain ⟨y, hy⟩ := Option.isSome_iff_exists.1 h2
      obtain ⟨r, hr, hr2⟩ := Option.bind_eq_some_iff.1 hy
      exact ⟨r, hr, H, enc, n, y, hr2⟩
    obtain ⟨R, hR⟩ := Go.Deep.choose_lt (α := List Value) (p := fun i r => W.cells? 0 (a.add (i * m)) m = some r ∧ Tr P W e r) hrow
    refine ⟨some a, (List.range len).map R, cap, by simp, by simpa using hl, hcap, by simp, ?_, ?_⟩
    · intro hne
      have hlenpos : 0 < len := by
        rcases Nat.eq_zero_or_pos len with h0 | h0
        · subst h0; simp at hne
        · exact h0
      have h0 := cells?_get (hR 0 hlenpos).1
      have hsp : a.spot = none := by
        have h1 := h0.2 0 hm
        obtain ⟨v, hv⟩ : ∃ v, (R 0)[0]? = some v := by
          have : 0 < (R 0).length := by rw [h0.1]; exact hm
          exact ⟨(R 0)[0], by simp [this]⟩
        rw [hv] at h1
        simpa [Addr.add] using addr_add_spot h1
      obtain ⟨b, off, spot⟩ := a
      simp only at hsp
      subst hsp
      refine ⟨b, off, rfl, fun i v hv => ?_⟩
      have hflat : ∀ (l : List (List Value)), (∀ r ∈ l, r.length = m) → ∀ i v, l.flatten[i]? = some v → ∃ r, l[i / m]? = some r ∧ r[i % m]? = some v := by
        intro l
        induction l with
        | nil => intro _ i v hv; simp at hv
        | cons r l ih =>
          intro hl i v hv
          have hr : r.length = m := hl r (by simp)
          rw [List.flatten_cons, List.getElem?_append] at hv
          split at hv
          · rename_i hlt
            rw [hr] at hlt
            refine ⟨r, by rw [Nat.div_eq_of_lt hlt]; rfl, by rw [Nat.mod_eq_of_lt hlt]; exact hv⟩
          · rename_i hge
            rw [hr] at hge hv
            obtain ⟨r', h1, h2⟩ := ih (fun r hr => hl r (by simp [hr])) (i - m) v hv
            have e1 : i / m = (i - m) / m + 1 := by
              have : i = (i - m) + m := by omega
              rw [this, Nat.add_div_right _ hm]; simp
            have e2 : i % m = (i - m) % m := by
              have : i = (i - m) + m := by omega
              rw [this, Nat.add_mod_right]; simp
            exact ⟨r', by rw [e1]; simpa using h1, by rw [e2]; exact h2⟩
      obtain ⟨r, h1, h2⟩ := hflat _ (by
        intro r hr
        obtain ⟨j, hj, rfl⟩ := List.mem_map.1 hr
        exact (cells?_get (hR j (by simpa using hj)).1).1) i v hv
      have hj : i / m < len := by
        have := (List.getElem?_eq_some_iff.1 h1).1
        simpa using this
      have hr : r = R (i / m) := by simpa [hj] using h1.symm
      subst hr
      have h3 := (cells?_get (hR _ hj).1).2 (i % m) (Nat.mod_lt _ hm)
      rw [h2] at h3
      have e3 : ((⟨b, off, none⟩ : Addr).add (i / m * m)).add (i % m) = ⟨b, off + i, none⟩ := by
        have hdm : i / m * m + i % m = i := Nat.div_add_mod' i m
        unfold Addr.add
        split <;> split <;> simp_all <;> omega
      rw [e3] at h3
      exact h3
    · intro r hr
      obtain ⟨j, hj, rfl⟩ := List.mem_map.1 hr
      have hj' : j < len := by simpa using hj
      exact ⟨(cells?_get (hR j hj').1).1, (hR j hj').2⟩

/-- A slice whose elements are one cell each. -/
theorem Tr.slice1 {P : Program} {W : World} {t e : TypeId} {cs : List Value} (hu : P.underlying t = some (.slice e)) (hc : P.cellsOf e = 1) (h : Tr P W t cs) :
    ∃ (a : Option Addr) (xs : List Value) (cap : Nat), cs = [.slice a xs.length cap] ∧ xs.length ≤ cap ∧ cap ≤ maxLen ∧ (a = none → cap = 0) ∧ Cells W a xs ∧ ∀ v ∈ xs, Tr P W e [v] := by
  obtain ⟨a, rows, cap, rfl, h1, h2, h3, h4, h5⟩ := h.slice hu hc (by decide)
  have hrows : rows = rows.flatten.map fun v => [v] := by
    have : ∀ l : List (List Value), (∀ r ∈ l, r.length = 1) → l = l.flatten.map fun v => [v] := by
      intro l
      induction l with
      | nil => intro _; rfl
      | cons r l ih =>
        intro hl
        obtain ⟨v, rfl⟩ := List.length_eq_one_iff.1 (hl r (by simp))
        rw [List.flatten_cons, List.map_append, ← ih (fun r hr => hl r (by simp [hr]))]
        rfl
    exact this rows fun r hr => (h5 r hr).1
  have hlen : rows.length = rows.flatten.length := by
    have := congrArg List.length hrows
    rw [List.length_map] at this; exact this
  refine ⟨a, rows.flatten, cap, by rw [hlen], by rw [← hlen]; exact h1, h2, h3, h4, fun v hv => ?_⟩
  have : [v] ∈ rows := by rw [hrows]; exact List.mem_map.2 ⟨v, hv, rfl⟩
  exact (h5 _ this).2

/-- A slice of integers. -/
theorem Tr.ints {P : Program} {W : World} {t e : TypeId} {k : IntKind} {cs : List Value} (hu : P.underlying t = some (.slice e)) (he : P.underlying e = some (.int k)) (hc : P.cellsOf e = 1) (h : Tr P W t cs) :
    ∃ (a : Option Addr) (zs : List Int) (cap : Nat), cs = [.slice a zs.length cap] ∧ zs.length ≤ cap ∧ cap ≤ maxLen ∧ (a = none → cap = 0) ∧ Cells W a (zs.map (.int k)) ∧ ∀ z ∈ zs, (Lit.int k z).wf = true := by
  obtain ⟨a, xs, cap, rfl, h1, h2, h3, h4, h5⟩ := h.slice1 hu hc
  have : ∀ xs : List Value, (∀ v ∈ xs, Tr P W e [v]) → ∃ zs : List Int, xs = zs.map (.int k) ∧ ∀ z ∈ zs, (Lit.int k z).wf = true := by
    intro xs
    induction xs with
    | nil => intro _; exact ⟨[], rfl, by simp⟩
    | cons v xs ih =>
      intro hx
      obtain ⟨zs, rfl, hz⟩ := ih fun u hu => hx u (by simp [hu])
      obtain ⟨n, hn, hw⟩ := (hx v (by simp)).int he
      simp only [List.cons.injEq, and_true] at hn
      subst hn
      refine ⟨n :: zs, rfl, fun z hz' => ?_⟩
      rcases List.mem_cons.1 hz' with h' | h'
      · rw [h']; exact hw
      · exact hz z h'
  obtain ⟨zs, rfl, hz⟩ := this xs h5
  exact ⟨a, zs, cap, by simp, by simpa using h1, h2, h3, h4, hz⟩

theorem Tr.struct {P : Program} {W : World} {t : TypeId} {fs : Array Field} {cs : List Value} (hu : P.underlying t = some (.struct fs)) (h : Tr P W t cs) :
    cs.length = P.cellsOf t ∧ ∀ (i : Nat) (f : Field), fs[i]? = some f → Tr P W f.type ((cs.drop f.offset).take (P.cellsOf f.type)) := by
  obtain ⟨H, enc, fuel, x, hf⟩ := h
  obtain ⟨xs, n, _, _, hl, hxs, hx⟩ := DataW.trod_struct hu hf
  refine ⟨hl, fun i f hi => ?_⟩
  have h1 := hx i f hi
  have hi' : i < xs.length := by rw [hxs]; exact (Array.getElem?_eq_some_iff.1 hi).1
  exact ⟨H, enc, n, xs[i], by rw [h1]; simp [hi']⟩

/-- One field of a struct that is held by value. -/
theorem Tr.field {P : Program} {W : World} {t e : TypeId} {fs : Array Field} {f : Field} {cs : List Value} {i off m : Nat} (hu : P.underlying t = some (.struct fs)) (hi : fs[i]? = some f) (ho : f.offset = off) (he : f.type = e) (hm : P.cellsOf e = m) (h : Tr P W t cs) :
    Tr P W e ((cs.drop off).take m) := by
  have := (h.struct hu).2 i f hi
  rw [ho, he, hm] at this
  exact this

theorem len2 {l : List Value} (h : l.length = 2) : ∃ c0 c1, l = [c0, c1] := by
  match l, h with | [c0, c1], _ => exact ⟨c0, c1, rfl⟩
theorem len3 {l : List Value} (h : l.length = 3) : ∃ c0 c1 c2, l = [c0, c1, c2] := by
  match l, h with | [c0, c1, c2], _ => exact ⟨c0, c1, c2, rfl⟩
theorem len4 {l : List Value} (h : l.length = 4) : ∃ c0 c1 c2 c3, l = [c0, c1, c2, c3] := by
  match l, h with | [c0, c1, c2, c3], _ => exact ⟨c0, c1, c2, c3, rfl⟩
theorem len5 {l : List Value} (h : l.length = 5) : ∃ c0 c1 c2 c3 c4, l = [c0, c1, c2, c3, c4] := by
  match l, h with | [c0, c1, c2, c3, c4], _ => exact ⟨c0, c1, c2, c3, c4, rfl⟩
theorem len6 {l : List Value} (h : l.length = 6) : ∃ c0 c1 c2 c3 c4 c5, l = [c0, c1, c2, c3, c4, c5] := by
  match l, h with | [c0, c1, c2, c3, c4, c5], _ => exact ⟨c0, c1, c2, c3, c4, c5, rfl⟩
theorem len7 {l : List Value} (h : l.length = 7) : ∃ c0 c1 c2 c3 c4 c5 c6, l = [c0, c1, c2, c3, c4, c5, c6] := by
  match l, h with | [c0, c1, c2, c3, c4, c5, c6], _ => exact ⟨c0, c1, c2, c3, c4, c5, c6, rfl⟩
theorem len8 {l : List Value} (h : l.length = 8) : ∃ c0 c1 c2 c3 c4 c5 c6 c7, l = [c0, c1, c2, c3, c4, c5, c6, c7] := by
  match l, h with | [c0, c1, c2, c3, c4, c5, c6, c7], _ => exact ⟨c0, c1, c2, c3, c4, c5, c6, c7, rfl⟩

/-- A struct argument: its cells. -/
theorem Tr.agg {P : Program} {W : World} {r : Reach} {b0 : Nat} {t : TypeId} {v : Value} {fs : Array Field} {n : Nat} (hu : P.underlying t = some (.struct fs)) (hn : P.cellsOf t = n) (ho : Value.okWide P W r b0 t v) (h : Tr P W t v.cells.toList) :
    ∃ l : List Value, v = .agg l.toArray ∧ l.length = n ∧ Tr P W t l := by
  obtain ⟨cs, rfl, hsz⟩ := okWide_struct hu ho
  exact ⟨cs.toList, by simp, by simpa using hsz.trans hn, h⟩

end Go.Proofs.Ytpdbekbobkjfgaa
