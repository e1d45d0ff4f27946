/-
  An abstract view of the machine, part 19: from a contract to the call that a law's row asks for.
  Conditions: none; nothing here speaks of one program.
-/
import Derived.Test.YtpdbekbobkjfgaaAM18
import Derived.Test.YtpdbekbobkjfgaaFrame2
namespace Go.Proofs.Ytpdbekbobkjfgaa
open Go.RowKit
set_option linter.unusedVariables false

def nobody : Nat → Prop := fun _ => False
def ctx0 (w : World) : Ctx := { w0 := w, S := nobody, X := nobody, pin := fun _ => none }

theorem afun_calls {P : Program} {f : FuncId} {ds : List D} {x : Value} {us : List Value} {w : World} (h : AFun P f ds (.v x)) (hr : RepVs w nobody (fun _ => undef) (ds.map .d) us) :
    Calls P f us.toArray w fun e w' => e = .returned x ∧ Below w.heap.size w w' := by
  have hF : ∀ b, ¬ Forb (ctx0 w) (fun _ => undef) (hpFrom 0 []) b := by
    rintro b (hX | ⟨j, B', h1, h2⟩)
    · exact hX
    · simp [hpFrom, gt] at h1
  have hk : Kept w nobody w (Forb (ctx0 w) (fun _ => undef) (hpFrom 0 [])) := fun b _ hb => ⟨hF b, rfl⟩
  have hS : SRep (ctx0 w) (fun _ => undef) (St.bare []) Act.none0 w := by
    refine ⟨rfl, rfl, by simp [St.bare, gt], by simp [St.bare, hpFrom, gt], by simp [St.bare, hpFrom, gt], by simp [St.bare, hpFrom, gt], by simp [St.bare, hpFrom, gt], Fr.refl _ _, fun b hb => hb.elim, fun κ v hv => (by cases hv), fun κ v hv => (by cases hv)⟩
  refine (h (ctx0 w) (fun _ => undef) us w hS (RepVs.kept hk (Nat.le_refl _) _ _ hr) (fun κ v hv => by cases hv)).mono ?_
  rintro e w' ⟨u, m', r, hs', rfl, ⟨rfl, rfl⟩, _, h4, h5⟩
  have h6 := (repV_v.1 h5).1
  subst h6
  refine ⟨rfl, ?_⟩
  have hf := h4.fr
  exact ⟨hf.os, hf.tape, hf.output, hf.size, fun k hk => hf.block k hk (fun h => h)⟩

theorem repVs_nil {w : World} {m : Nat → Value} : RepVs w nobody m [] [] := by simp only [RepVs]
theorem repVs_cons {w : World} {m : Nat → Value} {d : D} {u : Value} {ds : List D} {us : List Value} (h : RepD w nobody d u) (hr : RepVs w nobody m (ds.map .d) us) : RepVs w nobody m ((d :: ds).map .d) (u :: us) := by
  simp only [List.map_cons, RepVs, RepV]
  exact ⟨u, us, rfl, h, hr⟩
theorem repD_cells {w : World} {k : IntKind} {a : Option Addr} {zs : List Int} {cap : Nat} (h1 : zs.length ≤ cap) (h2 : cap ≤ maxLen) (h3 : a = none → cap = 0) (h4 : Cells w a (zs.map (.int k))) : RepD w nobody (.ints k zs none) (.slice a zs.length cap) := by
  simp only [RepD]
  refine ⟨a, cap, rfl, h1, h2, h3, by simp, fun hne => ?_⟩
  obtain ⟨b, off, h5, h6⟩ := h4 (by simpa using hne)
  exact ⟨b, off, h5, fun h => h, fun i x hi => h6 i _ (by rw [List.getElem?_map, hi]; rfl)⟩
theorem repD_int {w : World} {k : IntKind} {x : Int} : RepD w nobody (.v (.int k x)) (.int k x) := by simp only [RepD]; first | exact ⟨rfl, rfl⟩ | exact ⟨trivial, rfl⟩
theorem repD_bool {w : World} {b : Bool} : RepD w nobody (.v (.bool b)) (.bool b) := by simp only [RepD]; first | exact ⟨rfl, rfl⟩ | exact ⟨trivial, rfl⟩
theorem okWide_array {P : Program} {w : World} {r : Reach} {base : Nat} {t e : TypeId} {n : Nat} {v : Value} (ht : P.underlying t = some (.array n e)) (h : Value.okWide P w r base t v) : ∃ cs, v = .agg cs ∧ cs.size = P.cellsOf t := by
  simp only [Value.okWide, ht] at h
  obtain ⟨cs, h1, h2, _⟩ := h
  exact ⟨cs, h1, h2⟩
/-- Two integers as an argument. -/
theorem Tr.int2 {P : Program} {W : World} {r : Reach} {base : Nat} {t e : TypeId} {k : IntKind} {v : Value} (hu : P.underlying t = some (.array 2 e)) (he : P.underlying e = some (.int k)) (hc : P.cellsOf e = 1) (hn : P.cellsOf t = 2) (ho : Value.okWide P W r base t v) (h : Tr P W t v.cells.toList) :
    ∃ a b, v = .agg #[.int k a, .int k b] ∧ (Lit.int k a).wf = true ∧ (Lit.int k b).wf = true := by
  obtain ⟨cs, rfl, hs⟩ := okWide_array hu ho
  rw [hn] at hs
  obtain ⟨c0, c1, hl⟩ := len2 (l := cs.toList) (by simpa using hs)
  have hcs : cs = #[c0, c1] := by rw [← Array.toArray_toList (xs := cs), hl]
  subst hcs
  obtain ⟨a, ha, wa⟩ := Tr.int he (Tr.elem (k := 0) (n := 2) (m := 1) hu hc (by decide) h)
  obtain ⟨b, hb, wb⟩ := Tr.int he (Tr.elem (k := 1) (n := 2) (m := 1) hu hc (by decide) h)
  simp [Value.cells] at ha hb
  subst ha hb
  exact ⟨a, b, rfl, wa, wb⟩
theorem repD_int2 {w : World} {k : IntKind} {a b : Int} : RepD w nobody (.agg [.v (.int k a), .v (.int k b)]) (.agg #[.int k a, .int k b]) := by
  simp only [RepD, RepRow]
  exact ⟨[.int k a, .int k b], rfl, _, [.int k b], rfl, rfl, ⟨rfl, rfl⟩, _, [], rfl, rfl, ⟨rfl, rfl⟩, rfl⟩
end Go.Proofs.Ytpdbekbobkjfgaa
