/-
  The loop over a function of audios.Simulate: its round, and what the loop comes to.
  Conditions: none.
-/
import Derived.Test.YtmjocalgekfodaaC9u
namespace Go.Proofs.Ytmjocalgekfodaa
open Go.RowKit
set_option linter.unusedVariables false
set_option linter.unusedSimpArgs false
set_option maxRecDepth 100000


abbrev SimG := Int × Int × Int × Int × List Int × List Int
abbrev SimX := (Int × Int × Unit) × (Bool × Bool × Unit) × Unit
def simB (m : Nat) (g : SimG) (x : SimX) : Option SimG := simB_J1 m x.1.1 x.1.2.1 x.2.1.1 x.2.1.2.1 g.1 g.2.1 g.2.2.1 g.2.2.2.1 g.2.2.2.2.1 g.2.2.2.2.2 (fun d0 d1 => some (g.1, g.2.1, d0, d1, g.2.2.2.2.1 ++ [x.1.2.1], g.2.2.2.2.2 ++ [x.1.1]))
def simP := (vcons (aggp (vcons (shp (.i .i64)) (vcons (shp (.i .i64)) vnil))) (vcons (aggp (vcons (shp .b) (vcons (shp .b) vnil))) vnil))
abbrev SimS := Int × Int × Int × Int × Unit
abbrev SimT := List (Int × Bool × Bool × Unit)
def simRF {R : Type} (m : Nat) (nom : Int) (l : SimT) (s : SimS) (a b c d : Int) (xs ys : List Int) (k0 : Int → Int → Int → Int → List Int → List Int → Option R) : Option R :=
  bnd (frm_Y (ykF (simB m) simP) m V00 nom l s (a, b, c, d, xs, ys)) fun g => k0 g.1 g.2.1 g.2.2.1 g.2.2.2.1 g.2.2.2.2.1 g.2.2.2.2.2
theorem frmL_eq (m : Nat) (V W : Value) {α X : Type} (B : α → X → Option α) (p : VsPat X) : ∀ (n : Nat) (l : SimT) (c i : Int) (nom : Int) (l0 : SimT) (s : SimS) (src : Int × Int × Unit) (ws : Int × Int × Unit) (g : α),
    frm_L0 (ykB V B p) m n V l c i nom l0 s src ws g = frm_L0 (ykF B p) m n W l c i nom l0 s src ws g := by
  intro n
  induction n with
  | zero => intros; rfl
  | succ n ih =>
    intro l c i nom l0 s src ws g
    rw [frm_L0, frm_L0]
    simp only [ykB_self, ih]
    rfl
theorem frmY_eq (m : Nat) (V W : Value) {α X : Type} (B : α → X → Option α) (p : VsPat X) (nom : Int) (l : SimT) (s : SimS) (g : α) : frm_Y (ykB V B p) m V nom l s g = frm_Y (ykF B p) m W nom l s g := by
  unfold frm_Y
  simp only [frmL_eq m V W B p]
noncomputable def simC : Code := bodyAt Try.prog 16 [true, true, true, true, false]
theorem simC_eq : bodyAt Try.prog 16 [true, true, true, true, false] = .seq (sq1 simC) (.block 2 (.rangeFunc (.tmp 47) #[48, 49] (rfA (sq2 simC)) (rfB (sq2 simC)))) := by kernel_rfl
theorem sim_fn : ∃ fn, IsFn Try.prog 78 fn := by
  have h : (match Try.prog.funcs[78]? with | some fn => fn.body.isSome && !(fn.name == "runtime.NumGoroutine") | none => false) = true := by kernel_rfl
  split at h
  · rename_i fn hfn
    simp only [Bool.and_eq_true, Bool.not_eq_true'] at h
    exact ⟨fn, hfn, h.1, h.2⟩
  · cases h
theorem simA_eq : rfA (sq2 simC) = rfA (bodyAt Try.prog 16 [true, true, true, true, false, true, false]) := by kernel_rfl
theorem simB_eq : rfB (sq2 simC) = rfB (bodyAt Try.prog 16 [true, true, true, true, false, true, false]) := by kernel_rfl
def simD (x : SimX) : List D := [.agg [.v (.int .i64 x.1.1), .v (.int .i64 x.1.2.1)], .agg [.v (.bool x.2.1.1), .v (.bool x.2.1.2.1)]]
theorem awpr_le {P : Program} {l : Nat} {c : Code} {Q : Exit → St → Prop} {s s' : St} (h : LeSt s' s) (ha : AWpR P l c Q s') : AWpR P l c Q s := fun cx m a w hr => ha cx m a w (h cx m a w hr)
theorem roundOk_ofLe {P : Program} {z : RC} {ds : List D} {hp hp' : List (Nat × Blk)} {s : St} (hlen : ds.length = z.ps.size) (hts : ∀ t ∈ z.ps.toList, t < z.a0.tmps.size) (hok : okHp hp' = true) (hs : LeSt s (putsS z.ps.toList ds (z.st hp)))
    (h : ∀ (l : Nat) (Q : Exit → St → Prop), (∀ s', s'.hp = hp' → Q .normal s') → AWpR P l z.assign (Xthen (AWpR P l z.body Q) (fun _ _ => False)) s) : RoundOk P z ds hp hp' :=
  ⟨hlen, hts, hok, awpr_le hs (h z.l _ (fun s' h' => ⟨rfl, h'⟩))⟩
theorem ykB_okLe {P : Program} {z : RC} {α X : Type} {blks : α → List Blk} {B : α → X → Option α} {p : VsPat X} (dsOf : X → List D) (hds : ∀ x, RepsLe (SV.toAVs (p.put x)) ((dsOf x).map .d))
    (hround : ∀ g x g', B g x = some g' → RoundOk P z (dsOf x) (hpFrom 0 (blks g)) (hpFrom 0 (blks g'))) : YKOk P (fun g => z.C (hpFrom 0 (blks g))) (ykB (.func (.yield z.l) #[] #[]) B p) := by
  intro R V g vs K r h
  unfold ykB at h
  split at h
  · rename_i hV
    unfold ykF at h
    split at h
    · rename_i x hx
      unfold bnd at h
      obtain ⟨g', hg, hK⟩ := Option.bind_eq_some_iff.1 h
      refine ⟨z.l, g', dsOf x, fun g ds g' => RoundOk P z ds (hpFrom 0 (blks g)) (hpFrom 0 (blks g')), hV, ?_, hround g x g' hg, hK, ?_⟩
      · intro g ds g' cI mI sI aI w us h1 h2 h3 h4
        exact yieldC _ _ _ cI mI sI aI w us h1 h2 h3 h4
      · intro w F m us hu; exact hds x w F m us (p.le _ _ hx w F m us hu)
    · cases h
  · cases h
theorem agg_dat {ds : List D} : AVLe (.agg (ds.map .d)) (.d (.agg ds)) := fun w F m u h => repV_d.2 (repAgg_back h)
theorem simP_le (x : SimX) : RepsLe (SV.toAVs (simP.put x)) ((simD x).map .d) := by
  intro w F m us h
  have e : SV.toAVs (simP.put x) = [.agg (([.v (.int .i64 x.1.1), .v (.int .i64 x.1.2.1)] : List D).map .d), .agg (([.v (.bool x.2.1.1), .v (.bool x.2.1.2.1)] : List D).map .d)] := rfl
  rw [e] at h
  simp only [RepVs, simD, List.map_cons, List.map_nil] at h ⊢
  obtain ⟨u1, r1, rfl, h1, u2, r2, rfl, h2, rfl⟩ := h
  exact ⟨u1, _, rfl, agg_dat w F m u1 h1, u2, _, rfl, agg_dat w F m u2 h2, rfl⟩
end Go.Proofs.Ytmjocalgekfodaa

