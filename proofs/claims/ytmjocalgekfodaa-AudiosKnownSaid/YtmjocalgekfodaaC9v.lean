/-
  The loop over a function of audios.Simulate: its round, and what the loop comes to.
  Conditions: none.
-/
import Derived.Test.YtmjocalgekfodaaC9u
namespace Go.Proofs.Ytmjocalgekfodaa
open Go.RowKit
set_option linter.unusedVariables false
set_option linter.unusedSimpArgs false
set_option maxRecDepth 100000

theorem simB_J1k (m : Nat) : CutR Try.prog _ _ simB_J1i simB_J1o (simB_J1f m) (rfA (bodyAt Try.prog 16 [true, true, true, true, false, true, false])) (rfB (bodyAt Try.prog 16 [true, true, true, true, false, true, false])) :=
  cutR_ok ty_mixed (simB_tabok m) (fl := flT) (N := 300) (by kernel_rfl) (by kernel_rfl) (fun R x K => by kernel_rfl)

def simRFi := (spat 77 (tcons 1 (shp (.i .u32)) (tcons 2 (shp (.row (.cons (.i .u32) (.cons .b (.cons .b .nil))))) (tcon0 3 (ptrp 19 0) (tcon0 6 (ptrp 22 0) (tcon0 10 (ptrp 26 0) tnil))))) (hcons 19 (boxs 36 (.i .i64) (.cons (.i .i64) (.cons (.i .i64) (.cons (.i .u32) .nil)))) (hcons 22 (boxp 40 (vcon0 (datp (.v (.slice none 0 0))) (vcon0 (datp (.v (.slice none 0 0))) (vcons (shp (.i .i64)) (vcons (shp (.i .i64)) vnil))))) (hcons 26 (boxp 40 (vcon0 (ownp 55) (vcon0 (ownp 58) (vcons (shp (.i .i64)) (vcons (shp (.i .i64)) vnil))))) (hcons 55 (intsp 3 .i64) (hcons 58 (intsp 3 .i64) hnil))))))
def simRFs := (spat 77 (tcon0 6 (ptrp 22 0) (tcon0 10 (ptrp 26 0) (tcon0 47 (closp 78 (vcon0 (ptrp 93 0) (vcon0 (ptrp 94 0) (vcon0 (ptrp 95 0) vnil)))) tnil))) (hcons 22 (boxp 40 (vcon0 (datp (.v (.slice none 0 0))) (vcon0 (datp (.v (.slice none 0 0))) (vcons (shp (.i .i64)) (vcons (shp (.i .i64)) vnil))))) (hcons 26 (boxp 40 (vcon0 (ownp 55) (vcon0 (ownp 58) (vcons (shp (.i .i64)) (vcons (shp (.i .i64)) vnil))))) (hcons 55 (intsp 3 .i64) (hcons 58 (intsp 3 .i64) (hcons 93 (boxp 34 (vcons (shp (.i .u32)) vnil)) (hcons 94 (boxp 37 (vcons (shp (.row (.cons (.i .u32) (.cons .b (.cons .b .nil))))) vnil)) (hcons 95 (boxs 36 (.i .i64) (.cons (.i .i64) (.cons (.i .i64) (.cons (.i .u32) .nil)))) hnil))))))))
def simRFo := (one .normal [] (spat 77 (tcon0 6 (ptrp 22 0) (tcon0 10 (ptrp 26 0) tnil)) (hcons 22 (boxp 40 (vcon0 (datp (.v (.slice none 0 0))) (vcon0 (datp (.v (.slice none 0 0))) (vcons (shp (.i .i64)) (vcons (shp (.i .i64)) vnil))))) (hcons 26 (boxp 40 (vcon0 (ownp 55) (vcon0 (ownp 58) (vcons (shp (.i .i64)) (vcons (shp (.i .i64)) vnil))))) (hcons 55 (intsp 3 .i64) (hcons 58 (intsp 3 .i64) hnil))))))
abbrev SimG := Int × Int × Int × Int × List Int × List Int
abbrev SimX := (Int × Int × Unit) × (Bool × Bool × Unit) × Unit
def simB (m : Nat) (g : SimG) (x : SimX) : Option SimG := simB_J1 m x.1.1 x.1.2.1 x.2.1.1 x.2.1.2.1 g.1 g.2.1 g.2.2.1 g.2.2.2.1 g.2.2.2.2.1 g.2.2.2.2.2 (fun d0 d1 => some (g.1, g.2.1, d0, d1, g.2.2.2.2.1 ++ [x.1.2.1], g.2.2.2.2.2 ++ [x.1.1]))
def simP := (vcons (aggp (vcons (shp (.i .i64)) (vcons (shp (.i .i64)) vnil))) (vcons (aggp (vcons (shp .b) (vcons (shp .b) vnil))) vnil))
abbrev SimS := Int × Int × Int × Int × Unit
abbrev SimT := List (Int × Bool × Bool × Unit)
def simRF {R : Type} (m : Nat) (nom : Int) (l : SimT) (s : SimS) (a b c d : Int) (xs ys : List Int) (k0 : Int → Int → Int → Int → List Int → List Int → Option R) : Option R :=
  bnd (frm_Y (ykF (simB m) simP) m V00 nom l s (a, b, c, d, xs, ys)) fun g => k0 g.1 g.2.1 g.2.2.1 g.2.2.2.1 g.2.2.2.2.1 g.2.2.2.2.2
theorem frmL_eq (m : Nat) (V W : Value) {α X : Type} (B : α → X → Option α) (p : VsPat X) : ∀ (n : Nat) (l : SimT) (c i : Int) (nom : Int) (l0 : SimT) (s : SimS) (src : Int × Int × Unit) (ws : Int × Int × Unit) (g : α),
    frm_L0 (ykB V B p) m n V l c i nom l0 s src ws g = frm_L0 (ykF B p) m n W l c i nom l0 s src ws g := by
  intro n
  induction n with
  | zero => intros; rfl
  | succ n ih =>
    intro l c i nom l0 s src ws g
    rw [frm_L0, frm_L0]
    simp only [ykB_self, ih]
    rfl
theorem frmY_eq (m : Nat) (V W : Value) {α X : Type} (B : α → X → Option α) (p : VsPat X) (nom : Int) (l : SimT) (s : SimS) (g : α) : frm_Y (ykB V B p) m V nom l s g = frm_Y (ykF B p) m W nom l s g := by
  unfold frm_Y
  simp only [frmL_eq m V W B p]
def simRFf (m : Nat) : (R : Type) → ((Int × SimT × Unit) × SimS × (Int × Int × Unit) × (Int × Int × Unit) × List Int × List Int × Unit) → ((Unit × (Int × Int × Unit) × (Int × Int × Unit) × List Int × List Int × Unit) → Option R) → Option R :=
  fun R x K => simRF m x.1.1 x.1.2.1 x.2.1 x.2.2.1.1 x.2.2.1.2.1 x.2.2.2.1.1 x.2.2.2.1.2.1 x.2.2.2.2.1 x.2.2.2.2.2.1 (fun a b c d xs ys => K ((), (a, b, ()), (c, d, ()), xs, ys, ()))
noncomputable def simC : Code := bodyAt Try.prog 16 [true, true, true, true, false]
theorem simC_eq : bodyAt Try.prog 16 [true, true, true, true, false] = .seq (sq1 simC) (.block 2 (.rangeFunc (.tmp 47) #[48, 49] (rfA (sq2 simC)) (rfB (sq2 simC)))) := by kernel_rfl
theorem sim_fn : ∃ fn, IsFn Try.prog 78 fn := by
  have h : (match Try.prog.funcs[78]? with | some fn => fn.body.isSome && !(fn.name == "runtime.NumGoroutine") | none => false) = true := by kernel_rfl
  split at h
  · rename_i fn hfn
    simp only [Bool.and_eq_true, Bool.not_eq_true'] at h
    exact ⟨fn, hfn, h.1, h.2⟩
  · cases h
theorem sim_reg (m : Nat) : CutOk Try.prog _ _ simRFi (one .normal [] simRFs) (fun (R : Type) (x : (Int × SimT × Unit) × SimS × (Int × Int × Unit) × (Int × Int × Unit) × List Int × List Int × Unit) (K : (Unit × (Int × Int × Unit) × (Int × Int × Unit) × List Int × List Int × (Int × Unit) × (SimT × Unit) × SimS × Unit) → Option R) =>
    K ((), x.2.2.1, x.2.2.2.1, x.2.2.2.2.1, x.2.2.2.2.2.1, (x.1.1, ()), (x.1.2.1, ()), x.2.1, ())) (sq1 simC) :=
  cut_ok ty_mixed (simB_tabok m) (fl := flT) (N := 300) (t := .leaf) trivial (fun R x K => by kernel_rfl)
def simBlks (g : SimG) : List Blk := [SB.box 40 [.d (.v (.slice none 0 0)), .d (.v (.slice none 0 0)), .i .i64 g.1, .i .i64 g.2.1], SB.box 40 [.own 2, .own 3, .i .i64 g.2.2.1, .i .i64 g.2.2.2.1], SB.ints 3 .i64 g.2.2.2.2.1 none, SB.ints 3 .i64 g.2.2.2.2.2 none].map SB.toB
theorem simA_eq : rfA (sq2 simC) = rfA (bodyAt Try.prog 16 [true, true, true, true, false, true, false]) := by kernel_rfl
theorem simB_eq : rfB (sq2 simC) = rfB (bodyAt Try.prog 16 [true, true, true, true, false, true, false]) := by kernel_rfl
def simD (x : SimX) : List D := [.agg [.v (.int .i64 x.1.1), .v (.int .i64 x.1.2.1)], .agg [.v (.bool x.2.1.1), .v (.bool x.2.1.2.1)]]
theorem awpr_le {P : Program} {l : Nat} {c : Code} {Q : Exit → St → Prop} {s s' : St} (h : LeSt s' s) (ha : AWpR P l c Q s') : AWpR P l c Q s := fun cx m a w hr => ha cx m a w (h cx m a w hr)
theorem roundOk_ofLe {P : Program} {z : RC} {ds : List D} {hp hp' : List (Nat × Blk)} {s : St} (hlen : ds.length = z.ps.size) (hts : ∀ t ∈ z.ps.toList, t < z.a0.tmps.size) (hok : okHp hp' = true) (hs : LeSt s (putsS z.ps.toList ds (z.st hp)))
    (h : ∀ (l : Nat) (Q : Exit → St → Prop), (∀ s', s'.hp = hp' → Q .normal s') → AWpR P l z.assign (Xthen (AWpR P l z.body Q) (fun _ _ => False)) s) : RoundOk P z ds hp hp' :=
  ⟨hlen, hts, hok, awpr_le hs (h z.l _ (fun s' h' => ⟨rfl, h'⟩))⟩
theorem ykB_okLe {P : Program} {z : RC} {α X : Type} {blks : α → List Blk} {B : α → X → Option α} {p : VsPat X} (dsOf : X → List D) (hds : ∀ x, RepsLe (SV.toAVs (p.put x)) ((dsOf x).map .d))
    (hround : ∀ g x g', B g x = some g' → RoundOk P z (dsOf x) (hpFrom 0 (blks g)) (hpFrom 0 (blks g'))) : YKOk P (fun g => z.C (hpFrom 0 (blks g))) (ykB (.func (.yield z.l) #[] #[]) B p) := by
  intro R V g vs K r h
  unfold ykB at h
  split at h
  · rename_i hV
    unfold ykF at h
    split at h
    · rename_i x hx
      unfold bnd at h
      obtain ⟨g', hg, hK⟩ := Option.bind_eq_some_iff.1 h
      refine ⟨z.l, g', dsOf x, fun g ds g' => RoundOk P z ds (hpFrom 0 (blks g)) (hpFrom 0 (blks g')), hV, ?_, hround g x g' hg, hK, ?_⟩
      · intro g ds g' cI mI sI aI w us h1 h2 h3 h4
        exact yieldC _ _ _ cI mI sI aI w us h1 h2 h3 h4
      · intro w F m us hu; exact hds x w F m us (p.le _ _ hx w F m us hu)
    · cases h
  · cases h
theorem agg_dat {ds : List D} : AVLe (.agg (ds.map .d)) (.d (.agg ds)) := fun w F m u h => repV_d.2 (repAgg_back h)
theorem simP_le (x : SimX) : RepsLe (SV.toAVs (simP.put x)) ((simD x).map .d) := by
  intro w F m us h
  have e : SV.toAVs (simP.put x) = [.agg (([.v (.int .i64 x.1.1), .v (.int .i64 x.1.2.1)] : List D).map .d), .agg (([.v (.bool x.2.1.1), .v (.bool x.2.1.2.1)] : List D).map .d)] := rfl
  rw [e] at h
  simp only [RepVs, simD, List.map_cons, List.map_nil] at h ⊢
  obtain ⟨u1, r1, rfl, h1, u2, r2, rfl, h2, rfl⟩ := h
  exact ⟨u1, _, rfl, agg_dat w F m u1 h1, u2, _, rfl, agg_dat w F m u2 h2, rfl⟩
theorem sim_round (m : Nat) (z : RC) (e1 : z.ps = #[48, 49]) (e2 : z.assign = rfA (sq2 simC)) (e3 : z.body = rfB (sq2 simC)) (e4 : z.tm = [(6, .ptr 0 0), (10, .ptr 1 0)]) (e5 : z.a0.tmps.size = 77) (g : SimG) (x : SimX) (g' : SimG) (hB : simB m g x = some g') :
    RoundOk Try.prog z (simD x) (hpFrom 0 (simBlks g)) (hpFrom 0 (simBlks g')) := by
  obtain ⟨⟨x1, x2, u1⟩, ⟨x3, x4, u2⟩, u3⟩ := x
  obtain ⟨a, b, c, d, xs, ys⟩ := g
  obtain ⟨y, hy, h5⟩ := simB_J1k m _ (((x1, x2, u1), (x3, x4, u2), u3), (a, b, ()), (c, d, ()), xs, ys, ()) (fun y => some (y.2.1.1, y.2.1.2.1, y.2.2.1.1, y.2.2.1.2.1, y.2.2.2.1, y.2.2.2.2.1)) g' hB
  obtain ⟨e, s', h6, h7⟩ := h5 (Exit × SSt) (fun e s => some (e, s)) _ rfl
  cases h6
  obtain ⟨yu, ⟨ya, yb, yu1⟩, ⟨yc, yd, yu2⟩, yxs, yys, yu'⟩ := y
  simp only [Option.some.injEq] at hy
  subst hy
  refine roundOk_ofLe (s := (simB_J1i.put (((x1, x2, u1), (x3, x4, u2), u3), (a, b, ()), (c, d, ()), xs, ys, ())).toSt) (by rw [e1]; rfl) (fun t ht => ?_) rfl ?_ (fun l Q hQ => ?_)
  · rw [e1] at ht
    have : t = 48 ∨ t = 49 := by simpa using ht
    rw [e5]; rcases this with h | h <;> rw [h] <;> decide
  · unfold RC.st
    rw [e1, e4, e5]
    have h1 : LeSt { n := 77, tm := [(6, .ptr 0 0), (10, .ptr 1 0), (48, .agg (([.v (.int .i64 x1), .v (.int .i64 x2)] : List D).map .d)), (49, .d (.agg [.v (.bool x3), .v (.bool x4)]))], hp := hpFrom 0 (simBlks (a, b, c, d, xs, ys)) } (putsS [48, 49] (simD ((x1, x2, u1), (x3, x4, u2), u3)) ⟨77, [(6, .ptr 0 0), (10, .ptr 1 0)], hpFrom 0 (simBlks (a, b, c, d, xs, ys))⟩) :=
      le_slot (t := 48) (v := .d (.agg [.v (.int .i64 x1), .v (.int .i64 x2)])) rfl (fun w F m u h => repAgg_cells (repV_d.1 h))
    have h2 : LeSt (simB_J1i.put (((x1, x2, u1), (x3, x4, u2), u3), (a, b, ()), (c, d, ()), xs, ys, ())).toSt { n := 77, tm := [(6, .ptr 0 0), (10, .ptr 1 0), (48, .agg (([.v (.int .i64 x1), .v (.int .i64 x2)] : List D).map .d)), (49, .d (.agg [.v (.bool x3), .v (.bool x4)]))], hp := hpFrom 0 (simBlks (a, b, c, d, xs, ys)) } :=
      le_slot (t := 49) (v := .d (.agg [.v (.bool x3), .v (.bool x4)])) rfl (fun w F m u h => repAgg_cells (ds := [.v (.bool x3), .v (.bool x4)]) (repV_d.1 h))
    exact h2.trans h1
  · rw [e2, e3, simA_eq, simB_eq]
    exact h7 l Q (hQ _ rfl)
theorem simRFk (m : Nat) : CutOk Try.prog _ _ simRFi simRFo (simRFf m) (bodyAt Try.prog 16 [true, true, true, true, false]) := by
  intro R x K r h
  obtain ⟨⟨nom, l, u⟩, s, ⟨a, b, u1⟩, ⟨c, d, u2⟩, xs, ys, u'⟩ := x
  obtain ⟨g', hg', hK⟩ := Option.bind_eq_some_iff.1 (show (frm_Y (ykF (simB m) simP) m V00 nom l s (a, b, c, d, xs, ys)).bind (fun g => K ((), (g.1, g.2.1, ()), (g.2.2.1, g.2.2.2.1, ()), g.2.2.2.2.1, g.2.2.2.2.2, ())) = some r from h)
  refine ⟨_, hK, fun R' k r' hk => ⟨.normal, _, hk, fun Q hq => ?_⟩⟩
  rw [simC_eq]
  obtain ⟨y, hy, h2⟩ := sim_reg m _ ((nom, l, u), s, (a, b, u1), (c, d, u2), xs, ys, u') some _ rfl
  cases hy
  obtain ⟨e, s', h3, h4⟩ := h2 (Exit × SSt) (fun e s => some (e, s)) _ rfl
  cases h3
  refine awp_seq (h4 _ ?_)
  show AWp Try.prog (.block 2 _) Q _
  refine awp_block ?_
  obtain ⟨fn, hfn⟩ := sim_fn
  refine awp_rangeFunc (f := 78) (caps := [.ptr 93 0, .ptr 94 0, .ptr 95 0]) rfl hfn [93, 94, 95] (by decide) rfl (by decide) [22, 26, 55, 58] (bs0 := simBlks (a, b, c, d, xs, ys)) (by decide) rfl (by decide) (by decide) rfl [(6, .ptr 22 0), (10, .ptr 26 0)] ?_ (fun bs' => bs' = simBlks g') ?_ ?_
  · intro t v ht
    simp only [gt] at ht
    split at ht
    · rename_i e
      cases ht
      subst e
      exact ⟨rfl, by decide, _, _, rfl⟩
    · split at ht
      · rename_i e
        cases ht
        subst e
        exact ⟨rfl, by decide, _, _, rfl⟩
      · cases ht
  · intro z e1 e2 e3 e4 e5
    exact ICall.to (blks := simBlks) (g' := g') (frm_ok (ykB_okLe (P := Try.prog) (z := z) (blks := simBlks) (B := simB m) (p := simP) simD simP_le (fun g x g' hB => sim_round m z e1 e2 e3 e4 e5 g x g' hB)) m _ nom l s (a, b, c, d, xs, ys) g' ((frmY_eq m _ V00 _ _ nom l s (a, b, c, d, xs, ys)).trans hg')) ⟨simBlks g', rfl, rfl, rfl⟩
  · rintro bs' rfl _
    exact hq
end Go.Proofs.Ytmjocalgekfodaa

