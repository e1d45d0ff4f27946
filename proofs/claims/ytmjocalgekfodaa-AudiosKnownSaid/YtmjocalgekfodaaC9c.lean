/-
  audios.Simulate once more, with the capacities of the lists that it returns.
  Conditions: none.
-/
import Derived.Test.YtmjocalgekfodaaC9z
namespace Go.Proofs.Ytmjocalgekfodaa
open Go.RowKit
set_option linter.unusedVariables false
set_option linter.unusedSimpArgs false
set_option maxRecDepth 100000

def intsc (e : TypeId) (k : IntKind) : BPat (List Int × Nat) where
  get B := match B with
    | .raw (.ints e' k' xs (some c)) => if e' = e ∧ k' = k then some (xs, c) else none
    | .ints e' k' xs (some c) => if e' = e ∧ k' = k then some (xs, c) else none
    | _ => none
  put x := .raw (.ints e k x.1 (some x.2))
  le B x h := by
    split at h
    · split at h
      · rename_i hq; obtain ⟨rfl, rfl⟩ := hq; cases h; exact BLe.refl _
      · cases h
    · split at h
      · rename_i hq; obtain ⟨rfl, rfl⟩ := hq; cases h; exact BLe.refl _
      · cases h
    · cases h
def simc_J1 {R : Type} (m : Nat) (x248 : Int) (x249 : Int) (x250 : Bool) (x251 : Bool) (x252 : Int) (x253 : Int) (x254 : Int) (x255 : Int) (x256 : List Int × Nat) (x257 : List Int × Nat) (k0 : Int → Int → Option R) : Option R :=
  (bif (growOb (8 : Nat) (List.length x257.1 + List.length [x248]) && decide (List.length x257.1 + List.length [x248] ≤ x257.2)) && decide ((55 : Nat) < nat_lit 77) then (bif (growOb (8 : Nat) (List.length x256.1 + List.length [x249]) && decide (List.length x256.1 + List.length [x249] ≤ x256.2)) && decide ((61 : Nat) < nat_lit 77) then (bif x250 then (bif x251 then k0 (Go.IntKind.wrap Go.IntKind.i64 (x254 + (1 : Int))) (Go.IntKind.wrap Go.IntKind.i64 (x255 + (1 : Int))) else k0 (x254) (Go.IntKind.wrap Go.IntKind.i64 (x255 + (1 : Int)))) else (bif x251 then k0 (Go.IntKind.wrap Go.IntKind.i64 (x254 + (1 : Int))) (x255) else k0 (x254) (x255))) else none) else none)
def simc_J1i := (spat 77 (tcon0 6 (ptrp 0 0) (tcon0 10 (ptrp 1 0) (tcons 48 (aggp (vcons (shp (.i .i64)) (vcons (shp (.i .i64)) vnil))) (tcons 49 (aggp (vcons (shp .b) (vcons (shp .b) vnil))) tnil)))) (hcons 0 (boxp 40 (vcon0 (datp (.v (.slice none 0 0))) (vcon0 (datp (.v (.slice none 0 0))) (vcons (shp (.i .i64)) (vcons (shp (.i .i64)) vnil))))) (hcons 1 (boxp 40 (vcon0 (ownp 2) (vcon0 (ownp 3) (vcons (shp (.i .i64)) (vcons (shp (.i .i64)) vnil))))) (hcons 2 (intsc 3 .i64) (hcons 3 (intsc 3 .i64) hnil)))))
def simc_J1o := (one .normal [] (spat 77 (tcon0 6 (ptrp 0 0) (tcon0 10 (ptrp 1 0) tnil)) (hcons 0 (boxp 40 (vcon0 (datp (.v (.slice none 0 0))) (vcon0 (datp (.v (.slice none 0 0))) (vcons (shp (.i .i64)) (vcons (shp (.i .i64)) vnil))))) (hcons 1 (boxp 40 (vcon0 (ownp 2) (vcon0 (ownp 3) (vcons (shp (.i .i64)) (vcons (shp (.i .i64)) vnil))))) (hcons 2 (intsc 3 .i64) (hcons 3 (intsc 3 .i64) hnil))))))
abbrev LC := List Int × Nat
def simc_J1f (m : Nat) : (R : Type) → (((Int × Int × Unit) × (Bool × Bool × Unit) × Unit) × (Int × Int × Unit) × (Int × Int × Unit) × LC × LC × Unit) → ((Unit × (Int × Int × Unit) × (Int × Int × Unit) × LC × LC × Unit) → Option R) → Option R := fun R x K =>
  simc_J1 m x.1.1.1 x.1.1.2.1 x.1.2.1.1 x.1.2.1.2.1 x.2.1.1 x.2.1.2.1 x.2.2.1.1 x.2.2.1.2.1 x.2.2.2.1 x.2.2.2.2.1 (fun d0 d1 => K ((), ((x.2.1.1, (x.2.1.2.1, ())), ((d0, (d1, ())), ((x.2.2.2.1.1 ++ [x.1.1.2.1], x.2.2.2.1.2), ((x.2.2.2.2.1.1 ++ [x.1.1.1], x.2.2.2.2.1.2), ()))))))
theorem simc_J1k (m : Nat) : CutR Try.prog _ _ simc_J1i simc_J1o (simc_J1f m) (rfA (bodyAt Try.prog 16 [true, true, true, true, false, true, false])) (rfB (bodyAt Try.prog 16 [true, true, true, true, false, true, false])) :=
  cutR_ok ty_mixed (simB_tabok m) (fl := flT) (N := 300) (by kernel_rfl) (by kernel_rfl) (fun R x K => by kernel_rfl)

def simcRFi := (spat 77 (tcons 1 (shp (.i .u32)) (tcons 2 (shp (.row (.cons (.i .u32) (.cons .b (.cons .b .nil))))) (tcon0 3 (ptrp 19 0) (tcon0 6 (ptrp 22 0) (tcon0 10 (ptrp 26 0) tnil))))) (hcons 19 (boxs 36 (.i .i64) (.cons (.i .i64) (.cons (.i .i64) (.cons (.i .u32) .nil)))) (hcons 22 (boxp 40 (vcon0 (datp (.v (.slice none 0 0))) (vcon0 (datp (.v (.slice none 0 0))) (vcons (shp (.i .i64)) (vcons (shp (.i .i64)) vnil))))) (hcons 26 (boxp 40 (vcon0 (ownp 55) (vcon0 (ownp 58) (vcons (shp (.i .i64)) (vcons (shp (.i .i64)) vnil))))) (hcons 55 (intsc 3 .i64) (hcons 58 (intsc 3 .i64) hnil))))))
def simcRFs := (spat 77 (tcon0 6 (ptrp 22 0) (tcon0 10 (ptrp 26 0) (tcon0 47 (closp 78 (vcon0 (ptrp 93 0) (vcon0 (ptrp 94 0) (vcon0 (ptrp 95 0) vnil)))) tnil))) (hcons 22 (boxp 40 (vcon0 (datp (.v (.slice none 0 0))) (vcon0 (datp (.v (.slice none 0 0))) (vcons (shp (.i .i64)) (vcons (shp (.i .i64)) vnil))))) (hcons 26 (boxp 40 (vcon0 (ownp 55) (vcon0 (ownp 58) (vcons (shp (.i .i64)) (vcons (shp (.i .i64)) vnil))))) (hcons 55 (intsc 3 .i64) (hcons 58 (intsc 3 .i64) (hcons 93 (boxp 34 (vcons (shp (.i .u32)) vnil)) (hcons 94 (boxp 37 (vcons (shp (.row (.cons (.i .u32) (.cons .b (.cons .b .nil))))) vnil)) (hcons 95 (boxs 36 (.i .i64) (.cons (.i .i64) (.cons (.i .i64) (.cons (.i .u32) .nil)))) hnil))))))))
def simcRFo := (one .normal [] (spat 77 (tcon0 6 (ptrp 22 0) (tcon0 10 (ptrp 26 0) tnil)) (hcons 22 (boxp 40 (vcon0 (datp (.v (.slice none 0 0))) (vcon0 (datp (.v (.slice none 0 0))) (vcons (shp (.i .i64)) (vcons (shp (.i .i64)) vnil))))) (hcons 26 (boxp 40 (vcon0 (ownp 55) (vcon0 (ownp 58) (vcons (shp (.i .i64)) (vcons (shp (.i .i64)) vnil))))) (hcons 55 (intsc 3 .i64) (hcons 58 (intsc 3 .i64) hnil))))))
abbrev SimC := Int × Int × Int × Int × LC × LC
def simcB (m : Nat) (g : SimC) (x : SimX) : Option SimC := simc_J1 m x.1.1 x.1.2.1 x.2.1.1 x.2.1.2.1 g.1 g.2.1 g.2.2.1 g.2.2.2.1 g.2.2.2.2.1 g.2.2.2.2.2 (fun d0 d1 => some (g.1, g.2.1, d0, d1, (g.2.2.2.2.1.1 ++ [x.1.2.1], g.2.2.2.2.1.2), (g.2.2.2.2.2.1 ++ [x.1.1], g.2.2.2.2.2.2)))
def simcRF {R : Type} (m : Nat) (nom : Int) (l : SimT) (s : SimS) (a b c d : Int) (xs ys : LC) (k0 : Int → Int → Int → Int → LC → LC → Option R) : Option R :=
  bnd (frm_Y (ykF (simcB m) simP) m V00 nom l s (a, b, c, d, xs, ys)) fun g => k0 g.1 g.2.1 g.2.2.1 g.2.2.2.1 g.2.2.2.2.1 g.2.2.2.2.2
def simcRFf (m : Nat) : (R : Type) → ((Int × SimT × Unit) × SimS × (Int × Int × Unit) × (Int × Int × Unit) × LC × LC × Unit) → ((Unit × (Int × Int × Unit) × (Int × Int × Unit) × LC × LC × Unit) → Option R) → Option R :=
  fun R x K => simcRF m x.1.1 x.1.2.1 x.2.1 x.2.2.1.1 x.2.2.1.2.1 x.2.2.2.1.1 x.2.2.2.1.2.1 x.2.2.2.2.1 x.2.2.2.2.2.1 (fun a b c d xs ys => K ((), (a, b, ()), (c, d, ()), xs, ys, ()))
theorem simc_reg (m : Nat) : CutOk Try.prog _ _ simcRFi (one .normal [] simcRFs) (fun (R : Type) (x : (Int × SimT × Unit) × SimS × (Int × Int × Unit) × (Int × Int × Unit) × LC × LC × Unit) (K : (Unit × (Int × Int × Unit) × (Int × Int × Unit) × LC × LC × (Int × Unit) × (SimT × Unit) × SimS × Unit) → Option R) =>
    K ((), x.2.2.1, x.2.2.2.1, x.2.2.2.2.1, x.2.2.2.2.2.1, (x.1.1, ()), (x.1.2.1, ()), x.2.1, ())) (sq1 simC) :=
  cut_ok ty_mixed (simB_tabok m) (fl := flT) (N := 300) (t := .leaf) trivial (fun R x K => by kernel_rfl)
def simcBlks (g : SimC) : List Blk := [SB.box 40 [.d (.v (.slice none 0 0)), .d (.v (.slice none 0 0)), .i .i64 g.1, .i .i64 g.2.1], SB.box 40 [.own 2, .own 3, .i .i64 g.2.2.1, .i .i64 g.2.2.2.1], SB.raw (.ints 3 .i64 g.2.2.2.2.1.1 (some g.2.2.2.2.1.2)), SB.raw (.ints 3 .i64 g.2.2.2.2.2.1 (some g.2.2.2.2.2.2))].map SB.toB
theorem simc_round (m : Nat) (z : RC) (e1 : z.ps = #[48, 49]) (e2 : z.assign = rfA (sq2 simC)) (e3 : z.body = rfB (sq2 simC)) (e4 : z.tm = [(6, .ptr 0 0), (10, .ptr 1 0)]) (e5 : z.a0.tmps.size = 77) (g : SimC) (x : SimX) (g' : SimC) (hB : simcB m g x = some g') :
    RoundOk Try.prog z (simD x) (hpFrom 0 (simcBlks g)) (hpFrom 0 (simcBlks g')) := by
  obtain ⟨⟨x1, x2, u1⟩, ⟨x3, x4, u2⟩, u3⟩ := x
  obtain ⟨a, b, c, d, xs, ys⟩ := g
  obtain ⟨y, hy, h5⟩ := simc_J1k m _ (((x1, x2, u1), (x3, x4, u2), u3), (a, b, ()), (c, d, ()), xs, ys, ()) (fun y => some (y.2.1.1, y.2.1.2.1, y.2.2.1.1, y.2.2.1.2.1, y.2.2.2.1, y.2.2.2.2.1)) g' hB
  obtain ⟨e, s', h6, h7⟩ := h5 (Exit × SSt) (fun e s => some (e, s)) _ rfl
  cases h6
  obtain ⟨yu, ⟨ya, yb, yu1⟩, ⟨yc, yd, yu2⟩, yxs, yys, yu'⟩ := y
  simp only [Option.some.injEq] at hy
  subst hy
  refine roundOk_ofLe (s := (simc_J1i.put (((x1, x2, u1), (x3, x4, u2), u3), (a, b, ()), (c, d, ()), xs, ys, ())).toSt) (by rw [e1]; rfl) (fun t ht => ?_) rfl ?_ (fun l Q hQ => ?_)
  · rw [e1] at ht
    have : t = 48 ∨ t = 49 := by simpa using ht
    rw [e5]; rcases this with h | h <;> rw [h] <;> decide
  · unfold RC.st
    rw [e1, e4, e5]
    have h1 : LeSt { n := 77, tm := [(6, .ptr 0 0), (10, .ptr 1 0), (48, .agg (([.v (.int .i64 x1), .v (.int .i64 x2)] : List D).map .d)), (49, .d (.agg [.v (.bool x3), .v (.bool x4)]))], hp := hpFrom 0 (simcBlks (a, b, c, d, xs, ys)) } (putsS [48, 49] (simD ((x1, x2, u1), (x3, x4, u2), u3)) ⟨77, [(6, .ptr 0 0), (10, .ptr 1 0)], hpFrom 0 (simcBlks (a, b, c, d, xs, ys))⟩) :=
      le_slot (t := 48) (v := .d (.agg [.v (.int .i64 x1), .v (.int .i64 x2)])) rfl (fun w F m u h => repAgg_cells (repV_d.1 h))
    have h2 : LeSt (simc_J1i.put (((x1, x2, u1), (x3, x4, u2), u3), (a, b, ()), (c, d, ()), xs, ys, ())).toSt { n := 77, tm := [(6, .ptr 0 0), (10, .ptr 1 0), (48, .agg (([.v (.int .i64 x1), .v (.int .i64 x2)] : List D).map .d)), (49, .d (.agg [.v (.bool x3), .v (.bool x4)]))], hp := hpFrom 0 (simcBlks (a, b, c, d, xs, ys)) } :=
      le_slot (t := 49) (v := .d (.agg [.v (.bool x3), .v (.bool x4)])) rfl (fun w F m u h => repAgg_cells (ds := [.v (.bool x3), .v (.bool x4)]) (repV_d.1 h))
    exact h2.trans h1
  · rw [e2, e3, simA_eq, simB_eq]
    exact h7 l Q (hQ _ rfl)
theorem simcRFk (m : Nat) : CutOk Try.prog _ _ simcRFi simcRFo (simcRFf m) (bodyAt Try.prog 16 [true, true, true, true, false]) := by
  intro R x K r h
  obtain ⟨⟨nom, l, u⟩, s, ⟨a, b, u1⟩, ⟨c, d, u2⟩, xs, ys, u'⟩ := x
  obtain ⟨g', hg', hK⟩ := Option.bind_eq_some_iff.1 (show (frm_Y (ykF (simcB m) simP) m V00 nom l s (a, b, c, d, xs, ys)).bind (fun g => K ((), (g.1, g.2.1, ()), (g.2.2.1, g.2.2.2.1, ()), g.2.2.2.2.1, g.2.2.2.2.2, ())) = some r from h)
  refine ⟨_, hK, fun R' k r' hk => ⟨.normal, _, hk, fun Q hq => ?_⟩⟩
  rw [simC_eq]
  obtain ⟨y, hy, h2⟩ := simc_reg m _ ((nom, l, u), s, (a, b, u1), (c, d, u2), xs, ys, u') some _ rfl
  cases hy
  obtain ⟨e, s', h3, h4⟩ := h2 (Exit × SSt) (fun e s => some (e, s)) _ rfl
  cases h3
  refine awp_seq (h4 _ ?_)
  show AWp Try.prog (.block 2 _) Q _
  refine awp_block ?_
  obtain ⟨fn, hfn⟩ := sim_fn
  refine awp_rangeFunc (f := 78) (caps := [.ptr 93 0, .ptr 94 0, .ptr 95 0]) rfl hfn [93, 94, 95] (by decide) rfl (by decide) [22, 26, 55, 58] (bs0 := simcBlks (a, b, c, d, xs, ys)) (by decide) rfl (by decide) (by decide) rfl [(6, .ptr 22 0), (10, .ptr 26 0)] ?_ (fun bs' => bs' = simcBlks g') ?_ ?_
  · intro t v ht
    simp only [gt] at ht
    split at ht
    · rename_i e
      cases ht
      subst e
      exact ⟨rfl, by decide, _, _, rfl⟩
    · split at ht
      · rename_i e
        cases ht
        subst e
        exact ⟨rfl, by decide, _, _, rfl⟩
      · cases ht
  · intro z e1 e2 e3 e4 e5
    exact ICall.to (blks := simcBlks) (g' := g') (frm_ok (ykB_okLe (P := Try.prog) (z := z) (blks := simcBlks) (B := simcB m) (p := simP) simD simP_le (fun g x g' hB => simc_round m z e1 e2 e3 e4 e5 g x g' hB)) m _ nom l s (a, b, c, d, xs, ys) g' ((frmY_eq m _ V00 _ _ nom l s (a, b, c, d, xs, ys)).trans hg')) ⟨simcBlks g', rfl, rfl, rfl⟩
  · rintro bs' rfl _
    exact hq

--BEGIN simc
def simc_D (m : Nat) (x0 : Int × Int × Int × Int × Unit) (x1 : Int) (x2 : List (Int × Bool × Bool × Unit)) : Option (((LC × LC × Int × Int × Unit) × Int × Unit) × Unit) :=
  (sim_J0 m (x1) (x2) (x0) ((0 : Int)) ((0 : Int)) (fun d40 => (bif d40 then some ((((([], 0), ([], 0), (0 : Int), (0 : Int), ()), (1 : Int), ()), ())) else (bnd (sim_L0 m m (x1) (x2) (x2) ((↑(List.length x2) : Int)) ((0 : Int)) (x0) ((0 : Int)) ((0 : Int))) fun y192 => (sumK y192 (fun a193 => some ((((([], 0), ([], 0), a193.snd.fst), a193.fst), ()))) (fun b194 => (bif makeOb (8 : Nat) (0 : Int) (↑(List.length b194.fst.snd.fst) : Int) true && decide ((39 : Nat) < nat_lit 77) then (bif makeOb (8 : Nat) (0 : Int) (↑(List.length b194.fst.snd.fst) : Int) true && decide ((42 : Nat) < nat_lit 77) then (simcRF m (b194.fst.fst) (b194.fst.snd.fst) (b194.snd.fst) (b194.snd.snd.fst.fst) (b194.snd.snd.fst.snd.fst) ((0 : Int)) ((0 : Int)) (List.replicate (Int.toNat (0 : Int)) (0 : Int), Int.toNat (↑(List.length b194.fst.snd.fst) : Int)) (List.replicate (Int.toNat (0 : Int)) (0 : Int), Int.toNat (↑(List.length b194.fst.snd.fst) : Int)) (fun d213 d214 d215 d216 d217 d218 => some ((((d217, d218, d215, d216, ()), (0 : Int), ()), ())))) else none) else none)))))))
def simc_con (m : Nat) : Con := ⟨_, _, _, (vcons (shp (.cons (.i .i64) (.cons (.i .i64) (.cons (.i .i64) (.cons (.i .u32) .nil))))) (vcons (shp (.i .u32)) (vcons (shp (.row (.cons (.i .u32) (.cons .b (.cons .b .nil))))) vnil))), bnil, 0, fun _ => rfl, (rfz 0 (tupp (vcons (shp (.cons (.intc .i64) (.cons (.intc .i64) (.cons (.i .i64) (.cons (.i .i64) .nil))))) (vcons (shp (.i .i64)) vnil))) bnil), fun x b => simc_D m x.1 x.2.1 x.2.2.1⟩
theorem simc_ok (m : Nat) : ConOk Try.prog 16 (simc_con m) :=
  con_ok ty_mixed (sim_tabok m) (fl := flT) (N := 300) (t := (.node .leaf (.node (.node (.cut _ _ sim_J0i [] sim_J0o (sim_J0f m) .leaf) .leaf) (.node (.node .leaf (.node (.loop _ _ sim_L0i sim_L0g sim_L0o (sim_L0f m m)) .leaf)) (.node .leaf (.node (.cut _ _ simcRFi [] simcRFo (simcRFf m) .leaf) .leaf)))))) (tree_of (Eq.mpr (show TreeOk Try.prog (.node .leaf (.node (.node (.cut _ _ sim_J0i [] sim_J0o (sim_J0f m) .leaf) .leaf) (.node (.node .leaf (.node (.loop _ _ sim_L0i sim_L0g sim_L0o (sim_L0f m m)) .leaf)) (.node .leaf (.node (.cut _ _ simcRFi [] simcRFo (simcRFf m) .leaf) .leaf))))) (bodyAt Try.prog 16 []) = (True ∧ (((CutOk Try.prog _ _ sim_J0i sim_J0o (sim_J0f m) (bodyAt Try.prog 16 [true, false, false]) ∧ True) ∧ True) ∧ ((True ∧ (LoopOk Try.prog _ _ sim_L0i sim_L0o (sim_L0f m m) (bodyAt Try.prog 16 [true, true, false, true, false, false]))) ∧ (True ∧ ((CutOk Try.prog _ _ simcRFi simcRFo (simcRFf m) (bodyAt Try.prog 16 [true, true, true, true, false]) ∧ True) ∧ True))))) by kernel_rfl) ⟨trivial, ⟨⟨⟨sim_J0k m, trivial⟩, trivial⟩, ⟨⟨trivial, (sim_L0k m m)⟩, ⟨trivial, ⟨⟨simcRFk m, trivial⟩, trivial⟩⟩⟩⟩⟩)) (fun x b => by kernel_rfl)
--END simc

end Go.Proofs.Ytmjocalgekfodaa

