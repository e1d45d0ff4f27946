/-
  An abstract view of the machine, part 22: regions with calls, reckoned out by what the callees are known to answer.
  Conditions: none; nothing here speaks of one program.
-/
import Derived.Test.YtpdbekbobkjfgaaAM26
namespace Go.Proofs.Ytpdbekbobkjfgaa
open Go.RowKit
set_option linter.unusedVariables false

/-- What a function that is handed no block answers, as far as it is known. -/
abbrev TellF := List AV → Option (AV × List Blk)
def TellOk (P : Program) (f : FuncId) (F : TellF) : Prop := ∀ us R BS, F us = some (R, BS) → ACall P f us [] fun r hs' => r = R ∧ hs' = BS
def tabRun : List (FuncId × TellF) → RunF
  | [], _, _, _ => none
  | (f, F) :: l, g, us, bs => if g = f then (if bs.isEmpty then F us else none) else tabRun l g us bs
theorem tabRun_nil {g : FuncId} {us : List AV} {bs : List Blk} : tabRun [] g us bs = none := rfl
theorem tabRun_cons {f : FuncId} {F : TellF} {l : List (FuncId × TellF)} {g : FuncId} {us : List AV} {bs : List Blk} : tabRun ((f, F) :: l) g us bs = if g = f then (if bs.isEmpty then F us else none) else tabRun l g us bs := rfl
theorem tab_nil {P : Program} : RunOk P (tabRun []) := fun f vs hs R BS h => by simp [tabRun] at h
theorem tab_cons {P : Program} {f : FuncId} {F : TellF} {l : List (FuncId × TellF)} (h : TellOk P f F) (hl : RunOk P (tabRun l)) : RunOk P (tabRun ((f, F) :: l)) := by
  intro g us bs R BS hr
  simp only [tabRun] at hr
  split at hr
  · rename_i e
    subst e
    split at hr
    · rename_i hb
      have : bs = [] := List.isEmpty_iff.1 hb
      subst this
      exact ⟨by simp, h us R BS hr⟩
    · cases hr
  · exact hl _ _ _ _ _ hr

theorem rangeN4 : List.range 4 = [0, 1, 2, 3] := rfl
theorem rangeN5 : List.range 5 = [0, 1, 2, 3, 4] := rfl
theorem rangeN6 : List.range 6 = [0, 1, 2, 3, 4, 5] := rfl
theorem rangeN7 : List.range 7 = [0, 1, 2, 3, 4, 5, 6] := rfl
theorem rangeN8 : List.range 8 = [0, 1, 2, 3, 4, 5, 6, 7] := rfl
theorem rangeN9 : List.range 9 = [0, 1, 2, 3, 4, 5, 6, 7, 8] := rfl
theorem rangeN10 : List.range 10 = [0, 1, 2, 3, 4, 5, 6, 7, 8, 9] := rfl
theorem rangeN11 : List.range 11 = [0, 1, 2, 3, 4, 5, 6, 7, 8, 9, 10] := rfl
theorem rangeN12 : List.range 12 = [0, 1, 2, 3, 4, 5, 6, 7, 8, 9, 10, 11] := rfl
theorem rangeN13 : List.range 13 = [0, 1, 2, 3, 4, 5, 6, 7, 8, 9, 10, 11, 12] := rfl
theorem rangeN14 : List.range 14 = [0, 1, 2, 3, 4, 5, 6, 7, 8, 9, 10, 11, 12, 13] := rfl
theorem rangeN15 : List.range 15 = [0, 1, 2, 3, 4, 5, 6, 7, 8, 9, 10, 11, 12, 13, 14] := rfl
theorem rangeN16 : List.range 16 = [0, 1, 2, 3, 4, 5, 6, 7, 8, 9, 10, 11, 12, 13, 14, 15] := rfl
/-! ### Rules -/
theorem x_regX {P : Program} {ov : RunF} (hov : RunOk P ov) {Q : Exit → St → Prop} {s : St} {id : Nat} {l : List Oper} (h : ∀ r, opsX P ov l.toArray l s = r → ∃ s', r = some s' ∧ Q .normal s') : AWp P (.region id l.toArray false) Q s := by
  obtain ⟨s', h1, h2⟩ := h _ rfl
  exact awp_region_lit (opsX_sound hov h1 h2)
theorem x_seqX {P : Program} {ov : RunF} (hov : RunOk P ov) {Q : Exit → St → Prop} {s : St} {id : Nat} {l : List Oper} {y : Code} (h : ∀ r, opsX P ov l.toArray l s = r → ∃ s', r = some s' ∧ AWp P y Q s') : AWp P (.seq (.region id l.toArray false) y) Q s :=
  awp_seq (x_regX hov h)
theorem x_drawX {P : Program} (hm : P.follows .mixedOrders = true) {ov : RunF} (hov : RunOk P ov) {Q : Exit → St → Prop} {s : St} {id : Nat} {l : List Oper} (p : Nat) (hok : drawOk l p = true)
    (h : ∀ r, valsX P ov l.toArray p l (preFix s l) = r → ∃ l' s', r = some (l', s') ∧ ∀ r2, opsX P ov l.toArray l' s' = r2 → ∃ s2, r2 = some s2 ∧ Q .normal s2) : AWp P (.region id l.toArray true) Q s := by
  obtain ⟨l', s', h1, h2⟩ := h _ rfl
  obtain ⟨s2, h3, h4⟩ := h2 _ rfl
  intro cx m a w hr
  exact awp_drawq p hm hok (valsX_sound hov h1 (opsX_sound hov h3 h4)) cx m a w (preFix_sound hr)
theorem x_condT {P : Program} {Q : Exit → St → Prop} {s : St} {c : Operand} {x y : Code} (h : ∀ r, s.ev c = r → r = some (.d (.v (.bool true))) ∧ AWp P x Q s) : AWp P (.cond c x y) Q s :=
  awp_cond_true (h _ rfl).1 (h _ rfl).2
theorem x_condF {P : Program} {Q : Exit → St → Prop} {s : St} {c : Operand} {x y : Code} (h : ∀ r, s.ev c = r → r = some (.d (.v (.bool false))) ∧ AWp P y Q s) : AWp P (.cond c x y) Q s :=
  awp_cond_false (h _ rfl).1 (h _ rfl).2
theorem x_condB {P : Program} {Q : Exit → St → Prop} {s : St} {c : Operand} {x y : Code} (h : ∀ r, s.ev c = r → (r = some (.d (.v (.bool true))) ∧ AWp P x Q s) ∨ (r = some (.d (.v (.bool false))) ∧ AWp P y Q s)) : AWp P (.cond c x y) Q s := by
  rcases h _ rfl with ⟨h1, h2⟩ | ⟨h1, h2⟩
  · exact awp_cond_true h1 h2
  · exact awp_cond_false h1 h2
/-- A step that no code makes: a row is data from now on. -/
theorem x_frz {P : Program} {Q : Exit → St → Prop} {s : St} {c : Code} (L : List Nat) (h : ∀ r, freezeL s L = r → ∃ s', r = some s' ∧ AWp P c Q s') : AWp P c Q s := by
  obtain ⟨s', h1, h2⟩ := h _ rfl
  exact fun cx m a w hr => h2 cx m a w (freezeL_sound h1 hr)

/-! ### The equations by which a run is reckoned out: what is not known yet stands as an argument, never under a binder -/
section
variable {P : Program} {ov run : RunF} {n : Nat} {s s' : St}

def opsO (P : Program) (run : RunF) (ops : Array Oper) (l : List Oper) : Option St → Option St
  | some s => opsX P run ops l s
  | none => none
theorem opsO_some {ops : Array Oper} {l : List Oper} : opsO P run ops l (some s) = opsX P run ops l s := rfl
theorem opsX_nil {ops : Array Oper} : opsX P run ops [] s = some s := rfl
theorem opsX_cons {ops : Array Oper} {o : Oper} {l : List Oper} : opsX P run ops (o :: l) s = opsO P run ops l (opG P run ops s o) := by
  simp only [opsX]; cases opG P run ops s o <;> rfl
def guardX (P : Program) (run : RunF) (s : St) (o : Oper) (want : Bool) : Option AV → Option St
  | some (.d (.v (.bool b))) => if b = want then opX P run s { o with guard := none } else if s.okDst o.dst = true then some (s.put o.dst (.tup [])) else none
  | some (.tup []) => if s.okDst o.dst = true then some (s.put o.dst (.tup [])) else none
  | _ => none
theorem opG_none {ops : Array Oper} {d : Option Nat} {op : Op} {t : TypeId} {p : String} {e : Array Edge} : opG P run ops s ⟨d, op, t, p, e, none⟩ = opX P run s ⟨d, op, t, p, e, none⟩ := rfl
def dstAt : List Oper → Nat → Option Nat
  | [], _ => none
  | o :: _, 0 => o.dst
  | _ :: l, j + 1 => dstAt l j
theorem dstAt_get : ∀ (l : List Oper) (j : Nat), obind l.toArray[j]? Oper.dst = dstAt l j
  | [], j => by simp [dstAt, obind]
  | o :: l, 0 => by simp [dstAt, obind]
  | o :: l, j + 1 => by
    have := dstAt_get l j
    simp only [dstAt]
    rw [← this]
    simp
theorem opG_some' {l : List Oper} {d : Option Nat} {op : Op} {t : TypeId} {p : String} {e : Array Edge} {j : Nat} {w : Bool} : opG P run l.toArray s ⟨d, op, t, p, e, some (j, w)⟩ = guardX P run s ⟨d, op, t, p, e, some (j, w)⟩ w (gtO (dstAt l j) s.tm) := by
  rw [← dstAt_get]
  simp only [opG]; unfold guardX
  split <;> first | rfl | (split <;> first | rfl | simp_all)
theorem opG_some {ops : Array Oper} {d : Option Nat} {op : Op} {t : TypeId} {p : String} {e : Array Edge} {j : Nat} {w : Bool} : opG P run ops s ⟨d, op, t, p, e, some (j, w)⟩ = guardX P run s ⟨d, op, t, p, e, some (j, w)⟩ w (gtO (obind ops[j]? Oper.dst) s.tm) := by
  simp only [opG]; unfold guardX
  split <;> first | rfl | (split <;> first | rfl | simp_all)
theorem guardX_b {o : Oper} {w b : Bool} : guardX P run s o w (some (.d (.v (.bool b)))) = if b = w then opX P run s { o with guard := none } else if s.okDst o.dst = true then some (s.put o.dst (.tup [])) else none := rfl
theorem guardX_n {o : Oper} {w : Bool} : guardX P run s o w (some (.tup [])) = if s.okDst o.dst = true then some (s.put o.dst (.tup [])) else none := rfl

def stepR (P : Program) (s : St) (o : Oper) : Option St → Option St
  | some s' => some s'
  | none => match freezeL s (takenK s o) with
    | some s1 => stepF P s1 o
    | none => none
theorem stepR_some {o : Oper} : stepR P s o (some s') = some s' := rfl
def freezeR (P : Program) (o : Oper) : Option St → Option St
  | some s1 => stepF P s1 o
  | none => none
theorem stepR_none {o : Oper} : stepR P s o none = freezeR P o (freezeL s (takenK s o)) := by
  simp only [stepR]; unfold freezeR; split <;> simp_all
theorem freezeR_some {o : Oper} : freezeR P o (some s) = stepF P s o := rfl
theorem stepX_eq {o : Oper} : stepX P s o = stepR P (preFix s [o]) o (stepF P (preFix s [o]) o) := rfl
def callR (s : St) (ks V : List Nat) (q : Nat) (dst : Option Nat) : Option (AV × List Blk) → Option St
  | some (R, BS) => if V.isEmpty || (flatV R && BS.all flatB) then some ((afterS s ks q BS).put dst (renV (backF ks q BS.length) R)) else none
  | none => none
def callP (P : Program) (run : RunF) (s : St) (ks V : List Nat) (q : Nat) (f : FuncId) (fn : Func) (dst : Option Nat) (vs : List AV) : Option (List Blk) → Option St
  | some bs => if nodupB ks && (decide (ks.length ≤ 16) && (V.all (fun κ => (gt κ s.hp).isSome) && ks.all (fun κ => decide (κ < q)))) then
      callR s ks V q dst (run f (argsA P s ks V fn.params.toList vs) bs)
    else none
  | none => none
def callK (P : Program) (run : RunF) (s : St) (ks V : List Nat) (q : Nat) (f : FuncId) (fn : Func) (dst : Option Nat) (vs : List AV) : Option St := callP P run s ks V q f fn dst vs (pickB (posOf · ks) s.hp ks)
def callK' (P : Program) (run : RunF) (s : St) (ks V : List Nat) (q : Nat) (f : FuncId) (fn : Func) (dst : Option Nat) (vs : List AV) : Option St := callK P run s ks (rmK ks V) q f fn dst vs
theorem callK'_eq {ks V : List Nat} {q : Nat} {f : FuncId} {fn : Func} {dst : Option Nat} {vs : List AV} : callK' P run s ks V q f fn dst vs = callK P run s ks (rmK ks V) q f fn dst vs := rfl
theorem callK_eq {ks V : List Nat} {q : Nat} {f : FuncId} {fn : Func} {dst : Option Nat} {vs : List AV} : callK P run s ks V q f fn dst vs = callP P run s ks V q f fn dst vs (pickB (posOf · ks) s.hp ks) := rfl
theorem callS_eq {V : List Nat} {f : FuncId} {fn : Func} {dst : Option Nat} {vs : List AV} : callS P run s V f fn dst vs = callK' P run s (reachK s.hp 64 (keysVs (vs.filter notOwn)) []) V (maxK s.hp (16 + s.n)) f fn dst vs := by
  rfl
theorem callP_some {ks V : List Nat} {q : Nat} {f : FuncId} {fn : Func} {dst : Option Nat} {vs : List AV} {bs : List Blk} : callP P run s ks V q f fn dst vs (some bs) = if nodupB ks && (decide (ks.length ≤ 16) && (V.all (fun κ => (gt κ s.hp).isSome) && ks.all (fun κ => decide (κ < q)))) then
      callR s ks V q dst (run f (argsA P s ks V fn.params.toList vs) bs) else none := rfl
theorem callR_some {ks V : List Nat} {q : Nat} {dst : Option Nat} {R : AV} {BS : List Blk} : callR s ks V q dst (some (R, BS)) = if V.isEmpty || (flatV R && BS.all flatB) then some ((afterS s ks q BS).put dst (renV (backF ks q BS.length) R)) else none := rfl
theorem call2_some {f f' : FuncId} {fn : Func} {dst : Option Nat} {vs : List AV} : call2 P run s f fn dst (some (f', vs)) = if f' = f ∧ s.okDst dst = true then callS P run s [] f fn dst vs else none := rfl
theorem call1_some {f : FuncId} {fn : Func} {dst : Option Nat} {c : Call} : call1 P run f fn dst c (some s) = call2 P run s f fn dst (goC P s c) := rfl
theorem call0_some {f : FuncId} {fn : Func} {dst : Option Nat} {c : Call} {vs : List AV} {V : List Nat} : call0 P run s f fn dst c vs V (some s') = some s' := rfl
theorem call0_none {f : FuncId} {fn : Func} {dst : Option Nat} {c : Call} {vs : List AV} {V : List Nat} : call0 P run s f fn dst c vs V none = callB P run s f fn dst c vs (call1 P run f fn dst c (freezeL s (V.filter (isRowK s.hp)))) := rfl
theorem callB_some {f : FuncId} {fn : Func} {dst : Option Nat} {c : Call} {vs : List AV} : callB P run s f fn dst c vs (some s') = some s' := rfl
theorem callB_none {f : FuncId} {fn : Func} {dst : Option Nat} {c : Call} {vs : List AV} : callB P run s f fn dst c vs none = call1 P run f fn dst c (freezeL s ((reachK s.hp 64 (keysVs vs) []).filter (isRowK s.hp))) := rfl
theorem callF_some {f : FuncId} {fn : Func} {dst : Option Nat} {c : Call} {vs : List AV} : callF P run s f dst c vs (some fn) = if fnOk fn && s.okDst dst then call0 P run s f fn dst c vs (keysVs (vs.filter isOwn)) (callS P run s (keysVs (vs.filter isOwn)) f fn dst vs) else none := rfl
theorem callE_some {f : FuncId} {dst : Option Nat} {c : Call} {vs : List AV} : callE P run s dst c (some (f, vs)) = callF P run s f dst c vs P.funcs[f]? := rfl
theorem callX_eq {dst : Option Nat} {c : Call} : callX P run s dst c = callE P run s dst c (goC P s c) := rfl
theorem goC_value {g : Operand} {args : Array Operand} {tys : Array TypeId} : goC P s { callee := .value g, args := args, argTypes := tys } = goV (s.ev g) (s.evL args.toList) := rfl
theorem goC_invoke {r : Operand} {n : String} {args : Array Operand} {tys : Array TypeId} : goC P s { callee := .invoke r n, args := args, argTypes := tys } = goI P n (s.ev r) (s.evL args.toList) := rfl
theorem goV_clos {f : FuncId} {caps vs : List AV} : goV (some (.clos f caps)) (some vs) = some (f, vs ++ caps) := rfl
theorem goV_func {u : Value} {vs : List AV} : goV (some (.d (.v u))) (some vs) = omap (funOf u) fun f => (f, vs) := rfl
theorem goI_some {n : String} {t : TypeId} {v : AV} {vs : List AV} : goI P n (some (.wrap (.ifc t) v)) (some vs) = omap (methA P t n) fun f => (f, v :: vs) := rfl
theorem kindX_f {o : Oper} : kindX P run s o false = stepX P s o := rfl
theorem kindX_t {d : Option Nat} {c : Call} {t : TypeId} {p : String} {e : Array Edge} {gd : Option (Nat × Bool)} : kindX P run s ⟨d, .call c, t, p, e, gd⟩ true = callX P run s d c := rfl
theorem opX_any {d : Option Nat} {op : Op} {t : TypeId} {p : String} {e : Array Edge} {gd : Option (Nat × Bool)} : opX P run s ⟨d, op, t, p, e, gd⟩ = kindX P run s ⟨d, op, t, p, e, gd⟩ (isCallO op) := rfl

/-! Code -/
noncomputable def seqX (P : Program) (ov : RunF) (n : Nat) (b : Code) : Option (Exit × St) → Option (Exit × St)
  | some (.normal, s) => codeX P ov n b s
  | r => r
theorem seqX_n {b : Code} : seqX P ov n b (some (.normal, s)) = codeX P ov n b s := rfl
theorem seqX_r {b : Code} : seqX P ov n b (some (.ret, s)) = some (.ret, s) := rfl
theorem seqX_x {b : Code} {i : Nat} : seqX P ov n b (some (.exit i, s)) = some (.exit i, s) := rfl
theorem seqX_g {b : Code} {i : Nat} : seqX P ov n b (some (.goto i, s)) = some (.goto i, s) := rfl
theorem codeX_seq {a b : Code} : codeX P ov (n + 1) (.seq a b) s = seqX P ov n b (codeX P ov n a s) := by
  simp only [codeX]; unfold seqX; split <;> simp_all
noncomputable def condX (P : Program) (ov : RunF) (n : Nat) (a b : Code) (s : St) : Option AV → Option (Exit × St)
  | some (.d (.v (.bool true))) => codeX P ov n a s
  | some (.d (.v (.bool false))) => codeX P ov n b s
  | _ => none
theorem condX_t {a b : Code} : condX P ov n a b s (some (.d (.v (.bool true)))) = codeX P ov n a s := rfl
theorem condX_f {a b : Code} : condX P ov n a b s (some (.d (.v (.bool false)))) = codeX P ov n b s := rfl
theorem codeX_cond {c : Operand} {a b : Code} : codeX P ov (n + 1) (.cond c a b) s = condX P ov n a b s (s.ev c) := by
  simp only [codeX]; unfold condX; split <;> simp_all
def blockX (i : Nat) : Option (Exit × St) → Option (Exit × St)
  | some (.exit j, s) => if j = i then some (.normal, s) else some (.exit j, s)
  | r => r
theorem blockX_n {i : Nat} : blockX i (some (.normal, s)) = some (.normal, s) := rfl
theorem blockX_r {i : Nat} : blockX i (some (.ret, s)) = some (.ret, s) := rfl
theorem blockX_x {i j : Nat} : blockX i (some (.exit j, s)) = if j = i then some (.normal, s) else some (.exit j, s) := rfl
theorem blockX_g {i j : Nat} : blockX i (some (.goto j, s)) = some (.goto j, s) := rfl
theorem codeX_block {i : Nat} {c : Code} : codeX P ov (n + 1) (.block i c) s = blockX i (codeX P ov n c s) := by
  simp only [codeX]; unfold blockX; split <;> simp_all
def scopeN : Option (Exit × St) → Option (Exit × St)
  | some (.goto _, _) => none
  | r => r
theorem scopeN_n : scopeN (some (.normal, s)) = some (.normal, s) := rfl
theorem scopeN_r : scopeN (some (.ret, s)) = some (.ret, s) := rfl
theorem scopeN_x {j : Nat} : scopeN (some (.exit j, s)) = some (.exit j, s) := rfl
noncomputable def scopeG (P : Program) (ov : RunF) (n : Nat) (s : St) : Option Code → Option (Exit × St)
  | some rest => scopeN (codeX P ov n rest s)
  | none => none
theorem scopeG_s {c : Code} : scopeG P ov n s (some c) = scopeN (codeX P ov n c s) := rfl
noncomputable def scopeX (P : Program) (ov : RunF) (n : Nat) (c : Code) : Option (Exit × St) → Option (Exit × St)
  | some (.goto l, s) => scopeG P ov n s (findLabel c l)
  | r => r
theorem scopeX_n {c : Code} : scopeX P ov n c (some (.normal, s)) = some (.normal, s) := rfl
theorem scopeX_r {c : Code} : scopeX P ov n c (some (.ret, s)) = some (.ret, s) := rfl
theorem scopeX_x {c : Code} {j : Nat} : scopeX P ov n c (some (.exit j, s)) = some (.exit j, s) := rfl
theorem scopeX_g {c : Code} {j : Nat} : scopeX P ov n c (some (.goto j, s)) = scopeG P ov n s (findLabel c j) := rfl
theorem codeX_scope {c : Code} : codeX P ov (n + 1) (.scope c) s = scopeX P ov n c (codeX P ov n c s) := by
  simp only [codeX]
  generalize codeX P ov n c s = r
  match r with
  | some (.goto l, s') =>
    simp only [scopeX_g]
    generalize findLabel c l = fl
    match fl with
    | some rest =>
      simp only [scopeG_s]
      generalize codeX P ov n rest s' = r2
      match r2 with
      | some (.goto l, s') => rfl
      | some (.normal, s') => rfl
      | some (.ret, s') => rfl
      | some (.exit _, s') => rfl
      | some (.panic _, s') => rfl
      | some (.outgrown, s') => rfl
      | none => rfl
    | none => rfl
  | some (.normal, s') => rfl
  | some (.ret, s') => rfl
  | some (.exit _, s') => rfl
  | some (.panic _, s') => rfl
  | some (.outgrown, s') => rfl
  | none => rfl
noncomputable def loopX (P : Program) (ov : RunF) (n : Nat) (c : Code) : Option (Exit × St) → Option (Exit × St)
  | some (.normal, s) => codeX P ov n (.loop c) s
  | r => r
theorem loopX_n {b : Code} : loopX P ov n b (some (.normal, s)) = codeX P ov n (.loop b) s := rfl
theorem loopX_r {b : Code} : loopX P ov n b (some (.ret, s)) = some (.ret, s) := rfl
theorem loopX_x {b : Code} {i : Nat} : loopX P ov n b (some (.exit i, s)) = some (.exit i, s) := rfl
theorem codeX_loop {c : Code} : codeX P ov (n + 1) (.loop c) s = loopX P ov n c (codeX P ov n c s) := by
  simp only [codeX]; unfold loopX; split <;> simp_all
def doneR : Option St → Option (Exit × St)
  | some s => some (.normal, s)
  | none => none
theorem doneR_some : doneR (some s) = some (.normal, s) := rfl
/-- A call, with what fuel is left. -/
noncomputable def runX (P : Program) (ov : RunF) (n : Nat) : RunF := fun f vs hs => funcX P ov n f vs hs
theorem runX_eq {f : FuncId} {vs : List AV} {hs : List Blk} : runX P ov n f vs hs = funcX P ov n f vs hs := rfl
theorem codeX_region {i : Nat} {l : List Oper} : codeX P ov (n + 1) (.region i l.toArray false) s = doneR (opsX P (runX P ov n) l.toArray l s) := by
  show (match regX P (runX P ov n) l.toArray false s with | some s' => some (Exit.normal, s') | none => none) = _
  simp only [regX]; unfold doneR; split <;> simp_all
theorem codeX_skip : codeX P ov (n + 1) .skip s = some (.normal, s) := rfl
theorem codeX_label {i : Nat} : codeX P ov (n + 1) (.label i) s = some (.normal, s) := rfl
theorem codeX_exit {i : Nat} : codeX P ov (n + 1) (.exit i) s = some (.exit i, s) := rfl
theorem codeX_ret : codeX P ov (n + 1) .ret s = some (.ret, s) := rfl
theorem codeX_goto {i : Nat} : codeX P ov (n + 1) (.goto i) s = some (.goto i, s) := rfl
def backX (s' : St) (n : Nat) : Option AV → Option (AV × List Blk)
  | some r => doneX s' n r
  | none => none
theorem backX_some {r : AV} {m : Nat} : backX s m (some r) = doneX s m r := rfl
def bodyX (P : Program) (m : Nat) (res : List ResultVar) : Option (Exit × St) → Option (AV × List Blk)
  | some (.ret, s) => backX s m (resA P s res)
  | some (.normal, s) => backX s m (resA P s res)
  | _ => none
theorem bodyX_r {m : Nat} {res : List ResultVar} : bodyX P m res (some (.ret, s)) = backX s m (resA P s res) := rfl
theorem bodyX_n {m : Nat} {res : List ResultVar} : bodyX P m res (some (.normal, s)) = backX s m (resA P s res) := rfl
noncomputable def funB (P : Program) (ov : RunF) (n : Nat) (vs : List AV) (hs : List Blk) (t : Nat) (res : List ResultVar) : Option Code → Option (AV × List Blk)
  | some c => if decide (vs.length ≤ t) then bodyX P hs.length res (codeX P ov n c ⟨t, tmFrom 0 vs, hpFrom 0 hs⟩) else none
  | none => none
theorem funB_some {vs : List AV} {hs : List Blk} {t : Nat} {res : List ResultVar} {c : Code} : funB P ov n vs hs t res (some c) = if decide (vs.length ≤ t) then bodyX P hs.length res (codeX P ov n c ⟨t, tmFrom 0 vs, hpFrom 0 hs⟩) else none := rfl
noncomputable def funF (P : Program) (ov : RunF) (n : Nat) (vs : List AV) (hs : List Blk) : Option Func → Option (AV × List Blk)
  | some fn => funB P ov n vs hs fn.ntmps fn.results.toList fn.body
  | none => none
theorem funF_some {vs : List AV} {hs : List Blk} {fn : Func} : funF P ov n vs hs (some fn) = funB P ov n vs hs fn.ntmps fn.results.toList fn.body := rfl
noncomputable def funO (P : Program) (ov : RunF) (n : Nat) (f : FuncId) (vs : List AV) (hs : List Blk) : Option (AV × List Blk) → Option (AV × List Blk)
  | some r => some r
  | none => funF P ov n vs hs P.funcs[f]?
theorem funO_some {f : FuncId} {vs : List AV} {hs : List Blk} {r : AV × List Blk} : funO P ov n f vs hs (some r) = some r := rfl
theorem funO_none {f : FuncId} {vs : List AV} {hs : List Blk} : funO P ov n f vs hs none = funF P ov n vs hs P.funcs[f]? := rfl
theorem funcX_eq {f : FuncId} {vs : List AV} {hs : List Blk} : funcX P ov (n + 1) f vs hs = funO P ov n f vs hs (ov f vs hs) := by
  simp only [funcX]
  cases h : ov f vs hs with
  | some r => rfl
  | none =>
    simp only [funO]
    cases h2 : P.funcs[f]? with
    | none => rfl
    | some fn =>
      simp only [funF]
      cases h3 : fn.body with
      | none => rfl
      | some c =>
        simp only [funB]
        split
        · cases h4 : codeX P ov n c ⟨fn.ntmps, tmFrom 0 vs, hpFrom 0 hs⟩ with
          | none => rfl
          | some q =>
            obtain ⟨e, s'⟩ := q
            cases h5 : resA P s' fn.results.toList with
            | none => cases e <;> simp only [bodyX, backX, h5]
            | some r => cases e <;> simp only [bodyX, backX, h5]
        · rfl
def doneK (s' : St) (r : AV) (ks : List Nat) : Option (AV × List Blk) := if nodupB ks then doneB r ks (pickB (posOf · ks) s'.hp ks) else none
  where doneB (r : AV) (ks : List Nat) : Option (List Blk) → Option (AV × List Blk)
    | some bs => some (renV (posOf · ks) r, bs)
    | none => none
theorem doneX_eq {m : Nat} {r : AV} : doneX s m r = doneK s r (List.range m ++ (reachK s.hp 64 (List.range m ++ keysV r) []).filter fun κ => decide (m ≤ κ)) := by
  rfl
theorem doneK_eq {r : AV} {ks : List Nat} : doneK s r ks = if nodupB ks then doneK.doneB r ks (pickB (posOf · ks) s.hp ks) else none := rfl
theorem doneB_some {r : AV} {ks : List Nat} {bs : List Blk} : doneK.doneB r ks (some bs) = some (renV (posOf · ks) r, bs) := rfl

/-! Drawn regions -/
noncomputable def valsR (P : Program) (run : RunF) (ops : Array Oper) (p : Nat) (l : List Oper) (s : St) (dst : Option Nat) : Option AV → Option (List Oper × St)
  | some v => valsX P run ops p l (s.put dst v)
  | none => none
theorem valsR_some {ops : Array Oper} {p : Nat} {l : List Oper} {dst : Option Nat} {v : AV} : valsR P run ops p l s dst (some v) = valsX P run ops p l (s.put dst v) := rfl
theorem valsX_zero {ops : Array Oper} {l : List Oper} : valsX P run ops 0 l s = some (l, s) := by simp only [valsX]
theorem valsX_succ {ops : Array Oper} {p : Nat} {o : Oper} {l : List Oper} : valsX P run ops (p + 1) (o :: l) s = valsR P run ops p l s o.dst (valX P run ops s o) := by
  simp only [valsX]; unfold valsR; split <;> simp_all
def stepVG (P : Program) (s : St) (op : Op) (w : Bool) : Option AV → Option AV
  | some (.d (.v (.bool b))) => if b = w then valOp P s op else some (.tup [])
  | some (.tup []) => some (.tup [])
  | _ => none
theorem stepVG_b {op : Op} {w b : Bool} : stepVG P s op w (some (.d (.v (.bool b)))) = if b = w then valOp P s op else some (.tup []) := rfl
theorem stepVG_n {op : Op} {w : Bool} : stepVG P s op w (some (.tup [])) = some (.tup []) := rfl
theorem stepV_none {ops : Array Oper} {d : Option Nat} {op : Op} {t : TypeId} {p : String} {e : Array Edge} : stepV P ops s ⟨d, op, t, p, e, none⟩ = if s.okDst d = false then none else valOp P s op := rfl
theorem stepV_some {l : List Oper} {d : Option Nat} {op : Op} {t : TypeId} {p : String} {e : Array Edge} {j : Nat} {w : Bool} : stepV P l.toArray s ⟨d, op, t, p, e, some (j, w)⟩ = if s.okDst d = false then none else stepVG P s op w (gtO (dstAt l j) s.tm) := by
  rw [← dstAt_get]
  simp only [stepV]; unfold stepVG
  split
  · rfl
  · split <;> first | rfl | simp_all
theorem callD7_some {ks V : List Nat} {q : Nat} {R : AV} {BS : List Blk} : callD7 s ks V q (some (R, BS)) = if sameK s ks (backF ks q BS.length) ks BS && (V.isEmpty || (flatV R && BS.all flatB)) then some (renV (backF ks q BS.length) R) else none := rfl
theorem callD6_some {ks V : List Nat} {q m : Nat} {R : AV} {BS : List Blk} : callD6 s ks V q m (some (R, BS)) = callD7 s ks V q (datLast (BS.length - m) R BS) := rfl
theorem callD5_some {f : FuncId} {fn : Func} {vs : List AV} {ks V : List Nat} {q : Nat} {bs : List Blk} : callD5 P run s f fn vs ks V q (some bs) = if nodupB ks && (decide (ks.length ≤ 16) && (V.all (fun κ => (gt κ s.hp).isSome) && ks.all (fun κ => decide (κ < q)))) then callD6 s ks V q bs.length (run f (argsA P s ks V fn.params.toList vs) bs) else none := rfl
theorem callD4_eq {f : FuncId} {fn : Func} {vs : List AV} {ks V : List Nat} {q : Nat} : callD4 P run s f fn vs ks V q = callD5 P run s f fn vs ks V q (pickB (posOf · ks) s.hp ks) := rfl
theorem callD3_eq {f : FuncId} {fn : Func} {vs : List AV} {ks : List Nat} : callD3 P run s f fn vs ks = callD4 P run s f fn vs ks (rmK ks (keysVs (vs.filter isOwn))) (maxK s.hp 16) := rfl
theorem callD2_some {dst : Option Nat} {f : FuncId} {vs : List AV} {fn : Func} : callD2 P run s dst f vs (some fn) = if fnOk fn && s.okDst dst then callD3 P run s f fn vs (reachK s.hp 64 (keysVs (vs.filter notOwn)) []) else none := rfl
theorem callD1_some {dst : Option Nat} {f : FuncId} {vs : List AV} : callD1 P run s dst (some (f, vs)) = callD2 P run s dst f vs P.funcs[f]? := rfl
theorem callD0_some {dst : Option Nat} {c : Call} : callD0 P run s dst (some c) = callD1 P run s dst (goC P s c) := rfl
theorem callD_eq {d : Option Nat} {c : Call} {t : TypeId} {p : String} {e : Array Edge} {gd : Option (Nat × Bool)} : callD P run s ⟨d, .call c, t, p, e, gd⟩ = if isCallO (.call c) then callD1 P run s d (goC P s c) else none := rfl
theorem sameK_nil {ks : List Nat} {f : Nat → Option Nat} : sameK s ks f [] [] = true := rfl
theorem sameK_cons {ks : List Nat} {f : Nat → Option Nat} {k : Nat} {l : List Nat} {B : Blk} {bs : List Blk} : sameK s ks f (k :: l) (B :: bs) = (sameB (gt k s.hp) (renB f B) && sameK s ks f l bs) := rfl
theorem sameB_some {B B0 : Blk} : sameB (some B0) B = eqB B B0 := rfl
theorem eqDs_self : ∀ l : List D, eqDs l l = true ∧ True := by
  intro l
  refine ⟨?_, trivial⟩
  have key : ∀ d : D, eqD d d = true := by
    intro d
    induction d using D.rec (motive_2 := fun l => eqDs l l = true) with
    | v x => simp only [eqD, eqVal_self]
    | ints k xs c => simp [eqD]
    | sl n xs c ih => simp [eqD, eqAny]
    | agg cs ih => simpa only [eqD] using ih
    | nil => rfl
    | cons d l ih1 ih2 => simp only [eqDs, ih1, ih2, Bool.and_self]
  induction l with
  | nil => rfl
  | cons d l ih => simp only [eqDs, key, ih, Bool.and_self]
theorem eqV_self (v : AV) : eqV v v = true := by
  have kd : ∀ d : D, eqD d d = true := fun d => by have := (eqDs_self [d]).1; simpa [eqDs] using this
  induction v using AV.rec (motive_2 := fun l => eqVs l l = true) with
  | d x => simp only [eqV, kd]
  | ptr κ o => simp [eqV]
  | own κ => simp [eqV]
  | pel κ o => simp [eqV]
  | eaddr x => simp only [eqV, kd]
  | agg cs ih => simpa only [eqV] using ih
  | tup cs ih => simpa only [eqV] using ih
  | clos f cs ih => simp only [eqV, ih, decide_true, Bool.and_self]
  | wrap k v ih => simp [eqV, ih, eqAny]
  | bot => rfl
  | nil => rfl
  | cons v l ih1 ih2 => simp only [eqVs, ih1, ih2, Bool.and_self]
theorem eqVs_nil : eqVs [] [] = true := rfl
theorem eqVs_cons {x y : AV} {xs ys : List AV} : eqVs (x :: xs) (y :: ys) = (eqV x y && eqVs xs ys) := rfl
theorem eqB_box {e e' : TypeId} {cs ds : List AV} : eqB (.box e cs) (.box e' ds) = (decide (e = e') && eqVs cs ds) := rfl
noncomputable def valGd (P : Program) (run : RunF) (s : St) (o : Oper) (w : Bool) : Option AV → Option AV
  | some (.d (.v (.bool b))) => if b = w then callD P run s { o with guard := none } else none
  | _ => none
theorem valGd_b {o : Oper} {w b : Bool} : valGd P run s o w (some (.d (.v (.bool b)))) = if b = w then callD P run s { o with guard := none } else none := rfl
noncomputable def valN (P : Program) (run : RunF) (ops : Array Oper) (s : St) (o : Oper) : Option (Nat × Bool) → Option AV
  | none => callD P run s o
  | some (j, w) => valGd P run s o w (gtO (obind ops[j]? Oper.dst) s.tm)
theorem valN_none {ops : Array Oper} {o : Oper} : valN P run ops s o none = callD P run s o := rfl
theorem valN_some {l : List Oper} {o : Oper} {j : Nat} {w : Bool} : valN P run l.toArray s o (some (j, w)) = valGd P run s o w (gtO (dstAt l j) s.tm) := by
  rw [← dstAt_get]; rfl
noncomputable def valR1 (P : Program) (run : RunF) (ops : Array Oper) (s : St) (o : Oper) : Option AV → Option AV
  | some v => some v
  | none => valN P run ops s o o.guard
theorem valR1_some {ops : Array Oper} {o : Oper} {v : AV} : valR1 P run ops s o (some v) = some v := rfl
theorem valR1_none {ops : Array Oper} {o : Oper} : valR1 P run ops s o none = valN P run ops s o o.guard := rfl
theorem valX_eq {ops : Array Oper} {o : Oper} : valX P run ops s o = valR1 P run ops s o (stepV P ops s o) := by
  unfold valX
  cases h1 : stepV P ops s o with
  | some v => rfl
  | none =>
    simp only [valR1]
    cases h2 : o.guard with
    | none => rfl
    | some q =>
      obtain ⟨j, w⟩ := q
      simp only [valN]
      unfold valGd
      rfl
end

theorem appZB_some {P : Program} {s : St} {dst : Option Nat} {t t' e n b κ : Nat} {k : IntKind} {k' : IntKind} {i : Int} {r : Option (Nat × Blk)} (h1 : appT P t = some (e, n, b)) (h2 : intT P t' = some k) (h : (match gt κ s.hp with | some B => if n = 1 ∧ B.elem = e then omap (growZ P b B i) fun B' => (κ, B') else none | none => none) = r) : appZB P s dst t t' (some (.own κ)) (some (.d (.v (.int k' i)))) = r := by
  unfold appZB; rw [h1, h2]; exact h
attribute [push_cast] appZ appZB growZ zeroI List.take_length rangeN4 rangeN5 rangeN6 rangeN7 rangeN8 rangeN9 rangeN10 rangeN11 rangeN12 rangeN13 rangeN14 rangeN15 rangeN16 tabRun_nil tabRun_cons keysV keysVs keysB reachK nodupB maxK notOwn isOwn isRowK freezeL preFix evK takenK List.filter_cons stepVG_b stepVG_n stepV_none stepV_some callD7_some callD6_some callD5_some callD4_eq callD3_eq callD2_some callD1_some callD_eq datLast List.getLast?_cons_cons List.getLast?_singleton List.dropLast_cons_cons List.dropLast_singleton sameK_nil sameK_cons sameB_some eqV_self eqVs_nil eqVs_cons eqB_box nilI cmpB structV eqFs funOf_mk goC_value goC_invoke goV_clos goV_func goI_some callX_eq List.append_nil valGd_b valN_none valN_some valR1_some valR1_none valX_eq List.filter_nil List.isEmpty_nil List.isEmpty_cons opsO_some opsX_nil opsX_cons opG_none opG_some' dstAt guardX_b guardX_n isCallO opX_any kindX_f kindX_t stepR_some stepR_none freezeR_some stepX_eq callK'_eq callK_eq rmK callS_eq callP_some callR_some call2_some call1_some call0_some call0_none callB_some callB_none callF_some callE_some seqX_n seqX_r seqX_x seqX_g codeX_seq condX_t condX_f codeX_cond blockX_n blockX_r blockX_x blockX_g codeX_block scopeN_n scopeN_r scopeN_x scopeG_s findLabel scopeX_g scopeX_n scopeX_r scopeX_x codeX_scope loopX_n loopX_r loopX_x codeX_loop doneR_some runX_eq codeX_region codeX_skip codeX_label codeX_exit codeX_ret codeX_goto backX_some bodyX_r bodyX_n funB_some funF_some funO_some funO_none funcX_eq doneX_eq doneK_eq doneB_some valsR_some valsX_zero valsX_succ
end Go.Proofs.Ytpdbekbobkjfgaa
