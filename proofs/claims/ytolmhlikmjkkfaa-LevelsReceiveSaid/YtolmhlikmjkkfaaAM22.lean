/-
  An abstract view of the machine, part 22: regions with calls, reckoned out by what the callees are known to answer.
  Conditions: none; nothing here speaks of one program.
-/
import Derived.Test.YtolmhlikmjkkfaaAM26
namespace Go.Proofs.Ytolmhlikmjkkfaa
open Go.RowKit
set_option linter.unusedVariables false

/-- What a function that is handed no block answers, as far as it is known. -/
abbrev TellF := List AV → Option (AV × List Blk)
def TellOk (P : Program) (f : FuncId) (F : TellF) : Prop := ∀ us R BS, F us = some (R, BS) → ACall P f us [] fun r hs' => r = R ∧ hs' = BS
def tabRun : List (FuncId × TellF) → RunF
  | [], _, _, _ => none
  | (f, F) :: l, g, us, bs => if g = f then (if bs.isEmpty then F us else none) else tabRun l g us bs
theorem tabRun_nil {g : FuncId} {us : List AV} {bs : List Blk} : tabRun [] g us bs = none := rfl
theorem tabRun_cons {f : FuncId} {F : TellF} {l : List (FuncId × TellF)} {g : FuncId} {us : List AV} {bs : List Blk} : tabRun ((f, F) :: l) g us bs = if g = f then (if bs.isEmpty then F us else none) else tabRun l g us bs := rfl
theorem tab_nil {P : Program} : RunOk P (tabRun []) := fun f vs hs R BS h => by simp [tabRun] at h
theorem tab_cons {P : Program} {f : FuncId} {F : TellF} {l : List (FuncId × TellF)} (h : TellOk P f F) (hl : RunOk P (tabRun l)) : RunOk P (tabRun ((f, F) :: l)) := by
  intro g us bs R BS hr
  simp only [tabRun] at hr
  split at hr
  · rename_i e
    subst e
    split at hr
    · rename_i hb
      have : bs = [] := List.isEmpty_iff.1 hb
      subst this
      exact ⟨by simp, h us R BS hr⟩
    · cases hr
  · exact hl _ _ _ _ _ hr

theorem rangeN4 : List.range 4 = [0, 1, 2, 3] := rfl
theorem rangeN5 : List.range 5 = [0, 1, 2, 3, 4] := rfl
theorem rangeN6 : List.range 6 = [0, 1, 2, 3, 4, 5] := rfl
theorem rangeN7 : List.range 7 = [0, 1, 2, 3, 4, 5, 6] := rfl
theorem rangeN8 : List.range 8 = [0, 1, 2, 3, 4, 5, 6, 7] := rfl
theorem rangeN9 : List.range 9 = [0, 1, 2, 3, 4, 5, 6, 7, 8] := rfl
theorem rangeN10 : List.range 10 = [0, 1, 2, 3, 4, 5, 6, 7, 8, 9] := rfl
theorem rangeN11 : List.range 11 = [0, 1, 2, 3, 4, 5, 6, 7, 8, 9, 10] := rfl
theorem rangeN12 : List.range 12 = [0, 1, 2, 3, 4, 5, 6, 7, 8, 9, 10, 11] := rfl
theorem rangeN13 : List.range 13 = [0, 1, 2, 3, 4, 5, 6, 7, 8, 9, 10, 11, 12] := rfl
theorem rangeN14 : List.range 14 = [0, 1, 2, 3, 4, 5, 6, 7, 8, 9, 10, 11, 12, 13] := rfl
theorem rangeN15 : List.range 15 = [0, 1, 2, 3, 4, 5, 6, 7, 8, 9, 10, 11, 12, 13, 14] := rfl
theorem rangeN16 : List.range 16 = [0, 1, 2, 3, 4, 5, 6, 7, 8, 9, 10, 11, 12, 13, 14, 15] := rfl
/-! ### Rules -/
theorem x_regX {P : Program} {ov : RunF} (hov : RunOk P ov) {Q : Exit → St → Prop} {s : St} {id : Nat} {l : List Oper} (h : ∀ r, opsX P ov l.toArray l s = r → ∃ s', r = some s' ∧ Q .normal s') : AWp P (.region id l.toArray false) Q s := by
  obtain ⟨s', h1, h2⟩ := h _ rfl
  exact awp_region_lit (opsX_sound hov h1 h2)
theorem x_seqX {P : Program} {ov : RunF} (hov : RunOk P ov) {Q : Exit → St → Prop} {s : St} {id : Nat} {l : List Oper} {y : Code} (h : ∀ r, opsX P ov l.toArray l s = r → ∃ s', r = some s' ∧ AWp P y Q s') : AWp P (.seq (.region id l.toArray false) y) Q s :=
  awp_seq (x_regX hov h)
theorem x_drawX {P : Program} (hm : P.follows .mixedOrders = true) {ov : RunF} (hov : RunOk P ov) {Q : Exit → St → Prop} {s : St} {id : Nat} {l : List Oper} (p : Nat) (hok : drawOk l p = true)
    (h : ∀ r, valsX P ov l.toArray p l (preFix s l) = r → ∃ l' s', r = some (l', s') ∧ ∀ r2, opsX P ov l.toArray l' s' = r2 → ∃ s2, r2 = some s2 ∧ Q .normal s2) : AWp P (.region id l.toArray true) Q s := by
  obtain ⟨l', s', h1, h2⟩ := h _ rfl
  obtain ⟨s2, h3, h4⟩ := h2 _ rfl
  intro cx m a w hr
  exact awp_drawq p hm hok (valsX_sound hov h1 (opsX_sound hov h3 h4)) cx m a w (preFix_sound hr)
theorem x_condT {P : Program} {Q : Exit → St → Prop} {s : St} {c : Operand} {x y : Code} (h : ∀ r, s.ev c = r → r = some (.d (.v (.bool true))) ∧ AWp P x Q s) : AWp P (.cond c x y) Q s :=
  awp_cond_true (h _ rfl).1 (h _ rfl).2
theorem x_condF {P : Program} {Q : Exit → St → Prop} {s : St} {c : Operand} {x y : Code} (h : ∀ r, s.ev c = r → r = some (.d (.v (.bool false))) ∧ AWp P y Q s) : AWp P (.cond c x y) Q s :=
  awp_cond_false (h _ rfl).1 (h _ rfl).2
theorem x_condB {P : Program} {Q : Exit → St → Prop} {s : St} {c : Operand} {x y : Code} (h : ∀ r, s.ev c = r → (r = some (.d (.v (.bool true))) ∧ AWp P x Q s) ∨ (r = some (.d (.v (.bool false))) ∧ AWp P y Q s)) : AWp P (.cond c x y) Q s := by
  rcases h _ rfl with ⟨h1, h2⟩ | ⟨h1, h2⟩
  · exact awp_cond_true h1 h2
  · exact awp_cond_false h1 h2
/-- A step that no code makes: a row is data from now on. -/
theorem x_frz {P : Program} {Q : Exit → St → Prop} {s : St} {c : Code} (L : List Nat) (h : ∀ r, freezeL s L = r → ∃ s', r = some s' ∧ AWp P c Q s') : AWp P c Q s := by
  obtain ⟨s', h1, h2⟩ := h _ rfl
  exact fun cx m a w hr => h2 cx m a w (freezeL_sound h1 hr)

/-! ### The equations by which a run is reckoned out: what is not known yet stands as an argument, never under a binder -/
section
variable {P : Program} {ov run : RunF} {n : Nat} {s s' : St}

def opsO (P : Program) (run : RunF) (ops : Array Oper) (l : List Oper) : Option St → Option St
  | some s => opsX P run ops l s
  | none => none
theorem opsO_some {ops : Array Oper} {l : List Oper} : opsO P run ops l (some s) = opsX P run ops l s := rfl
theorem opsX_nil {ops : Array Oper} : opsX P run ops [] s = some s := rfl
theorem opsX_cons {ops : Array Oper} {o : Oper} {l : List Oper} : opsX P run ops (o :: l) s = opsO P run ops l (opG P run ops s o) := by
  simp only [opsX]; cases opG P run ops s o <;> rfl
def guardX (P : Program) (run : RunF) (s : St) (o : Oper) (want : Bool) : Option AV → Option St
  | some (.d (.v (.bool b))) => if b = want then opX P run s { o with guard := none } else if s.okDst o.dst = true then some (s.put o.dst (.tup [])) else none
  | some (.tup []) => if s.okDst o.dst = true then some (s.put o.dst (.tup [])) else none
  | _ => none
theorem opG_none {ops : Array Oper} {d : Option Nat} {op : Op} {t : TypeId} {p : String} {e : Array Edge} : opG P run ops s ⟨d, op, t, p, e, none⟩ = opX P run s ⟨d, op, t, p, e, none⟩ := rfl
def dstAt : List Oper → Nat → Option Nat
  | [], _ => none
  | o :: _, 0 => o.dst
  | _ :: l, j + 1 => dstAt l j
theorem dstAt_get : ∀ (l : List Oper) (j : Nat), obind l.toArray[j]? Oper.dst = dstAt l j
  | [], j => by simp [dstAt, obind]
  | o :: l, 0 => by simp [dstAt, obind]
  | o :: l, j + 1 => by
    have := dstAt_get l j
    simp only [dstAt]
    rw [← this]
    simp
theorem opG_some' {l : List Oper} {d : Option Nat} {op : Op} {t : TypeId} {p : String} {e : Array Edge} {j : Nat} {w : Bool} : opG P run l.toArray s ⟨d, op, t, p, e, some (j, w)⟩ = guardX P run s ⟨d, op, t, p, e, some (j, w)⟩ w (gtO (dstAt l j) s.tm) := by
  rw [← dstAt_get]
  simp only [opG]; unfold guardX
  split <;> first | rfl | (split <;> first | rfl | simp_all)
theorem opG_some {ops : Array Oper} {d : Option Nat} {op : Op} {t : TypeId} {p : String} {e : Array Edge} {j : Nat} {w : Bool} : opG P run ops s ⟨d, op, t, p, e, some (j, w)⟩ = guardX P run s ⟨d, op, t, p, e, some (j, w)⟩ w (gtO (obind ops[j]? Oper.dst) s.tm) := by
  simp only [opG]; unfold guardX
  split <;> first | rfl | (split <;> first | rfl | simp_all)
theorem guardX_b {o : Oper} {w b : Bool} : guardX P run s o w (some (.d (.v (.bool b)))) = if b = w then opX P run s { o with guard := none } else if s.okDst o.dst = true then some (s.put o.dst (.tup [])) else none := rfl
theorem guardX_n {o : Oper} {w : Bool} : guardX P run s o w (some (.tup [])) = if s.okDst o.dst = true then some (s.put o.dst (.tup [])) else none := rfl

/-- Whether an operation is a call of a function. -/
def isCallO : Op → Bool
  | .call { callee := .value _, .. } => true
  | _ => false
def stepR (P : Program) (s : St) (o : Oper) : Option St → Option St
  | some s' => some s'
  | none => match freezeL s (takenK s o) with
    | some s1 => stepF P s1 o
    | none => none
theorem stepR_some {o : Oper} : stepR P s o (some s') = some s' := rfl
def freezeR (P : Program) (o : Oper) : Option St → Option St
  | some s1 => stepF P s1 o
  | none => none
theorem stepR_none {o : Oper} : stepR P s o none = freezeR P o (freezeL s (takenK s o)) := by
  simp only [stepR]; unfold freezeR; split <;> simp_all
theorem freezeR_some {o : Oper} : freezeR P o (some s) = stepF P s o := rfl
theorem stepX_eq {o : Oper} : stepX P s o = stepR P (preFix s [o]) o (stepF P (preFix s [o]) o) := rfl
theorem opX_step {d : Option Nat} {op : Op} {t : TypeId} {p : String} {e : Array Edge} {g : Option (Nat × Bool)} (h : isCallO op = false) : opX P run s ⟨d, op, t, p, e, g⟩ = stepX P s ⟨d, op, t, p, e, g⟩ := by
  unfold opX
  split
  · rename_i ho; simp only at ho; subst ho; simp [isCallO] at h
  · rfl

def callR (s : St) (ks V : List Nat) (q : Nat) (dst : Option Nat) : Option (AV × List Blk) → Option St
  | some (R, BS) => if V.isEmpty || (flatV R && BS.all flatB) then some ((afterS s ks q BS).put dst (renV (backF ks q BS.length) R)) else none
  | none => none
def callP (P : Program) (run : RunF) (s : St) (ks V : List Nat) (q : Nat) (f : FuncId) (fn : Func) (dst : Option Nat) (vs caps : List AV) : Option (List Blk) → Option St
  | some bs => if nodupB ks && (decide (ks.length ≤ 16) && (V.all (fun κ => (gt κ s.hp).isSome) && ks.all (fun κ => decide (κ < q)))) then
      callR s ks V q dst (run f (argsA P s ks V fn.params.toList (vs ++ caps)) bs)
    else none
  | none => none
def callK (P : Program) (run : RunF) (s : St) (ks V : List Nat) (q : Nat) (f : FuncId) (fn : Func) (dst : Option Nat) (vs caps : List AV) : Option St := callP P run s ks V q f fn dst vs caps (pickB (posOf · ks) s.hp ks)
def rmK (ks V : List Nat) : List Nat := V.filter fun κ => !ks.contains κ
def callK' (P : Program) (run : RunF) (s : St) (ks V : List Nat) (q : Nat) (f : FuncId) (fn : Func) (dst : Option Nat) (vs caps : List AV) : Option St := callK P run s ks (rmK ks V) q f fn dst vs caps
theorem callK'_eq {ks V : List Nat} {q : Nat} {f : FuncId} {fn : Func} {dst : Option Nat} {vs caps : List AV} : callK' P run s ks V q f fn dst vs caps = callK P run s ks (rmK ks V) q f fn dst vs caps := rfl
theorem callK_eq {ks V : List Nat} {q : Nat} {f : FuncId} {fn : Func} {dst : Option Nat} {vs caps : List AV} : callK P run s ks V q f fn dst vs caps = callP P run s ks V q f fn dst vs caps (pickB (posOf · ks) s.hp ks) := rfl
theorem callS_eq {V : List Nat} {f : FuncId} {fn : Func} {dst : Option Nat} {vs caps : List AV} : callS P run s V f fn dst vs caps = callK' P run s (reachK s.hp 64 (keysVs ((vs.filter notOwn) ++ caps)) []) V (maxK s.hp 16) f fn dst vs caps := by
  rfl
theorem callP_some {ks V : List Nat} {q : Nat} {f : FuncId} {fn : Func} {dst : Option Nat} {vs caps : List AV} {bs : List Blk} : callP P run s ks V q f fn dst vs caps (some bs) = if nodupB ks && (decide (ks.length ≤ 16) && (V.all (fun κ => (gt κ s.hp).isSome) && ks.all (fun κ => decide (κ < q)))) then
      callR s ks V q dst (run f (argsA P s ks V fn.params.toList (vs ++ caps)) bs) else none := rfl
theorem callR_some {ks V : List Nat} {q : Nat} {dst : Option Nat} {R : AV} {BS : List Blk} : callR s ks V q dst (some (R, BS)) = if V.isEmpty || (flatV R && BS.all flatB) then some ((afterS s ks q BS).put dst (renV (backF ks q BS.length) R)) else none := rfl

def call2 (P : Program) (run : RunF) (s1 : St) (f : FuncId) (fn : Func) (dst : Option Nat) : Option AV → Option (List AV) → Option St
  | some (.clos f' caps'), some vs' => if f' = f ∧ s1.okDst dst = true then callS P run s1 [] f fn dst vs' caps' else none
  | _, _ => none
theorem call2_some {f f' : FuncId} {fn : Func} {dst : Option Nat} {vs caps : List AV} : call2 P run s f fn dst (some (.clos f' caps)) (some vs) = if f' = f ∧ s.okDst dst = true then callS P run s [] f fn dst vs caps else none := rfl
def call1 (P : Program) (run : RunF) (f : FuncId) (fn : Func) (dst : Option Nat) (g : Operand) (l : List Operand) : Option St → Option St
  | some s1 => call2 P run s1 f fn dst (s1.ev g) (s1.evL l)
  | none => none
theorem call1_some {f : FuncId} {fn : Func} {dst : Option Nat} {g : Operand} {l : List Operand} : call1 P run f fn dst g l (some s) = call2 P run s f fn dst (s.ev g) (s.evL l) := rfl
def call0 (P : Program) (run : RunF) (s : St) (f : FuncId) (fn : Func) (dst : Option Nat) (g : Operand) (l : List Operand) (V : List Nat) : Option St → Option St
  | some s' => some s'
  | none => call1 P run f fn dst g l (freezeL s (V.filter (isRowK s.hp)))
theorem call0_some {f : FuncId} {fn : Func} {dst : Option Nat} {g : Operand} {l : List Operand} {V : List Nat} : call0 P run s f fn dst g l V (some s') = some s' := rfl
theorem call0_none {f : FuncId} {fn : Func} {dst : Option Nat} {g : Operand} {l : List Operand} {V : List Nat} : call0 P run s f fn dst g l V none = call1 P run f fn dst g l (freezeL s (V.filter (isRowK s.hp))) := rfl
def callF (P : Program) (run : RunF) (s : St) (f : FuncId) (dst : Option Nat) (g : Operand) (l : List Operand) (vs caps : List AV) : Option Func → Option St
  | some fn => if fnOk fn && s.okDst dst then call0 P run s f fn dst g l (keysVs (vs.filter isOwn)) (callS P run s (keysVs (vs.filter isOwn)) f fn dst vs caps) else none
  | none => none
theorem callF_some {f : FuncId} {fn : Func} {dst : Option Nat} {g : Operand} {l : List Operand} {vs caps : List AV} : callF P run s f dst g l vs caps (some fn) = if fnOk fn && s.okDst dst then call0 P run s f fn dst g l (keysVs (vs.filter isOwn)) (callS P run s (keysVs (vs.filter isOwn)) f fn dst vs caps) else none := rfl
def callE (P : Program) (run : RunF) (s : St) (dst : Option Nat) (g : Operand) (l : List Operand) : Option AV → Option (List AV) → Option St
  | some (.clos f caps), some vs => callF P run s f dst g l vs caps P.funcs[f]?
  | _, _ => none
theorem callE_some {f : FuncId} {dst : Option Nat} {g : Operand} {l : List Operand} {vs caps : List AV} : callE P run s dst g l (some (.clos f caps)) (some vs) = callF P run s f dst g l vs caps P.funcs[f]? := rfl
theorem opX_call {d : Option Nat} {g : Operand} {args : Array Operand} {tys : Array TypeId} {t : TypeId} {p : String} {e : Array Edge} {gd : Option (Nat × Bool)} : opX P run s ⟨d, .call { callee := .value g, args := args, argTypes := tys }, t, p, e, gd⟩ = callE P run s d g args.toList (s.ev g) (s.evL args.toList) := by
  unfold opX
  simp only
  unfold callE
  split
  · rename_i f caps vs h1 h2
    rw [h1, h2]
    simp only
    unfold callF
    split
    · rename_i fn hfn
      rw [hfn]
      simp only
      split
      · unfold call0
        split
        · rename_i h3; rw [h3]
        · rename_i h3
          rw [h3]
          simp only
          unfold call1
          split
          · rename_i s1 h4
            rw [h4]
            simp only
            unfold call2
            split
            · rename_i f' caps' vs' h5 h6; rw [h5, h6]
            · rename_i h5
              split
              · rename_i f' caps' vs' h6 h7; exact absurd h7 (h5 _ _ _ h6)
              · rfl
          · rename_i h4; rw [h4]
      · rfl
    · rename_i hfn; rw [hfn]
  · rename_i h
    split
    · rename_i f caps vs h1 h2; exact absurd h2 (h _ _ _ h1)
    · rfl

def kindX (P : Program) (run : RunF) (s : St) (o : Oper) : Bool → Option St
  | true => match o.op with
    | .call { callee := .value g, args := args, argTypes := _ } => callE P run s o.dst g args.toList (s.ev g) (s.evL args.toList)
    | _ => none
  | false => stepX P s o
theorem kindX_f {o : Oper} : kindX P run s o false = stepX P s o := rfl
theorem kindX_t {d : Option Nat} {g : Operand} {args : Array Operand} {tys : Array TypeId} {t : TypeId} {p : String} {e : Array Edge} {gd : Option (Nat × Bool)} : kindX P run s ⟨d, .call { callee := .value g, args := args, argTypes := tys }, t, p, e, gd⟩ true = callE P run s d g args.toList (s.ev g) (s.evL args.toList) := rfl
theorem opX_any {d : Option Nat} {op : Op} {t : TypeId} {p : String} {e : Array Edge} {gd : Option (Nat × Bool)} : opX P run s ⟨d, op, t, p, e, gd⟩ = kindX P run s ⟨d, op, t, p, e, gd⟩ (isCallO op) := by
  cases h : isCallO op with
  | false => exact opX_step h
  | true =>
    unfold isCallO at h
    split at h
    · rw [opX_call]; rfl
    · cases h

/-! Code -/
def seqX (P : Program) (ov : RunF) (n : Nat) (b : Code) : Option (Exit × St) → Option (Exit × St)
  | some (.normal, s) => codeX P ov n b s
  | r => r
theorem seqX_n {b : Code} : seqX P ov n b (some (.normal, s)) = codeX P ov n b s := rfl
theorem seqX_r {b : Code} : seqX P ov n b (some (.ret, s)) = some (.ret, s) := rfl
theorem seqX_x {b : Code} {i : Nat} : seqX P ov n b (some (.exit i, s)) = some (.exit i, s) := rfl
theorem seqX_g {b : Code} {i : Nat} : seqX P ov n b (some (.goto i, s)) = some (.goto i, s) := rfl
theorem codeX_seq {a b : Code} : codeX P ov (n + 1) (.seq a b) s = seqX P ov n b (codeX P ov n a s) := by
  simp only [codeX]; unfold seqX; split <;> simp_all
def condX (P : Program) (ov : RunF) (n : Nat) (a b : Code) (s : St) : Option AV → Option (Exit × St)
  | some (.d (.v (.bool true))) => codeX P ov n a s
  | some (.d (.v (.bool false))) => codeX P ov n b s
  | _ => none
theorem condX_t {a b : Code} : condX P ov n a b s (some (.d (.v (.bool true)))) = codeX P ov n a s := rfl
theorem condX_f {a b : Code} : condX P ov n a b s (some (.d (.v (.bool false)))) = codeX P ov n b s := rfl
theorem codeX_cond {c : Operand} {a b : Code} : codeX P ov (n + 1) (.cond c a b) s = condX P ov n a b s (s.ev c) := by
  simp only [codeX]; unfold condX; split <;> simp_all
def blockX (i : Nat) : Option (Exit × St) → Option (Exit × St)
  | some (.exit j, s) => if j = i then some (.normal, s) else some (.exit j, s)
  | r => r
theorem blockX_n {i : Nat} : blockX i (some (.normal, s)) = some (.normal, s) := rfl
theorem blockX_r {i : Nat} : blockX i (some (.ret, s)) = some (.ret, s) := rfl
theorem blockX_x {i j : Nat} : blockX i (some (.exit j, s)) = if j = i then some (.normal, s) else some (.exit j, s) := rfl
theorem blockX_g {i j : Nat} : blockX i (some (.goto j, s)) = some (.goto j, s) := rfl
theorem codeX_block {i : Nat} {c : Code} : codeX P ov (n + 1) (.block i c) s = blockX i (codeX P ov n c s) := by
  simp only [codeX]; unfold blockX; split <;> simp_all
def scopeX : Option (Exit × St) → Option (Exit × St)
  | some (.goto _, _) => none
  | r => r
theorem scopeX_n : scopeX (some (.normal, s)) = some (.normal, s) := rfl
theorem scopeX_r : scopeX (some (.ret, s)) = some (.ret, s) := rfl
theorem scopeX_x {j : Nat} : scopeX (some (.exit j, s)) = some (.exit j, s) := rfl
theorem codeX_scope {c : Code} : codeX P ov (n + 1) (.scope c) s = scopeX (codeX P ov n c s) := by
  simp only [codeX]; unfold scopeX; split <;> simp_all
def loopX (P : Program) (ov : RunF) (n : Nat) (c : Code) : Option (Exit × St) → Option (Exit × St)
  | some (.normal, s) => codeX P ov n (.loop c) s
  | r => r
theorem loopX_n {b : Code} : loopX P ov n b (some (.normal, s)) = codeX P ov n (.loop b) s := rfl
theorem loopX_r {b : Code} : loopX P ov n b (some (.ret, s)) = some (.ret, s) := rfl
theorem loopX_x {b : Code} {i : Nat} : loopX P ov n b (some (.exit i, s)) = some (.exit i, s) := rfl
theorem codeX_loop {c : Code} : codeX P ov (n + 1) (.loop c) s = loopX P ov n c (codeX P ov n c s) := by
  simp only [codeX]; unfold loopX; split <;> simp_all
def doneR : Option St → Option (Exit × St)
  | some s => some (.normal, s)
  | none => none
theorem doneR_some : doneR (some s) = some (.normal, s) := rfl
/-- A call, with what fuel is left. -/
def runX (P : Program) (ov : RunF) (n : Nat) : RunF := fun f vs hs => funcX P ov n f vs hs
theorem runX_eq {f : FuncId} {vs : List AV} {hs : List Blk} : runX P ov n f vs hs = funcX P ov n f vs hs := rfl
theorem codeX_region {i : Nat} {l : List Oper} : codeX P ov (n + 1) (.region i l.toArray false) s = doneR (opsX P (runX P ov n) l.toArray l s) := by
  show (match regX P (runX P ov n) l.toArray false s with | some s' => some (Exit.normal, s') | none => none) = _
  simp only [regX]; unfold doneR; split <;> simp_all
theorem codeX_skip : codeX P ov (n + 1) .skip s = some (.normal, s) := rfl
theorem codeX_label {i : Nat} : codeX P ov (n + 1) (.label i) s = some (.normal, s) := rfl
theorem codeX_exit {i : Nat} : codeX P ov (n + 1) (.exit i) s = some (.exit i, s) := rfl
theorem codeX_ret : codeX P ov (n + 1) .ret s = some (.ret, s) := rfl
theorem codeX_goto {i : Nat} : codeX P ov (n + 1) (.goto i) s = some (.goto i, s) := rfl
def backX (s' : St) (n : Nat) : Option AV → Option (AV × List Blk)
  | some r => doneX s' n r
  | none => none
theorem backX_some {r : AV} {m : Nat} : backX s m (some r) = doneX s m r := rfl
def bodyX (P : Program) (m : Nat) (res : List ResultVar) : Option (Exit × St) → Option (AV × List Blk)
  | some (.ret, s) => backX s m (resA P s res)
  | some (.normal, s) => backX s m (resA P s res)
  | _ => none
theorem bodyX_r {m : Nat} {res : List ResultVar} : bodyX P m res (some (.ret, s)) = backX s m (resA P s res) := rfl
theorem bodyX_n {m : Nat} {res : List ResultVar} : bodyX P m res (some (.normal, s)) = backX s m (resA P s res) := rfl
def funB (P : Program) (ov : RunF) (n : Nat) (vs : List AV) (hs : List Blk) (t : Nat) (res : List ResultVar) : Option Code → Option (AV × List Blk)
  | some c => if decide (vs.length ≤ t) then bodyX P hs.length res (codeX P ov n c ⟨t, tmFrom 0 vs, hpFrom 0 hs⟩) else none
  | none => none
theorem funB_some {vs : List AV} {hs : List Blk} {t : Nat} {res : List ResultVar} {c : Code} : funB P ov n vs hs t res (some c) = if decide (vs.length ≤ t) then bodyX P hs.length res (codeX P ov n c ⟨t, tmFrom 0 vs, hpFrom 0 hs⟩) else none := rfl
def funF (P : Program) (ov : RunF) (n : Nat) (vs : List AV) (hs : List Blk) : Option Func → Option (AV × List Blk)
  | some fn => funB P ov n vs hs fn.ntmps fn.results.toList fn.body
  | none => none
theorem funF_some {vs : List AV} {hs : List Blk} {fn : Func} : funF P ov n vs hs (some fn) = funB P ov n vs hs fn.ntmps fn.results.toList fn.body := rfl
def funO (P : Program) (ov : RunF) (n : Nat) (f : FuncId) (vs : List AV) (hs : List Blk) : Option (AV × List Blk) → Option (AV × List Blk)
  | some r => some r
  | none => funF P ov n vs hs P.funcs[f]?
theorem funO_some {f : FuncId} {vs : List AV} {hs : List Blk} {r : AV × List Blk} : funO P ov n f vs hs (some r) = some r := rfl
theorem funO_none {f : FuncId} {vs : List AV} {hs : List Blk} : funO P ov n f vs hs none = funF P ov n vs hs P.funcs[f]? := rfl
theorem funcX_eq {f : FuncId} {vs : List AV} {hs : List Blk} : funcX P ov (n + 1) f vs hs = funO P ov n f vs hs (ov f vs hs) := by
  simp only [funcX]
  cases h : ov f vs hs with
  | some r => rfl
  | none =>
    simp only [funO]
    cases h2 : P.funcs[f]? with
    | none => rfl
    | some fn =>
      simp only [funF]
      cases h3 : fn.body with
      | none => rfl
      | some c =>
        simp only [funB]
        split
        · cases h4 : codeX P ov n c ⟨fn.ntmps, tmFrom 0 vs, hpFrom 0 hs⟩ with
          | none => rfl
          | some q =>
            obtain ⟨e, s'⟩ := q
            cases h5 : resA P s' fn.results.toList with
            | none => cases e <;> simp only [bodyX, backX, h5]
            | some r => cases e <;> simp only [bodyX, backX, h5]
        · rfl
def doneK (s' : St) (r : AV) (ks : List Nat) : Option (AV × List Blk) := if nodupB ks then doneB r ks (pickB (posOf · ks) s'.hp ks) else none
  where doneB (r : AV) (ks : List Nat) : Option (List Blk) → Option (AV × List Blk)
    | some bs => some (renV (posOf · ks) r, bs)
    | none => none
theorem doneX_eq {m : Nat} {r : AV} : doneX s m r = doneK s r (List.range m ++ (reachK s.hp 64 (List.range m ++ keysV r) []).filter fun κ => decide (m ≤ κ)) := by
  rfl
theorem doneK_eq {r : AV} {ks : List Nat} : doneK s r ks = if nodupB ks then doneK.doneB r ks (pickB (posOf · ks) s.hp ks) else none := rfl
theorem doneB_some {r : AV} {ks : List Nat} {bs : List Blk} : doneK.doneB r ks (some bs) = some (renV (posOf · ks) r, bs) := rfl

/-! Drawn regions -/
def valsR (P : Program) (run : RunF) (ops : Array Oper) (p : Nat) (l : List Oper) (s : St) (dst : Option Nat) : Option AV → Option (List Oper × St)
  | some v => valsX P run ops p l (s.put dst v)
  | none => none
theorem valsR_some {ops : Array Oper} {p : Nat} {l : List Oper} {dst : Option Nat} {v : AV} : valsR P run ops p l s dst (some v) = valsX P run ops p l (s.put dst v) := rfl
theorem valsX_zero {ops : Array Oper} {l : List Oper} : valsX P run ops 0 l s = some (l, s) := by simp only [valsX]
theorem valsX_succ {ops : Array Oper} {p : Nat} {o : Oper} {l : List Oper} : valsX P run ops (p + 1) (o :: l) s = valsR P run ops p l s o.dst (valX P run ops s o) := by
  simp only [valsX]; unfold valsR; split <;> simp_all
def stepVG (P : Program) (s : St) (op : Op) (w : Bool) : Option AV → Option AV
  | some (.d (.v (.bool b))) => if b = w then valOp P s op else some (.tup [])
  | some (.tup []) => some (.tup [])
  | _ => none
theorem stepVG_b {op : Op} {w b : Bool} : stepVG P s op w (some (.d (.v (.bool b)))) = if b = w then valOp P s op else some (.tup []) := rfl
theorem stepVG_n {op : Op} {w : Bool} : stepVG P s op w (some (.tup [])) = some (.tup []) := rfl
theorem stepV_none {ops : Array Oper} {d : Option Nat} {op : Op} {t : TypeId} {p : String} {e : Array Edge} : stepV P ops s ⟨d, op, t, p, e, none⟩ = if s.okDst d = false then none else valOp P s op := rfl
theorem stepV_some {l : List Oper} {d : Option Nat} {op : Op} {t : TypeId} {p : String} {e : Array Edge} {j : Nat} {w : Bool} : stepV P l.toArray s ⟨d, op, t, p, e, some (j, w)⟩ = if s.okDst d = false then none else stepVG P s op w (gtO (dstAt l j) s.tm) := by
  rw [← dstAt_get]
  simp only [stepV]; unfold stepVG
  split
  · rfl
  · split <;> first | rfl | simp_all
def callD4 (V : List Nat) : Option (AV × List Blk) → Option AV
  | some (.d d, []) => if V.isEmpty || flatD d then some (.d d) else none
  | some (.own 0, [B]) => match B.data with
    | some d => if V.isEmpty || flatD d then some (.d d) else none
    | none => none
  | _ => none
def callD5 (V : List Nat) : Option D → Option AV
  | some d => if V.isEmpty || flatD d then some (.d d) else none
  | none => none
theorem callD4_d {V : List Nat} {d : D} : callD4 V (some (.d d, [])) = if V.isEmpty || flatD d then some (.d d) else none := rfl
theorem callD4_o {V : List Nat} {B : Blk} : callD4 V (some (.own 0, [B])) = callD5 V B.data := rfl
theorem callD5_some {V : List Nat} {d : D} : callD5 V (some d) = if V.isEmpty || flatD d then some (.d d) else none := rfl
def callD3 (run : RunF) (s : St) (f : FuncId) (V : List Nat) : Option (List D) → Option AV
  | some ds => if V.all (fun κ => (gt κ s.hp).isSome) then callD4 V (run f (ds.map .d) []) else none
  | none => none
theorem callD3_some {f : FuncId} {V : List Nat} {ds : List D} : callD3 run s f V (some ds) = if V.all (fun κ => (gt κ s.hp).isSome) then callD4 V (run f (ds.map .d) []) else none := rfl
def callD2 (P : Program) (run : RunF) (s : St) (f : FuncId) (dst : Option Nat) (vs : List AV) : Option Func → Option AV
  | some fn => if fnOk fn && s.okDst dst then callD3 run s f (keysVs (vs.filter isOwn)) (allD (argsA P s [] (keysVs (vs.filter isOwn)) fn.params.toList vs)) else none
  | none => none
theorem callD2_some {f : FuncId} {dst : Option Nat} {vs : List AV} {fn : Func} : callD2 P run s f dst vs (some fn) = if fnOk fn && s.okDst dst then callD3 run s f (keysVs (vs.filter isOwn)) (allD (argsA P s [] (keysVs (vs.filter isOwn)) fn.params.toList vs)) else none := rfl
def callD1 (P : Program) (run : RunF) (s : St) (f : FuncId) (dst : Option Nat) : Option (List AV) → Option AV
  | some vs => callD2 P run s f dst vs P.funcs[f]?
  | none => none
theorem callD1_some {f : FuncId} {dst : Option Nat} {vs : List AV} : callD1 P run s f dst (some vs) = callD2 P run s f dst vs P.funcs[f]? := rfl
theorem callD_eq {d : Option Nat} {f : FuncId} {args : Array Operand} {tys : Array TypeId} {t : TypeId} {p : String} {e : Array Edge} {gd : Option (Nat × Bool)} : callD P run s ⟨d, .call { callee := .value (.func f), args := args, argTypes := tys }, t, p, e, gd⟩ = callD1 P run s f d (s.evL args.toList) := by
  unfold callD
  simp only
  cases h1 : s.evL args.toList with
  | none => rfl
  | some vs =>
    simp only [callD1]
    cases h2 : P.funcs[f]? with
    | none => rfl
    | some fn =>
      simp only [callD2]
      split
      · cases h3 : allD (argsA P s [] (keysVs (vs.filter isOwn)) fn.params.toList vs) with
        | none => rfl
        | some ds =>
          simp only [callD3]
          split
          · cases h4 : run f (ds.map .d) [] with
            | none => rfl
            | some q =>
              obtain ⟨R, BS⟩ := q
              unfold callD4
              rfl
          · rfl
      · rfl
def valGd (P : Program) (run : RunF) (s : St) (o : Oper) (w : Bool) : Option AV → Option AV
  | some (.d (.v (.bool b))) => if b = w then callD P run s { o with guard := none } else none
  | _ => none
theorem valGd_b {o : Oper} {w b : Bool} : valGd P run s o w (some (.d (.v (.bool b)))) = if b = w then callD P run s { o with guard := none } else none := rfl
def valN (P : Program) (run : RunF) (ops : Array Oper) (s : St) (o : Oper) : Option (Nat × Bool) → Option AV
  | none => callD P run s o
  | some (j, w) => valGd P run s o w (gtO (obind ops[j]? Oper.dst) s.tm)
theorem valN_none {ops : Array Oper} {o : Oper} : valN P run ops s o none = callD P run s o := rfl
theorem valN_some {l : List Oper} {o : Oper} {j : Nat} {w : Bool} : valN P run l.toArray s o (some (j, w)) = valGd P run s o w (gtO (dstAt l j) s.tm) := by
  rw [← dstAt_get]; rfl
def valR1 (P : Program) (run : RunF) (ops : Array Oper) (s : St) (o : Oper) : Option AV → Option AV
  | some v => some v
  | none => valN P run ops s o o.guard
theorem valR1_some {ops : Array Oper} {o : Oper} {v : AV} : valR1 P run ops s o (some v) = some v := rfl
theorem valR1_none {ops : Array Oper} {o : Oper} : valR1 P run ops s o none = valN P run ops s o o.guard := rfl
theorem valX_eq {ops : Array Oper} {o : Oper} : valX P run ops s o = valR1 P run ops s o (stepV P ops s o) := by
  unfold valX
  cases h1 : stepV P ops s o with
  | some v => rfl
  | none =>
    simp only [valR1]
    cases h2 : o.guard with
    | none => rfl
    | some q =>
      obtain ⟨j, w⟩ := q
      simp only [valN]
      unfold valGd
      rfl
end

attribute [push_cast] List.take_length rangeN4 rangeN5 rangeN6 rangeN7 rangeN8 rangeN9 rangeN10 rangeN11 rangeN12 rangeN13 rangeN14 rangeN15 rangeN16 tabRun_nil tabRun_cons keysV keysVs keysB reachK nodupB maxK notOwn isOwn isRowK freezeL preFix evK takenK List.filter_cons stepVG_b stepVG_n stepV_none stepV_some callD4_d callD4_o callD5_some callD3_some callD2_some callD1_some callD_eq valGd_b valN_none valN_some valR1_some valR1_none valX_eq List.filter_nil List.isEmpty_nil List.isEmpty_cons opsO_some opsX_nil opsX_cons opG_none opG_some' dstAt guardX_b guardX_n isCallO opX_any kindX_f kindX_t stepR_some stepR_none freezeR_some stepX_eq callK'_eq callK_eq rmK callS_eq callP_some callR_some call2_some call1_some call0_some call0_none callF_some callE_some seqX_n seqX_r seqX_x seqX_g codeX_seq condX_t condX_f codeX_cond blockX_n blockX_r blockX_x blockX_g codeX_block scopeX_n scopeX_r scopeX_x codeX_scope loopX_n loopX_r loopX_x codeX_loop doneR_some runX_eq codeX_region codeX_skip codeX_label codeX_exit codeX_ret codeX_goto backX_some bodyX_r bodyX_n funB_some funF_some funO_some funO_none funcX_eq doneX_eq doneK_eq doneB_some valsR_some valsX_zero valsX_succ
end Go.Proofs.Ytolmhlikmjkkfaa
