/-
  An abstract view of the machine, part 20: a whole run, reckoned out.
  Conditions: none; nothing here speaks of one program.
-/
import Derived.Test.YtpdbekbobkjfgaaAM28
namespace Go.Proofs.Ytpdbekbobkjfgaa
open Go.RowKit
set_option linter.unusedVariables false

mutual
def keysV : AV → List Nat
  | .d _ => []
  | .ptr κ _ => [κ]
  | .own κ => [κ]
  | .pel κ _ => [κ]
  | .eaddr _ => []
  | .agg cs => keysVs cs
  | .tup vs => keysVs vs
  | .clos _ caps => keysVs caps
  | .wrap _ v => keysV v
  | .bot => []
termination_by structural v => v
def keysVs : List AV → List Nat
  | [] => []
  | v :: vs => keysV v ++ keysVs vs
termination_by structural vs => vs
end
def keysB : Blk → List Nat
  | .box _ cs => keysVs cs
  | _ => []
/-- The keys that lie behind the keys of a list. -/
def reachK (hp : List (Nat × Blk)) : Nat → List Nat → List Nat → List Nat
  | _, [], seen => seen
  | 0, _ :: _, seen => seen
  | n + 1, k :: todo, seen => if seen.contains k then reachK hp n todo seen else match gt k hp with
    | some B => reachK hp n (keysB B ++ todo) (seen ++ [k])
    | none => reachK hp n todo seen
def nodupB : List Nat → Bool
  | [] => true
  | k :: l => !l.contains k && nodupB l
theorem nodupB_get : ∀ {l : List Nat}, nodupB l = true → l.Nodup
  | [], _ => List.nodup_nil
  | k :: l, h => by
    simp only [nodupB, Bool.and_eq_true, Bool.not_eq_true'] at h
    exact List.nodup_cons.2 ⟨by simpa using h.1, nodupB_get h.2⟩
def maxK : List (Nat × Blk) → Nat → Nat
  | [], n => n
  | (k, _) :: l, n => maxK l (if n ≤ k then k + 1 else n)
def notOwn : AV → Bool
  | .own _ => false
  | _ => true
def isOwn : AV → Bool
  | .own _ => true
  | _ => false
def isRowK (hp : List (Nat × Blk)) (κ : Nat) : Bool := match gt κ hp with
  | some (.box _ _) => false
  | some _ => true
  | none => false

/-- The rows V of a view are data from now on. -/
def freezeL (s : St) : List Nat → Option St
  | [] => some s
  | κ :: l => match obind (gt κ s.hp) Blk.data with
    | some d => freezeL (s.freeze κ d) l
    | none => none

/-- What a function does that is run by 'run'. -/
abbrev RunF := FuncId → List AV → List Blk → Option (AV × List Blk)
def RunOk (P : Program) (run : RunF) : Prop := ∀ f vs hs R BS, run f vs hs = some (R, BS) → hs.length ≤ BS.length ∧ ACall P f vs hs fun r hs' => r = R ∧ hs' = BS

def fnOk (fn : Func) : Bool := fn.body.isSome && !(fn.name == "runtime.NumGoroutine")
def rmK (ks V : List Nat) : List Nat := V.filter fun κ => !ks.contains κ
def callS (P : Program) (run : RunF) (s : St) (V : List Nat) (f : FuncId) (fn : Func) (dst : Option Nat) (vs : List AV) : Option St :=
  let ks := reachK s.hp 64 (keysVs (vs.filter notOwn)) []
  let V := rmK ks V
  let q := maxK s.hp (16 + s.n)
  match pickB (posOf · ks) s.hp ks with
  | some bs => if nodupB ks && (decide (ks.length ≤ 16) && (V.all (fun κ => (gt κ s.hp).isSome) && ks.all (fun κ => decide (κ < q)))) then
      match run f (argsA P s ks V fn.params.toList vs) bs with
      | some (R, BS) => if V.isEmpty || (flatV R && BS.all flatB) then some ((afterS s ks q BS).put dst (renV (backF ks q BS.length) R)) else none
      | none => none
    else none
  | none => none
/-- An array that is sliced may only be read from now on. -/
def preFix (s : St) : List Oper → St
  | [] => s
  | o :: l => match o.op with
    | .slice _ x _ _ _ => match s.ev x with
      | some (.ptr κ 0) => match gt κ s.hp with
        | some (.box _ cs) => match allD cs with
          | some ds => preFix (s.fix κ (.agg ds)) l
          | none => preFix s l
        | _ => preFix s l
      | _ => preFix s l
    | _ => preFix s l
def evK (s : St) (l : List Operand) : List Nat := match s.evL l with
  | some vs => keysVs vs
  | none => []
/-- The own rows that an operation takes in as data. -/
def takenK (s : St) (o : Oper) : List Nat :=
  (match o.op with
  | .store _ _ v => evK s [v]
  | .buildSlice _ _ l => evK s (l.toList.map fun p : Nat × Operand => p.2)
  | .call { callee := .builtin .append, args := args, argTypes := _ } => evK s (args.toList.drop 1)
  | .index _ x _ => evK s [x]
  | .slice _ x _ _ _ => evK s [x]
  | _ => []).filter (isRowK s.hp)
def stepX (P : Program) (s : St) (o : Oper) : Option St :=
  let s := preFix s [o]
  match stepF P s o with
  | some s' => some s'
  | none => match freezeL s (takenK s o) with
    | some s1 => stepF P s1 o
    | none => none
/-- A call; if need be the own rows that it names are data from now on. -/
def call2 (P : Program) (run : RunF) (s1 : St) (f : FuncId) (fn : Func) (dst : Option Nat) : Option (FuncId × List AV) → Option St
  | some (f', vs') => if f' = f ∧ s1.okDst dst = true then callS P run s1 [] f fn dst vs' else none
  | none => none
def call1 (P : Program) (run : RunF) (f : FuncId) (fn : Func) (dst : Option Nat) (c : Call) : Option St → Option St
  | some s1 => call2 P run s1 f fn dst (goC P s1 c)
  | none => none
def callB (P : Program) (run : RunF) (s : St) (f : FuncId) (fn : Func) (dst : Option Nat) (c : Call) (vs : List AV) : Option St → Option St
  | some s' => some s'
  | none => call1 P run f fn dst c (freezeL s ((reachK s.hp 64 (keysVs vs) []).filter (isRowK s.hp)))
def call0 (P : Program) (run : RunF) (s : St) (f : FuncId) (fn : Func) (dst : Option Nat) (c : Call) (vs : List AV) (V : List Nat) : Option St → Option St
  | some s' => some s'
  | none => callB P run s f fn dst c vs (call1 P run f fn dst c (freezeL s (V.filter (isRowK s.hp))))
def callF (P : Program) (run : RunF) (s : St) (f : FuncId) (dst : Option Nat) (c : Call) (vs : List AV) : Option Func → Option St
  | some fn => if fnOk fn && s.okDst dst then call0 P run s f fn dst c vs (keysVs (vs.filter isOwn)) (callS P run s (keysVs (vs.filter isOwn)) f fn dst vs) else none
  | none => none
def callE (P : Program) (run : RunF) (s : St) (dst : Option Nat) (c : Call) : Option (FuncId × List AV) → Option St
  | some (f, vs) => callF P run s f dst c vs P.funcs[f]?
  | none => none
def callX (P : Program) (run : RunF) (s : St) (dst : Option Nat) (c : Call) : Option St := callE P run s dst c (goC P s c)
/-- Whether an operation is a call of a function. -/
def isCallO : Op → Bool
  | .call { callee := .builtin _, .. } => false
  | .call _ => true
  | _ => false
/-- One operation of a region: a step, or a call. -/
def kindX (P : Program) (run : RunF) (s : St) (o : Oper) : Bool → Option St
  | true => match o.op with
    | .call c => callX P run s o.dst c
    | _ => none
  | false => stepX P s o
def opX (P : Program) (run : RunF) (s : St) (o : Oper) : Option St := kindX P run s o (isCallO o.op)
/-- The same, its guard looked at. -/
def opG (P : Program) (run : RunF) (ops : Array Oper) (s : St) (o : Oper) : Option St :=
  match o.guard with
  | none => opX P run s o
  | some (j, want) => match gtO (obind ops[j]? Oper.dst) s.tm with
    | some (.d (.v (.bool b))) => if b = want then opX P run s { o with guard := none } else if s.okDst o.dst = true then some (s.put o.dst (.tup [])) else none
    | some (.tup []) => if s.okDst o.dst = true then some (s.put o.dst (.tup [])) else none
    | _ => none
def opsX (P : Program) (run : RunF) (ops : Array Oper) : List Oper → St → Option St
  | [], s => some s
  | o :: l, s => match opG P run ops s o with
    | some s' => opsX P run ops l s'
    | none => none

/-! ### Drawn regions -/
/-- The value of a call, as data: boxes that it is handed lie behind it as they lay; new rows are data. -/
noncomputable def callD7 (s : St) (ks V : List Nat) (q : Nat) : Option (AV × List Blk) → Option AV
  | some (R, BS) => if sameK s ks (backF ks q BS.length) ks BS && (V.isEmpty || (flatV R && BS.all flatB)) then some (renV (backF ks q BS.length) R) else none
  | none => none
noncomputable def callD6 (s : St) (ks V : List Nat) (q n : Nat) : Option (AV × List Blk) → Option AV
  | some (R, BS) => callD7 s ks V q (datLast (BS.length - n) R BS)
  | none => none
noncomputable def callD5 (P : Program) (run : RunF) (s : St) (f : FuncId) (fn : Func) (vs : List AV) (ks V : List Nat) (q : Nat) : Option (List Blk) → Option AV
  | some bs => if nodupB ks && (decide (ks.length ≤ 16) && (V.all (fun κ => (gt κ s.hp).isSome) && ks.all (fun κ => decide (κ < q)))) then callD6 s ks V q bs.length (run f (argsA P s ks V fn.params.toList vs) bs) else none
  | none => none
noncomputable def callD4 (P : Program) (run : RunF) (s : St) (f : FuncId) (fn : Func) (vs : List AV) (ks V : List Nat) (q : Nat) : Option AV := callD5 P run s f fn vs ks V q (pickB (posOf · ks) s.hp ks)
noncomputable def callD3 (P : Program) (run : RunF) (s : St) (f : FuncId) (fn : Func) (vs : List AV) (ks : List Nat) : Option AV := callD4 P run s f fn vs ks (rmK ks (keysVs (vs.filter isOwn))) (maxK s.hp 16)
noncomputable def callD2 (P : Program) (run : RunF) (s : St) (dst : Option Nat) (f : FuncId) (vs : List AV) : Option Func → Option AV
  | some fn => if fnOk fn && s.okDst dst then callD3 P run s f fn vs (reachK s.hp 64 (keysVs (vs.filter notOwn)) []) else none
  | none => none
noncomputable def callD1 (P : Program) (run : RunF) (s : St) (dst : Option Nat) : Option (FuncId × List AV) → Option AV
  | some (f, vs) => callD2 P run s dst f vs P.funcs[f]?
  | none => none
def opCall : Op → Option Call
  | .call c => some c
  | _ => none
noncomputable def callD0 (P : Program) (run : RunF) (s : St) (dst : Option Nat) : Option Call → Option AV
  | some c => callD1 P run s dst (goC P s c)
  | none => none
noncomputable def callD (P : Program) (run : RunF) (s : St) (o : Oper) : Option AV := if isCallO o.op then callD0 P run s o.dst (opCall o.op) else none
noncomputable def valX (P : Program) (run : RunF) (ops : Array Oper) (s : St) (o : Oper) : Option AV :=
  match stepV P ops s o with
  | some v => some v
  | none => match o.guard with
    | none => callD P run s o
    | some (j, want) => match gtO (obind ops[j]? Oper.dst) s.tm with
      | some (.d (.v (.bool b))) => if b = want then callD P run s { o with guard := none } else none
      | _ => none
noncomputable def valsX (P : Program) (run : RunF) (ops : Array Oper) : Nat → List Oper → St → Option (List Oper × St)
  | 0, l, s => some (l, s)
  | p + 1, o :: l, s => match valX P run ops s o with
    | some v => valsX P run ops p l (s.put o.dst v)
    | none => none
  | _ + 1, [], _ => none
def leastOk (l : List Oper) : Nat → Nat → Option Nat
  | 0, _ => none
  | n + 1, p => if tailOk p l then some p else leastOk l n (p + 1)
end Go.Proofs.Ytpdbekbobkjfgaa
