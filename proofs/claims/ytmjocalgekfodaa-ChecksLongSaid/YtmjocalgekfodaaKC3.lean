/-
  An abstract view of the machine: runs reckoned out, by which a slice of an own row is only measured.
  Conditions: none; nothing here speaks of one program.
-/
import Derived.Test.YtmjocalgekfodaaKC2
namespace Go.Proofs.Ytmjocalgekfodaa
open Go.RowKit
set_option linter.unusedVariables false

def readsO (t : Nat) (x : Operand) : Bool := match x with | .tmp t' => t' == t | _ => false
def readsC : Code → Nat → Bool
  | .region _ ops _, t => ops.toList.any fun o => o.op.operands.toList.any (readsO t)
  | .seq a b, t => readsC a t || readsC b t
  | .cond c a b, t => readsO t c || (readsC a t || readsC b t)
  | .block _ c, t => readsC c t
  | .loop c, t => readsC c t
  | .scope c, t => readsC c t
  | .rangeFunc _ _ _ _, _ => true
  | _, _ => false

def isSlA (o : Oper) : Bool := match o.op with | .slice _ _ _ _ _ => true | _ => false
def lenOfA (t : Nat) (o : Oper) : Bool := match o.op with
  | .call c => match c.callee with
    | .builtin .len => match c.args.toList with
      | [.tmp t'] => t' == t
      | _ => false
    | _ => false
  | _ => false
def peekV (P : Program) (s sf : St) (o1 o2 : Oper) : Option St :=
  match o1.guard, o2.guard, s.okDst o1.dst && (sf.okDst o1.dst && (s.put o1.dst .bot).okDst o2.dst) with
  | none, none, true => match valOp P sf o1.op with
    | some v1 => match valOp P (sf.put o1.dst v1) o2.op with
      | some (.d (.v (.int k n))) => some ((s.put o1.dst .bot).put o2.dst (.d (.v (.int k n))))
      | _ => none
    | none => none
  | _, _, _ => none
def peekX (P : Program) (ops : Array Oper) (rd : Nat → Bool) (s : St) : List Oper → Option (St × List Oper)
  | o1 :: o2 :: post => match o1.dst with
    | some t => if lenOfA t o2 && (!(takenK s o1).isEmpty && !rd t && post.all fun o => !(o.looksAt ops).contains t) then
        match freezeL s (takenK s o1) with
        | some sf => match peekV P s sf o1 o2 with
          | some s2 => some (s2, post)
          | none => none
        | none => none
      else none
    | none => none
  | _ => none
def regN (P : Program) (run : RunF) (ops : Array Oper) (rd : Nat → Bool) (s : St) : Option St :=
  match ops.toList.dropWhile fun o => !isSlA o with
  | [] => opsX P run ops ops.toList s
  | r => match opsX P run ops (ops.toList.takeWhile fun o => !isSlA o) s with
    | some s1 => match peekX P ops rd s1 r with
      | some (s2, post) => opsX P run ops post s2
      | none => opsX P run ops r s1
    | none => none
noncomputable def regF0 (P : Program) (run : RunF) (ops : Array Oper) (rd : Nat → Bool) (s : St) : Option St :=
  match regN P run ops rd s with
  | some s' => some s'
  | none => match freezeL s (namedK s ops.toList) with
    | some s1 => regN P run ops rd s1
    | none => none

def ownA : List AV → List Nat
  | [] => []
  | v :: l => (match v with | .own κ => [κ] | _ => []) ++ ownA l
def loadA (P : Program) (s : St) (t : Nat) : List Oper → List Nat
  | [] => []
  | o :: l => (if o.dst = some t then match o.op with
      | .load ty ad => match s.ev ad, aggT P ty with
        | some (.ptr κ off), some true => match gt κ s.hp, szT P ty with
          | some (.box _ cs), some n => ownA ((cs.drop off).take n)
          | _, _ => []
        | _, _ => []
      | _ => []
    else []) ++ loadA P s t l
def preRows (P : Program) (s : St) (ops : List Oper) : List Oper → List Nat
  | [] => []
  | o :: l => (match o.op with
      | .call c => if isCallO o.op then c.args.toList.flatMap fun x => match x with | .tmp t => loadA P s t ops | _ => [] else []
      | _ => []) ++ preRows P s ops l
def uniqN : List Nat → List Nat
  | [] => []
  | x :: l => if l.contains x then uniqN l else x :: uniqN l
noncomputable def regF (P : Program) (run : RunF) (ops : Array Oper) (rd : Nat → Bool) (s : St) : Option St :=
  match uniqN (preRows P s ops.toList ops.toList) with
  | [] => regF0 P run ops rd s
  | l => match freezeL s l with
    | some s1 => regF0 P run ops rd s1
    | none => regF0 P run ops rd s

mutual
noncomputable def codeY (P : Program) (ov : RunF) : Nat → Code → St → Option (Exit × St)
  | 0, _, _ => none
  | n + 1, c, s => match c with
    | .skip => some (.normal, s)
    | .label _ => some (.normal, s)
    | .exit i => some (.exit i, s)
    | .ret => some (.ret, s)
    | .goto l => some (.goto l, s)
    | .seq a b => match a with
      | .region _ ops false => match regF P (fun f vs hs => funcY P ov n f vs hs) ops (readsC b) s with
        | some s' => codeY P ov n b s'
        | none => none
      | a => match codeY P ov n a s with
        | some (.normal, s') => codeY P ov n b s'
        | r => r
    | .cond c a b => match s.ev c with
      | some (.d (.v (.bool true))) => codeY P ov n a s
      | some (.d (.v (.bool false))) => codeY P ov n b s
      | _ => none
    | .block i c => match codeY P ov n c s with
      | some (.exit j, s') => if j = i then some (.normal, s') else some (.exit j, s')
      | r => r
    | .scope c => match codeY P ov n c s with
      | some (.goto l, s') => match findLabel c l with
        | some rest => match codeY P ov n rest s' with
          | some (.goto _, _) => none
          | r => r
        | none => none
      | r => r
    | .loop c => match codeY P ov n c s with
      | some (.normal, s') => codeY P ov n (.loop c) s'
      | r => r
    | .region _ ops draw => match regX P (fun f vs hs => funcY P ov n f vs hs) ops draw s with
      | some s' => some (.normal, s')
      | none => none
    | _ => none
termination_by structural n => n
noncomputable def funcY (P : Program) (ov : RunF) : Nat → FuncId → List AV → List Blk → Option (AV × List Blk)
  | 0, _, _, _ => none
  | n + 1, f, vs, hs => match ov f vs hs with
    | some r => some r
    | none => match P.funcs[f]? with
    | some fn => match fn.body with
      | some c => if decide (vs.length ≤ fn.ntmps) then
          match codeY P ov n c ⟨fn.ntmps, tmFrom 0 vs, hpFrom 0 hs⟩ with
          | some (e, s') => match e, resA P s' fn.results.toList with
            | .ret, some r => doneX s' hs.length r
            | .normal, some r => doneX s' hs.length r
            | _, _ => none
          | none => none
        else none
      | none => none
    | none => none
termination_by structural n => n
end



end Go.Proofs.Ytmjocalgekfodaa

