/-
  Walks that the kernel reckons out, part 5: calls.
  Conditions: none; nothing here speaks of one program.
-/
import Derived.Test.YtpdbekbobkjfgaaAN4
namespace Go.Proofs.Ytpdbekbobkjfgaa
open Go.RowKit
set_option linter.unusedVariables false
set_option linter.constructorNameAsVariable false

mutual
def killsS (K : List Nat) : SV → SV
  | .ptr κ off => if K.contains κ then .bot else .ptr κ off
  | .own κ => if K.contains κ then .bot else .own κ
  | .pel κ z n => if K.contains κ then .bot else .pel κ z n
  | .agg l => .agg (killsSs K l)
  | .tup l => .tup (killsSs K l)
  | .clos g l => .clos g (killsSs K l)
  | .wrap k v => .wrap k (killsS K v)
  | .d x => .d x
  | .i k x => .i k x
  | .b x => .b x
  | .s x => .s x
  | .ints k xs c => .ints k xs c
  | .row e xs c => .row e xs c
  | .eaddr v => .eaddr v
  | .bot => .bot
termination_by structural v => v
def killsSs (K : List Nat) : List SV → List SV
  | [] => []
  | v :: l => killsS K v :: killsSs K l
termination_by structural l => l
end
mutual
theorem killsS_img (K : List Nat) : ∀ v : SV, (killsS K v).toAV = killsV K v.toAV
  | .ptr κ off => by simp only [killsS, SV.toAV, killsV]; split <;> simp only [SV.toAV]
  | .own κ => by simp only [killsS, SV.toAV, killsV]; split <;> simp only [SV.toAV]
  | .pel κ z n => by simp only [killsS, SV.toAV, killsV]; split <;> simp only [SV.toAV]
  | .agg l => by simp only [killsS, SV.toAV, killsV, killsSs_img K l]
  | .tup l => by simp only [killsS, SV.toAV, killsV, killsSs_img K l]
  | .clos g l => by simp only [killsS, SV.toAV, killsV, killsSs_img K l]
  | .wrap k v => by simp only [killsS, SV.toAV, killsV, killsS_img K v]
  | .d x => by simp only [killsS, SV.toAV, killsV]
  | .i k x => by simp only [killsS, SV.toAV, killsV]
  | .b x => by simp only [killsS, SV.toAV, killsV]
  | .s x => by simp only [killsS, SV.toAV, killsV]
  | .ints k xs c => by simp only [killsS, SV.toAV, killsV]
  | .row e xs c => by simp only [killsS, SV.toAV, killsV]
  | .eaddr v => by simp only [killsS, SV.toAV]; split <;> simp only [killsV]
  | .bot => by simp only [killsS, SV.toAV, killsV]
theorem killsSs_img (K : List Nat) : ∀ l : List SV, SV.toAVs (killsSs K l) = killsVs K (SV.toAVs l)
  | [] => rfl
  | v :: l => by simp only [killsSs, SV.toAVs, killsVs, killsS_img K v, killsSs_img K l]
end
mutual
def renS (f : Nat → Option Nat) : SV → SV
  | .ptr κ off => match f κ with | some j => .ptr j off | none => .bot
  | .own κ => match f κ with | some j => .own j | none => .bot
  | .pel κ z n => match f κ with | some j => .pel j z n | none => .bot
  | .agg l => .agg (renSs f l)
  | .tup l => .tup (renSs f l)
  | .clos g l => .clos g (renSs f l)
  | .wrap k v => .wrap k (renS f v)
  | .d x => .d x
  | .i k x => .i k x
  | .b x => .b x
  | .s x => .s x
  | .ints k xs c => .ints k xs c
  | .row e xs c => .row e xs c
  | .eaddr v => .eaddr v
  | .bot => .bot
termination_by structural v => v
def renSs (f : Nat → Option Nat) : List SV → List SV
  | [] => []
  | v :: l => renS f v :: renSs f l
termination_by structural l => l
end
mutual
theorem renS_img (f : Nat → Option Nat) : ∀ v : SV, (renS f v).toAV = renV f v.toAV
  | .ptr κ off => by simp only [renS, SV.toAV, renV]; cases f κ <;> simp only [SV.toAV]
  | .own κ => by simp only [renS, SV.toAV, renV]; cases f κ <;> simp only [SV.toAV]
  | .pel κ z n => by simp only [renS, SV.toAV, renV]; cases f κ <;> simp only [SV.toAV]
  | .agg l => by simp only [renS, SV.toAV, renV, renSs_img f l]
  | .tup l => by simp only [renS, SV.toAV, renV, renSs_img f l]
  | .clos g l => by simp only [renS, SV.toAV, renV, renSs_img f l]
  | .wrap k v => by simp only [renS, SV.toAV, renV, renS_img f v]
  | .d x => by simp only [renS, SV.toAV, renV]
  | .i k x => by simp only [renS, SV.toAV, renV]
  | .b x => by simp only [renS, SV.toAV, renV]
  | .s x => by simp only [renS, SV.toAV, renV]
  | .ints k xs c => by simp only [renS, SV.toAV, renV]
  | .row e xs c => by simp only [renS, SV.toAV, renV]
  | .eaddr v => by simp only [renS, SV.toAV]; split <;> simp only [renV]
  | .bot => by simp only [renS, SV.toAV, renV]
theorem renSs_img (f : Nat → Option Nat) : ∀ l : List SV, SV.toAVs (renSs f l) = renVs f (SV.toAVs l)
  | [] => rfl
  | v :: l => by simp only [renSs, SV.toAVs, renVs, renS_img f v, renSs_img f l]
end
def killsSB (K : List Nat) : SB → SB
  | .box e cs => .box e (killsSs K cs)
  | .raw B => .raw (killsB K B)
  | B => B
theorem killsSB_img (K : List Nat) (B : SB) : (killsSB K B).toB = killsB K B.toB := by
  cases B <;> simp only [killsSB, SB.toB, killsB, killsSs_img]
def renSB (f : Nat → Option Nat) : SB → SB
  | .box e cs => .box e (renSs f cs)
  | .raw B => .raw (renB f B)
  | B => B
theorem renSB_img (f : Nat → Option Nat) (B : SB) : (renSB f B).toB = renB f B.toB := by
  cases B <;> simp only [renSB, SB.toB, renB, renSs_img]
def pickBS (f : Nat → Option Nat) (hp : List (Nat × SB)) : List Nat → Option (List SB)
  | [] => some []
  | κ :: l => match gt κ hp, pickBS f hp l with
    | some B, some r => some (renSB f B :: r)
    | _, _ => none
theorem pickBS_img {f : Nat → Option Nat} {hp : List (Nat × SB)} : ∀ {ks : List Nat} {bs : List SB}, pickBS f hp ks = some bs → pickB f (mapk SB.toB hp) ks = some (bs.map SB.toB)
  | [], bs, h => by simp only [pickBS] at h; cases h; rfl
  | κ :: l, bs, h => by
    simp only [pickBS] at h
    split at h
    · rename_i B r h1 h2
      cases h
      simp only [pickB, gt_mapk, h1, Option.map_some, pickBS_img h2, List.map_cons, renSB_img]
    · cases h
theorem delL_mapk {α β : Type} (f : α → β) : ∀ (ks : List Nat) (l : List (Nat × α)), mapk f (delL ks l) = delL ks (mapk f l)
  | [], l => rfl
  | k :: r, l => by simp only [delL, del_mapk, delL_mapk f r l]
theorem insL_mapk {α β : Type} (f : α → β) : ∀ (r l : List (Nat × α)), mapk f (insL r l) = insL (mapk f r) (mapk f l)
  | [], l => rfl
  | (k, v) :: r, l => by simp only [insL, mapk, ins_mapk, insL_mapk f r l]
def backS (g : Nat → Nat) (f : Nat → Option Nat) (i : Nat) : List SB → List (Nat × SB)
  | [] => []
  | B :: l => (g i, renSB f B) :: backS g f (i + 1) l
theorem backS_img (g : Nat → Nat) (f : Nat → Option Nat) : ∀ (l : List SB) (i : Nat), mapk SB.toB (backS g f i l) = backFrom g f i (l.map SB.toB)
  | [], i => rfl
  | B :: l, i => by simp only [backS, mapk, List.map_cons, backFrom, renSB_img, backS_img g f l (i + 1)]
def afterSS (s : SSt) (ks : List Nat) (q : Nat) (hs' : List SB) : SSt :=
  { s with tm := mapv (killsS (rowKeys s.toSt.hp ks ++ newKeys ks q hs'.length)) s.tm, hp := insL (backS (backK ks q) (backF ks q hs'.length) 0 hs') (mapv (killsSB (rowKeys s.toSt.hp ks ++ newKeys ks q hs'.length)) (delL ks s.hp)) }
theorem afterSS_img (s : SSt) (ks : List Nat) (q : Nat) (hs' : List SB) : (afterSS s ks q hs').toSt = afterS s.toSt ks q (hs'.map SB.toB) := by
  simp only [afterSS, afterS, SSt.toSt, List.length_map, insL_mapk, backS_img, mapv_mapk (killsS_img _), mapv_mapk (killsSB_img _), delL_mapk]

/-! ### Arguments -/
def nilS (P : Program) (t : TypeId) : SV :=
  match elemT P t with
  | some (e, n, _) => match intT P e with
    | some k => .ints k [] none
    | none => match shT P e with
      | some sh => if sh.size = n then .row sh [] none else .d (.sl n [] none)
      | none => .d (.sl n [] none)
  | none => .d (.v (.slice none 0 0))
theorem nilS_img (P : Program) (t : TypeId) : (nilS P t).toAV = nilA P t := by
  unfold nilS nilA
  cases elemT P t with
  | none => simp only [SV.toAV]
  | some x =>
    obtain ⟨e, n, g⟩ := x
    simp only
    cases intT P e with
    | some k => simp only [SV.toAV]
    | none =>
      simp only
      cases shT P e with
      | none => simp only [SV.toAV]
      | some sh =>
        simp only
        split
        · rename_i hn; simp only [SV.toAV, List.map_nil, hn]
        · simp only [SV.toAV]
def uncapS : SV → SV
  | .ints k xs _ => .ints k xs none
  | .row e xs _ => .row e xs none
  | .d x => .d (uncap x)
  | v => v
def argS (P : Program) (s : SSt) (ks V : List Nat) (t : TypeId) (v : SV) : SV :=
  match v with
  | .own κ => if V.contains κ then match gt κ s.hp with
      | some B => match B.data with
        | some (x, _) => uncapS x
        | none => .bot
      | none => .bot
    else renS (posOf · ks) (.own κ)
  | .d (.v (.slice none 0 0)) => nilS P t
  | .d x => .d (uncap x)
  | .ints k xs _ => .ints k xs none
  | .row e xs _ => .row e xs none
  | v => renS (posOf · ks) v
theorem data_none {B : SB} (h : B.data = none) : B.toB.data = none := by
  cases B <;> simp only [SB.data] at h
  · rfl
  · cases h
  · cases h
  · split at h
    · cases h
    · rename_i hn; exact hn
theorem uncapS_img {B : SB} {x : SV} {y : D} (h : B.data = some (x, y)) : (uncapS x).toAV = .d (uncap y) := by
  cases B <;> simp only [SB.data] at h
  · cases h
  · cases h; simp only [uncapS, SV.toAV, uncap]
  · cases h; simp only [uncapS, SV.toAV, uncap]
  · split at h
    · cases h; simp only [uncapS, SV.toAV]
    · cases h
theorem argS_img {P : Program} {s : SSt} {ks V : List Nat} {t : TypeId} (v : SV) : (argS P s ks V t v).toAV = argA P s.toSt ks V t v.toAV := by
  unfold argS
  split
  · rename_i κ
    simp only [SV.toAV, argA]
    split
    · split
      · rename_i B hB
        rw [gt_hp hB, obind_some]
        split
        · rename_i x y hd
          obtain ⟨h1, h2⟩ := SB.data_img hd
          rw [h1]; exact uncapS_img hd
        · rename_i hd
          have : B.toB.data = none := data_none hd
          rw [this]; simp only [SV.toAV]
      · rename_i hB
        have : gt κ s.toSt.hp = none := by simp only [SSt.toSt, gt_mapk, hB, Option.map_none]
        rw [this, obind_none]; simp only [SV.toAV]
    · rw [renS_img]; simp only [SV.toAV]
  · simp only [SV.toAV, argA, nilS_img]
  · rename_i x hne
    simp only [SV.toAV]
    unfold argA
    split
    · rename_i he; cases he
    · rename_i he; cases he; exact (hne rfl).elim
    · rename_i he; cases he; rfl
    · rename_i h1 h2 h3; exact absurd rfl (h3 x)
  · simp only [SV.toAV, argA, uncap]
  · simp only [SV.toAV, argA, uncap]
  · rename_i h1 h2 h3 h4 h5
    rw [renS_img]
    cases v with
    | own κ => exact absurd rfl (h1 κ)
    | d x => exact absurd rfl (h3 x)
    | ints k xs c => exact absurd rfl (h4 k xs c)
    | row e xs c => exact absurd rfl (h5 e xs c)
    | i k x => simp only [SV.toAV, argA, renV, uncap]
    | b x => simp only [SV.toAV, argA, renV, uncap]
    | s x => simp only [SV.toAV, argA, renV, uncap]
    | eaddr v => simp only [SV.toAV]; split <;> simp only [argA]
    | _ => simp only [SV.toAV, argA]
def argsS (P : Program) (s : SSt) (ks V : List Nat) : List TypeId → List SV → List SV
  | t :: ts, v :: vs => argS P s ks V t v :: argsS P s ks V ts vs
  | _, vs => renSs (posOf · ks) vs
theorem argsS_img {P : Program} {s : SSt} {ks V : List Nat} : ∀ (ts : List TypeId) (vs : List SV), SV.toAVs (argsS P s ks V ts vs) = argsA P s.toSt ks V ts (SV.toAVs vs)
  | [], vs => by simp only [argsS, argsA, renSs_img]
  | t :: ts, [] => by simp only [argsS, argsA, SV.toAVs, renSs_img]
  | t :: ts, v :: vs => by simp only [argsS, argsA, SV.toAVs, argS_img, argsS_img ts vs]

/-! ### Calls -/
/-- What a call does, then k of its result and the blocks. -/
def CallK : Type 1 := (R : Type) → FuncId → List SV → List SB → (SV → List SB → Option R) → Option R
def CallOk (P : Program) (ck : CallK) : Prop := ∀ (R : Type) (f : FuncId) (vs : List SV) (hs : List SB) (k : SV → List SB → Option R) (r : R), ck R f vs hs k = some r →
  ∃ v BS, hs.length ≤ BS.length ∧ (ACall P f (SV.toAVs vs) (hs.map SB.toB) fun r' hs' => r' = v.toAV ∧ hs' = BS.map SB.toB) ∧ k v BS = some r
open Classical in
noncomputable def run1 (f0 : FuncId) (vs0 : List AV) (hs0 : List Blk) (R : AV) (BS : List Blk) : RunF := fun f vs hs => if f = f0 ∧ vs = vs0 ∧ hs = hs0 then some (R, BS) else none
theorem run1_ok {P : Program} {f : FuncId} {vs : List AV} {hs : List Blk} {R : AV} {BS : List Blk} (hl : hs.length ≤ BS.length) (h : ACall P f vs hs fun r hs' => r = R ∧ hs' = BS) : RunOk P (run1 f vs hs R BS) := by
  intro f' vs' hs' R' BS' he
  unfold run1 at he
  split at he
  · rename_i hc
    obtain ⟨rfl, rfl, rfl⟩ := hc
    simp only [Option.some.injEq, Prod.mk.injEq] at he
    obtain ⟨rfl, rfl⟩ := he
    exact ⟨hl, h⟩
  · cases he
theorem run1_self {f : FuncId} {vs : List AV} {hs : List Blk} {R : AV} {BS : List Blk} : run1 f vs hs R BS f vs hs = some (R, BS) := by
  unfold run1; rw [if_pos ⟨rfl, rfl, rfl⟩]
/-- What comes behind a call. -/
def callN {R : Type} (s : SSt) (ks V : List Nat) (q : Nat) (dst : Option Nat) (k : SSt → Option R) (v : SV) (BS : List SB) : Option R :=
  if V.isEmpty || (flatV v.toAV && (BS.map SB.toB).all flatB) then k ((afterSS s ks q BS).put dst (renS (backF ks q BS.length) v)) else none
def callSS {R : Type} (P : Program) (ck : CallK) (s : SSt) (V : List Nat) (f : FuncId) (fn : Func) (dst : Option Nat) (vs : List SV) (k : SSt → Option R) : Option R :=
  let ks := reachK s.toSt.hp 64 (keysVs ((SV.toAVs vs).filter notOwn)) []
  let V := rmK ks V
  let q := maxK s.toSt.hp (16 + s.n)
  match pickBS (posOf · ks) s.hp ks with
  | some bs => if nodupB ks && (decide (ks.length ≤ 16) && (V.all (fun κ => (gt κ s.toSt.hp).isSome) && ks.all (fun κ => decide (κ < q)))) then
      ck R f (argsS P s ks V fn.params.toList vs) bs (callN s ks V q dst k)
    else none
  | none => none
/-- An operation, then k of the state behind it. -/
def OpOk (P : Program) (s : SSt) (o : Oper) (s' : SSt) : Prop := ∀ (ops : Array Oper) (l : List Oper) (Q : St → Prop), AWpL P ops l Q s'.toSt → AWpL P ops (o :: l) Q s.toSt
theorem callSS_sound {R : Type} {P : Program} {ck : CallK} (hck : CallOk P ck) {s : SSt} {V : List Nat} {o : Oper} {f : FuncId} {fn : Func} {vs : List SV} {k : SSt → Option R} {r : R}
    (hg : o.guard = none) (hf : IsFn P f fn) (hgo : GoesTo P s.toSt o f (SV.toAVs vs)) (hdst : s.okDst o.dst = true)
    (h : callSS P ck s V f fn o.dst vs k = some r) : ∃ s', OpOk P s o s' ∧ k s' = some r := by
  unfold callSS at h
  simp only at h
  split at h
  · rename_i bs hb
    split at h
    · rename_i hc
      obtain ⟨v, BS, hl, hcall, hk⟩ := hck _ _ _ _ _ _ h
      unfold callN at hk
      split at hk
      · rename_i hfl
        refine ⟨_, ?_, hk⟩
        intro ops l Q next
        rw [argsS_img] at hcall
        refine callS_sound (run1_ok (by simpa using hl) hcall) hg hf hgo (by rw [okDst_img]; exact hdst) (V := V) ?_ next
        have hb' : pickB (fun x => posOf x (reachK s.toSt.hp 64 (keysVs (List.filter notOwn (SV.toAVs vs))) [])) s.toSt.hp (reachK s.toSt.hp 64 (keysVs (List.filter notOwn (SV.toAVs vs))) []) = some (bs.map SB.toB) := pickBS_img hb
        have e : s.toSt.n = s.n := rfl
        unfold callS
        simp only [hb', e]
        rw [if_pos hc, run1_self]
        simp only
        rw [if_pos hfl, put_img, afterSS_img, renS_img, List.length_map]
      · cases hk
    · cases h
  · cases h
def goVS : Option SV → Option (List SV) → Option (FuncId × List SV)
  | some (.clos f caps), some vs => some (f, vs ++ caps)
  | some (.d (.v u)), some vs => match funOf u with
    | some f => some (f, vs)
    | none => none
  | _, _ => none
def goIS (P : Program) (n : String) : Option SV → Option (List SV) → Option (FuncId × List SV)
  | some (.wrap (.ifc t) v), some vs => match methA P t n with
    | some f => some (f, v :: vs)
    | none => none
  | _, _ => none
/-- Where a call goes, with which arguments. -/
def goS (P : Program) (s : SSt) (c : Call) : Option (FuncId × List SV) :=
  match c.callee with
  | .value g => goVS (s.ev g) (s.evL c.args.toList)
  | .invoke r n => goIS P n (s.ev r) (s.evL c.args.toList)
  | _ => none
theorem goS_img {P : Program} {s : SSt} {c : Call} {f : FuncId} {vs : List SV} (h : goS P s c = some (f, vs)) : goC P s.toSt c = some (f, SV.toAVs vs) := by
  unfold goS at h
  split at h
  · rename_i g hc
    unfold goVS at h
    split at h
    · rename_i f' caps vs' h1 h2
      cases h
      simp only [goC, hc, SSt.ev_img h1, evL_img h2, SV.toAV, goV, toAVs_append]
    · rename_i u vs' h1 h2
      split at h
      · rename_i f' hu; cases h; simp only [goC, hc, SSt.ev_img h1, evL_img h2, SV.toAV, goV, hu, omap_some]
      · cases h
    · cases h
  · rename_i x n hc
    unfold goIS at h
    split at h
    · rename_i t v vs' h1 h2
      split at h
      · rename_i f' hm; cases h; simp only [goC, hc, SSt.ev_img h1, evL_img h2, SV.toAV, goI, hm, omap_some, SV.toAVs]
      · cases h
    · cases h
  · cases h
/-- A call; own rows are handed over to be looked at where fl says so; else they are data from now on; fl (f + 1000000): so are the rows in boxes. -/
def callX1 {R : Type} (P : Program) (ck : CallK) (fl : FuncId → Bool) (s : SSt) (dst : Option Nat) (c : Call) (k : SSt → Option R) : Option R :=
  match goS P s c with
  | some (f, vs) => match P.funcs[f]? with
    | some fn => if fnOk fn && s.okDst dst then
        match (if fl (f + 1000000) then (reachK s.toSt.hp 64 (keysVs (SV.toAVs vs)) []).filter (isRowK s.toSt.hp) else keysVs ((SV.toAVs vs).filter isOwn)) with
        | [] => callSS P ck s [] f fn dst vs k
        | κ :: V => if fl f then callSS P ck s (κ :: V) f fn dst vs k else match s.freezeL (κ :: V) with
          | some s1 => match goS P s1 c with
            | some (f', vs') => if f' = f ∧ s1.okDst dst = true then callSS P ck s1 [] f fn dst vs' k else none
            | none => none
          | none => none
      else none
    | none => none
  | none => none
theorem callX1_sound {R : Type} {P : Program} {ck : CallK} (hck : CallOk P ck) {fl : FuncId → Bool} {s : SSt} {o : Oper} {c : Call} {k : SSt → Option R} {r : R}
    (hg : o.guard = none) (ho : o.op = .call c) (h : callX1 P ck fl s o.dst c k = some r) : ∃ s', OpOk P s o s' ∧ k s' = some r := by
  unfold callX1 at h
  split at h
  · rename_i f vs hgo
    split at h
    · rename_i fn hfn
      split at h
      · rename_i hk
        simp only [Bool.and_eq_true] at hk
        have hf := isFn_of hfn hk.1
        split at h
        · exact callSS_sound hck hg hf (goC_sound ho hf (goS_img hgo)) hk.2 h
        · split at h
          · exact callSS_sound hck hg hf (goC_sound ho hf (goS_img hgo)) hk.2 h
          · split at h
            · rename_i s1 hs1
              split at h
              · rename_i f' vs' hgo'
                split at h
                · rename_i hc
                  obtain ⟨rfl, hd⟩ := hc
                  obtain ⟨s', h1, h2⟩ := callSS_sound hck hg hf (goC_sound ho hf (goS_img hgo')) hd h
                  exact ⟨s', fun ops l Q next => awpl_le (freezeL_le hs1) (h1 ops l Q next), h2⟩
                · cases h
              · cases h
            · cases h
      · cases h
    · cases h
  · cases h
end Go.Proofs.Ytpdbekbobkjfgaa
