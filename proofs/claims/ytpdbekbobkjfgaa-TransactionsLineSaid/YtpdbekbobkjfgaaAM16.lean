/-
  An abstract view of the machine, part 16: regions that draw their order.
  Conditions: none; nothing here speaks of one program.
-/
import Derived.Test.YtpdbekbobkjfgaaAM15
import Derived.Orders
namespace Go.Proofs.Ytpdbekbobkjfgaa
open Go.RowKit
set_option linter.unusedVariables false

theorem upon_q {P : Program} {o : Oper} {a : Act} {K : Act → World → Prop} {Q Q' : Exit → Act → World → Prop} (hp : ∀ c a w, Q (.panic c) a w → Q' (.panic c) a w) (hl : LetsOut Q → LetsOut Q') {r : Result Next} (h : o.upon P a K Q r) : o.upon P a K Q' r := by
  cases r with
  | ok n w' =>
    cases n <;> simp only [Oper.upon] at h ⊢ <;> first
      | exact h
      | exact Calls.mono h (fun e w'' he => by cases e <;> first | exact he | exact hp _ _ _ he | exact hl he)
  | halt x w' => cases x <;> simp only [Oper.upon] at h ⊢ <;> first | exact h | exact hp _ _ _ h

/-- One operation, out of its rule. -/
theorem awpl_one {P : Program} {ops : Array Oper} {o : Oper} {R : St → Prop} {s : St} (h : AWpL P ops [o] R s) {cx : Ctx} {m : Nat → Value} {a : Act} {w : World} (hr : SRep cx m s a w) {K : Act → World → Prop} {Q : Exit → Act → World → Prop}
    (hK : ∀ s' m' a' w', R s' → SRep cx m' s' a' w' → K a' w') : if Region.wanted o (yielded ops a.tmps) then o.wp P a w K Q ∨ (o.asks P a w ∧ LetsOut Q) else K (a.put o.dst undef) w := by
  have := h cx m a w (fun e a' w' => match e with | .normal => K a' w' | e => Q e a' w') hr (fun s' m' a' w' h1 h2 => hK s' m' a' w' h1 h2)
  unfold wpList at this
  have e0 : (wpList P ops (fun e a' w' => match e with | .normal => K a' w' | e => Q e a' w') [] : Act → World → Prop) = K := rfl
  rw [e0] at this
  have hl : LetsOut (fun e a' w' => match e with | .normal => K a' w' | e => Q e a' w') → LetsOut Q := fun ⟨a, w, h⟩ => ⟨a, w, h⟩
  split
  · rename_i hw
    rw [if_pos hw] at this
    rcases this with this | ⟨h1, h2⟩
    · exact .inl (upon_q (fun c a w h => h) hl this)
    · exact .inr ⟨h1, hl h2⟩
  · rename_i hw
    rw [if_neg hw] at this
    exact this

def setD (D : Nat → Bool) (i : Nat) : Nat → Bool := fun j => if j = i then true else D j

/-- Every edge goes back. -/
def edgesBack : Nat → List Oper → Bool
  | _, [] => true
  | i, o :: l => o.after.toList.all (fun e => !Region.binds .any e || e.on < i) && edgesBack (i + 1) l
theorem edgesBack_get {l : List Oper} : ∀ {i j : Nat} {o : Oper}, edgesBack i l = true → l[j]? = some o → ∀ e ∈ o.after, Region.binds .any e = true → e.on < i + j := by
  induction l with
  | nil => intro i j o _ hj; simp at hj
  | cons o' l ih =>
    intro i j o h hj
    rw [edgesBack, Bool.and_eq_true] at h
    cases j with
    | zero =>
      simp at hj; subst hj
      intro e he hbe
      have := List.all_eq_true.1 h.1 e (by simpa using he)
      rw [hbe] at this
      simpa using this
    | succ j =>
      intro e he hbe
      have := ih h.2 (by simpa using hj) e he hbe
      omega

def predsIn (o : Oper) (D : Nat → Bool) : Prop := ∀ e ∈ o.after, Region.binds .any e = true → D e.on = true

/-- What an operation comes behind at once. -/
def edgesOf (o : Oper) : List Nat := (o.after.toList.filter (Region.binds .any)).map (·.on)
theorem edgesOf_mem {o : Oper} {k : Nat} (h : k ∈ edgesOf o) : ∃ e ∈ o.after, Region.binds .any e = true ∧ e.on = k := by
  obtain ⟨e, he, hk⟩ := List.mem_map.1 h
  obtain ⟨h1, h2⟩ := List.mem_filter.1 he
  exact ⟨e, by simpa using h1, h2, hk⟩
/-- What the operations S come behind, of the first j. -/
def closeD (l : List Oper) : Nat → List Nat → List Nat
  | 0, S => S
  | j + 1, S => closeD l j (if S.contains j then (match l[j]? with | some o => edgesOf o ++ S | none => S) else S)
theorem closeD_all {l : List Oper} {D : Nat → Bool} (hD : ∀ (j : Nat) (o : Oper), l[j]? = some o → D j = true → predsIn o D) : ∀ (j : Nat) (S : List Nat), (∀ k, k ∈ S → D k = true) → ∀ k, k ∈ closeD l j S → D k = true
  | 0, S, h, k, hk => h k hk
  | j + 1, S, h, k, hk => by
    simp only [closeD] at hk
    refine closeD_all hD j _ ?_ k hk
    intro k' hk'
    split at hk'
    · rename_i hc
      split at hk'
      · rename_i o ho
        rcases List.mem_append.1 hk' with h1 | h1
        · obtain ⟨e, he, hbe, rfl⟩ := edgesOf_mem h1
          exact hD j o ho (h j (by simpa using hc)) e he hbe
        · exact h k' h1
      · exact h k' hk'
    · exact h k' hk'
/-- Operation number p comes behind all in front of it. -/
def headBehind (l : List Oper) (p : Nat) : Bool := match l[p]? with
  | none => true
  | some o => (List.range p).all fun k => (closeD l p (edgesOf o)).contains k
/-- Each operation comes behind the one in front of it. -/
def chainB : Nat → List Oper → Bool
  | _, [] => true
  | i, o :: l => (edgesOf o).contains (i - 1) && chainB (i + 1) l
theorem chainB_get {l : List Oper} : ∀ {i j : Nat} {o : Oper}, chainB i l = true → l[j]? = some o → i + j - 1 ∈ edgesOf o := by
  induction l with
  | nil => intro i j o _ hj; simp at hj
  | cons o' l ih =>
    intro i j o h hj
    rw [chainB, Bool.and_eq_true] at h
    cases j with
    | zero => simp at hj; subst hj; simpa using h.1
    | succ j =>
      have := ih h.2 (by simpa using hj)
      rwa [show i + 1 + j - 1 = i + (j + 1) - 1 by omega] at this
/-- From number p on the operations come one after the other, behind all the others. -/
def tailOk (p : Nat) (l : List Oper) : Bool := headBehind l p && chainB (p + 1) (l.drop (p + 1))
theorem tailOk_get {p : Nat} {l : List Oper} (h : tailOk p l = true) {i : Nat} {o : Oper} (hi : l[i]? = some o) (hp : p < i) : ∃ e ∈ o.after, Region.binds .any e = true ∧ e.on = i - 1 := by
  rw [tailOk, Bool.and_eq_true] at h
  have := chainB_get (j := i - (p + 1)) (o := o) h.2 (by rw [List.getElem?_drop, show p + 1 + (i - (p + 1)) = i by omega]; exact hi)
  rw [show p + 1 + (i - (p + 1)) - 1 = i - 1 by omega] at this
  exact edgesOf_mem this
theorem tailOk_head {p : Nat} {l : List Oper} (h : tailOk p l = true) {o : Oper} (hi : l[p]? = some o) {D : Nat → Bool} (hD : ∀ (j : Nat) (o : Oper), l[j]? = some o → D j = true → predsIn o D) (hp : predsIn o D) : ∀ k, k < p → D k = true := by
  intro k hk
  rw [tailOk, Bool.and_eq_true, headBehind, hi] at h
  have := List.all_eq_true.1 h.1 k (by simpa using hk)
  refine closeD_all hD p (edgesOf o) (fun k' hk' => ?_) k (by simpa using this)
  obtain ⟨e, he, hbe, rfl⟩ := edgesOf_mem hk'
  exact hp e he hbe

/-- From number p on: one after the other. -/
theorem wpAny_tail {P : Program} {ops : Array Oper} {K : Exit → Act → World → Prop} (hb : edgesBack 0 ops.toList = true) (p0 : Nat) (ha : tailOk p0 ops.toList = true) :
    ∀ (fuel p : Nat) (listed : Array Bool) (a : Act) (w : World), p0 ≤ p → listed.size = ops.size → (∀ i, i < ops.size → listed.getD i false = decide (i < p)) → ops.size ≤ p + fuel → p ≤ ops.size →
      wpList P ops K (ops.toList.drop p) a w → wpAny P .any ops K fuel listed a w := by
  intro fuel
  have get : ∀ (listed : Array Bool) (i : Nat), listed.size = ops.size → i < ops.size → listed.getD i true = listed.getD i false := by
    intro listed i hs hi
    rw [Array.getD_eq_getD_getElem?, Array.getD_eq_getD_getElem?]
    have : listed[i]? = some listed[i] := by simp [hs, hi]
    rw [this]; rfl
  have rdy : ∀ (listed : Array Bool) (p : Nat), p0 ≤ p → listed.size = ops.size → (∀ i, i < ops.size → listed.getD i false = decide (i < p)) → ∀ i, i ∈ Region.ready .any ops listed ↔ i = p ∧ p < ops.size := by
    intro listed p hp hs hl i
    rw [mem_ready]
    constructor
    · rintro ⟨h1, o, ho, h2⟩
      have hi : i < ops.size := (Array.getElem?_eq_some_iff.1 ho).1
      rw [get listed i hs hi, hl i hi] at h1
      have hge : p ≤ i := by simpa using h1
      rcases Nat.lt_or_ge p i with hlt | hle
      · exfalso
        obtain ⟨e, he, hbe, hon⟩ := tailOk_get ha (i := i) (o := o) (by simpa using ho) (by omega)
        have := h2 e he hbe
        rw [hon, hl (i - 1) (by omega)] at this
        simp at this; omega
      · exact ⟨by omega, by omega⟩
    · rintro ⟨rfl, hi⟩
      refine ⟨by rw [get listed i hs hi, hl i hi]; simp, ops[i], by simp [hi], fun e he hbe => ?_⟩
      have hlt := edgesBack_get hb (j := i) (o := ops[i]) (by simp [hi]) e he hbe
      rw [hl e.on (by omega)]
      simp; omega
  induction fuel with
  | zero =>
    intro p listed a w hp hs hl hf hle h
    have hpn : p = ops.size := by omega
    subst hpn
    refine ⟨?_, ?_⟩
    · apply List.eq_nil_iff_forall_not_mem.2
      intro i hi
      rw [rdy listed _ hp hs hl] at hi
      omega
    · rw [List.drop_eq_nil_of_le (by simp)] at h; exact h
  | succ fuel ih =>
    intro p listed a w hp hs hl hf hle h
    refine ⟨fun hr => ?_, fun i hi => ?_⟩
    · rcases Nat.lt_or_ge p ops.size with hlt | hge
      · have := (rdy listed p hp hs hl p).2 ⟨rfl, hlt⟩
        rw [hr] at this; cases this
      · rw [List.drop_eq_nil_of_le (by simpa using hge)] at h; exact h
    · rw [rdy listed p hp hs hl] at hi
      obtain ⟨rfl, hlt⟩ := hi
      have hd : ops.toList.drop i = ops[i] :: ops.toList.drop (i + 1) := by
        rw [List.drop_eq_getElem_cons (by simpa using hlt)]; simp
      rw [hd] at h
      unfold wpList at h
      unfold wpOp
      have ho : ops[i]? = some ops[i] := by simp [hlt]
      rw [ho]
      have next : ∀ a' w', wpList P ops K (ops.toList.drop (i + 1)) a' w' → wpAny P .any ops K fuel (listed.setIfInBounds i true) a' w' := by
        intro a' w' h'
        refine ih (i + 1) (listed.setIfInBounds i true) a' w' (by omega) (by simpa using hs) (fun k hk => ?_) (by omega) (by omega) h'
        rw [Array.getD_eq_getD_getElem?]
        by_cases e : k = i
        · subst e
          have : k < listed.size := by omega
          simp [this]
        · rw [Array.getElem?_setIfInBounds_ne (Ne.symm e), ← Array.getD_eq_getD_getElem?, hl k hk]
          have : (k < i) ↔ (k < i + 1) := by omega
          simp [this]
      simp only
      split at h
      · rename_i hw
        rw [if_pos hw]
        rcases h with h | h
        · exact .inl (Oper.wp_mono next h)
        · exact .inr h
      · rename_i hw
        rw [if_neg hw]
        exact next _ _ h

/-- A region that draws its order: I D: the view when the operations D of the first p have been carried out; the others come one after the other. -/
theorem awp_draw {P : Program} {ops : Array Oper} {rid : Nat} {Q : Exit → St → Prop} {s : St} (hm : P.follows .mixedOrders = true) (hb : edgesBack 0 ops.toList = true) (p : Nat) (hpn : p ≤ ops.size) (ha : tailOk p ops.toList = true) (I : (Nat → Bool) → St)
    (h0 : Sub (I fun _ => false) s)
    (hop : ∀ (i : Nat) (o : Oper) (D : Nat → Bool), i < p → ops[i]? = some o → D i = false → predsIn o D → (∀ (j : Nat) (oj : Oper), ops[j]? = some oj → D j = true → predsIn oj D) → AWpL P ops [o] (fun s2 => Sub (I (setD D i)) s2) (I D))
    (hend : ∀ D : Nat → Bool, (∀ i, i < p → D i = true) → AWpL P ops (ops.toList.drop p) (Q .normal) (I D)) : AWp P (.region rid ops true) Q s := by
  intro cx m a w hr
  refine wp_region_any hm ?_
  have get : ∀ (listed : Array Bool) (i : Nat), listed.size = ops.size → i < ops.size → listed.getD i true = listed.getD i false := by
    intro listed i hs hi
    rw [Array.getD_eq_getD_getElem?, Array.getD_eq_getD_getElem?]
    have : listed[i]? = some listed[i] := by simp [hs, hi]
    rw [this]; rfl
  have key : ∀ (q fuel : Nat) (listed : Array Bool) (m : Nat → Value) (a : Act) (w : World), listed.size = ops.size → (∀ (j : Nat) (oj : Oper), ops[j]? = some oj → listed.getD j false = true → predsIn oj (fun k => listed.getD k false)) →
      (∀ i, p ≤ i → i < ops.size → listed.getD i false = false) → ((List.range p).filter fun i => !listed.getD i false).length = q → fuel = q + (ops.size - p) → SRep cx m (I fun k => listed.getD k false) a w → wpAny P .any ops (fun e a' w' => ∃ s' m', Q e s' ∧ SRep cx m' s' a' w') fuel listed a w := by
    intro q
    induction q with
    | zero =>
      intro fuel listed m a w hs hdc htl hq hf hr
      have hall : ∀ i, i < p → listed.getD i false = true := by
        intro i hi
        have hnil := List.eq_nil_of_length_eq_zero hq
        cases hl : listed.getD i false with
        | true => rfl
        | false =>
          have : i ∈ (List.range p).filter fun i => !listed.getD i false := List.mem_filter.2 ⟨by simpa using hi, by rw [hl]; rfl⟩
          rw [hnil] at this; cases this
      refine wpAny_tail hb p ha fuel p listed a w (Nat.le_refl _) hs (fun i hi => ?_) (by omega) hpn (hend _ hall cx m a w _ hr (fun s' m' a' w' h1 h2 => ⟨s', m', h1, h2⟩))
      by_cases h : i < p
      · rw [hall i h]; simp [h]
      · rw [htl i (by omega) hi]; simp [h]
    | succ q ih =>
      intro fuel listed m a w hs hdc htl hq hf hr
      obtain ⟨fuel, rfl⟩ : ∃ f, fuel = f + 1 := ⟨fuel - 1, by omega⟩
      -- something of the head is not done yet: the least of it is ready
      have hex : ∃ i, i < p ∧ listed.getD i false = false := by
        cases hl : (List.range p).filter fun i => !listed.getD i false with
        | nil => rw [hl] at hq; simp at hq
        | cons i l =>
          have : i ∈ (List.range p).filter fun i => !listed.getD i false := by rw [hl]; simp
          obtain ⟨h1, h2⟩ := List.mem_filter.1 this
          exact ⟨i, by simpa using h1, by simpa using h2⟩
      have least : ∀ n i, i ≤ n → i < p → listed.getD i false = false → ∃ j, j < p ∧ listed.getD j false = false ∧ ∀ k, k < j → listed.getD k false = true := by
        intro n
        induction n with
        | zero =>
          intro i hi h1 h2
          exact ⟨i, h1, h2, fun k hk => by omega⟩
        | succ n ihn =>
          intro i hi h1 h2
          by_cases h : ∃ k, k < i ∧ listed.getD k false = false
          · obtain ⟨k, h3, h4⟩ := h
            exact ihn k (by omega) (by omega) h4
          · refine ⟨i, h1, h2, fun k hk => ?_⟩
            cases hk' : listed.getD k false with
            | true => rfl
            | false => exact absurd ⟨k, hk, hk'⟩ h
      have hready : Region.ready .any ops listed ≠ [] := by
        obtain ⟨i, h1, h2⟩ := hex
        obtain ⟨j, h3, h4, h5⟩ := least i i (Nat.le_refl _) h1 h2
        have hj : j < ops.size := by omega
        have : j ∈ Region.ready .any ops listed := by
          rw [mem_ready]
          refine ⟨by rw [get listed j hs hj]; exact h4, ops[j], by simp [hj], fun e he hbe => ?_⟩
          have hlt := edgesBack_get hb (j := j) (o := ops[j]) (by simp [hj]) e he hbe
          exact h5 e.on (by omega)
        intro e; rw [e] at this; cases this
      refine ⟨fun hrd => absurd hrd hready, fun i hi => ?_⟩
      rw [mem_ready] at hi
      obtain ⟨h1, o, ho, hp⟩ := hi
      have hlt : i < ops.size := (Array.getElem?_eq_some_iff.1 ho).1
      have hli : listed[i]? = some listed[i] := by simp [hs, hlt]
      have hDi : listed.getD i false = false := by rw [← get listed i hs hlt]; exact h1
      have hip : i < p := by
        rcases Nat.lt_or_ge i p with h | h
        · exact h
        · exfalso
          obtain ⟨k, h3, h4⟩ := hex
          rcases Nat.eq_or_lt_of_le h with e | hlt'
          · subst e
            have := tailOk_head ha (o := o) (by simpa using ho) (D := fun k => listed.getD k false) (fun j oj hj => hdc j oj (by simpa using hj)) (fun e he hbe => hp e he hbe) k h3
            rw [h4] at this; cases this
          · obtain ⟨e, he, hbe, hon⟩ := tailOk_get ha (i := i) (o := o) (by simpa using ho) hlt'
            have := hp e he hbe
            rw [hon, htl (i - 1) (by omega) (by omega)] at this; cases this
      have hset : ∀ k, (listed.setIfInBounds i true).getD k false = setD (fun k => listed.getD k false) i k := by
        intro k
        show _ = if k = i then true else listed.getD k false
        rw [Array.getD_eq_getD_getElem?]
        split
        · rename_i e; subst e
          have : k < listed.size := by omega
          simp [this]
        · rename_i e
          rw [Array.getElem?_setIfInBounds_ne (Ne.symm e), Array.getD_eq_getD_getElem?]
      have hset' : (fun k => (listed.setIfInBounds i true).getD k false) = setD (fun k => listed.getD k false) i := funext hset
      have hstep := hop i o (fun k => listed.getD k false) hip ho hDi hp hdc
      have hcount : ((List.range p).filter fun k => !(listed.setIfInBounds i true).getD k false).length = q := by
        have gen : ∀ (l : List Nat) (f g : Nat → Bool), l.Nodup → i ∈ l → f i = true → g i = false → (∀ k, k ≠ i → g k = f k) → (l.filter g).length + 1 = (l.filter f).length := by
          intro l f g
          induction l with
          | nil => intro _ h; cases h
          | cons x l ihl =>
            intro hn hmem hf hg hfg
            rw [List.nodup_cons] at hn
            by_cases e : x = i
            · subst e
              have hsame : l.filter g = l.filter f := by
                apply List.filter_congr
                intro k hk
                exact hfg k (fun e => hn.1 (e ▸ hk))
              rw [List.filter_cons_of_pos hf, List.filter_cons_of_neg (by rw [hg]; simp), hsame]; rfl
            · have hin : i ∈ l := by
                rcases List.mem_cons.1 hmem with h | h
                · exact absurd h.symm e
                · exact h
              have := ihl hn.2 hin hf hg hfg
              rw [List.filter_cons, List.filter_cons, hfg x e]
              split
              · simp only [List.length_cons]; omega
              · exact this
        have := gen (List.range p) (fun k => !listed.getD k false) (fun k => !(listed.setIfInBounds i true).getD k false) List.nodup_range (by simpa using hip) (by simp only [hDi]; rfl) (by simp only [hset, setD, if_pos]; rfl) (fun k hk => by simp only [hset, setD, if_neg hk])
        omega
      have := awpl_one hstep hr (K := wpAny P .any ops (fun e a' w' => ∃ s' m', Q e s' ∧ SRep cx m' s' a' w') fuel (listed.setIfInBounds i true)) (Q := fun e a' w' => ∃ s' m', Q e s' ∧ SRep cx m' s' a' w') (fun s' m' a' w' h2 h3 => by
        refine ih fuel (listed.setIfInBounds i true) m' a' w' (by simpa using hs) ?_ (fun k hk1 hk2 => ?_) hcount (by omega) (by rw [hset']; exact h3.sub h2)
        · intro j oj hj hjl e he hbe
          show (listed.setIfInBounds i true).getD e.on false = true
          rw [hset]
          rw [hset] at hjl
          unfold setD at hjl ⊢
          split
          · rfl
          · split at hjl
            · rename_i e1 e2
              subst e2
              rw [ho] at hj; cases hj
              exact hp e he hbe
            · exact hdc j oj hj hjl e he hbe
        · rw [hset, setD, if_neg (by omega)]; exact htl k hk1 hk2)
      unfold wpOp
      rw [ho]
      exact this
  have e : (fun k => (Array.replicate ops.size false).getD k false) = fun _ => false := by
    funext k
    rw [Array.getD_eq_getD_getElem?, Array.getElem?_replicate]
    split <;> rfl
  refine key p ops.size (Array.replicate ops.size false) m a _ (by simp) ?_ (fun i _ _ => congrFun e i) ?_ (by omega) ?_
  · intro j oj hj hl
    have this : (Array.replicate ops.size false).getD j false = false := congrFun e j
    rw [this] at hl; cases hl
  · have hall : ∀ i, (!(Array.replicate ops.size false).getD i false) = true := fun i => by
      have this : (Array.replicate ops.size false).getD i false = false := congrFun e i
      rw [this]; rfl
    rw [List.filter_eq_self.2 (fun i _ => hall i)]; simp
  · rw [e]
    exact (hr.drew _).sub h0

end Go.Proofs.Ytpdbekbobkjfgaa
