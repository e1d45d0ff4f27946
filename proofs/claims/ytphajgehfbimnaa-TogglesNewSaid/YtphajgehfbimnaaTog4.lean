/-
  The contract of toggles' hear where it takes the packet.
-/
import Derived.Test.YtphajgehfbimnaaTog3
namespace Go.Proofs.Ytphajgehfbimnaa
open Go.RowKit
set_option linter.unusedVariables false

/-- The packets that a receiver has: a slice that came in, cut to its length, or one of the call's own. -/
def GotIs (B : Nat) (w : World) (v : Value) (n : Nat) (xs : List Value) : Prop :=
  (∃ a, v = .slice a n n ∧ (a = none → n = 0) ∧ xs.length = n ∧ Cells w a xs) ∨ w.ownsRow B 32 1 v n xs

/-- 'append(s, x)' of one element where s is full: a new array. -/
theorem wpList_push_new {P : Program} {w : World} {ops : Array Oper} {rest : List Oper} {o : Oper} {a : Act} {Q : Exit → Act → World → Prop} {t e : TypeId} {z : Value} {bytes : Nat} {x : Value} (hgd : o.guard = none) (s y : Operand) (ho : o.op = .call { callee := .builtin .append, args := #[s, y], argTypes := #[t, t] })
    (ST : SliceTy P t e z 1 bytes) (ao : Option Addr) (n cap : Nat) (xs : List Value) (hs : a.eval s = .slice ao n cap) (hy : a.eval y = .slice (some ⟨w.heap.size, 0, none⟩) 1 1)
    (hc : Cells w ao xs) (hn : xs.length = n) (hnone : ao = none → n = 0 ∧ cap = 0) (hx : x.oneCell' = true) (hfull : cap < n + 1) (h63 : (n + 1) * bytes ≤ 140737488355328) (h64 : n + 1 ≤ maxLen)
    (h : ∀ v' w', w'.ownsRow (w.heap.size + 1) e 1 v' (n + 1) (xs ++ [x]) → (w.alloc (.cells #[x] e)).grownBy w' none → wpList P ops Q rest (a.put o.dst v') w') :
    wpList P ops Q (o :: rest) a (w.alloc (.cells #[x] e)) := by
  obtain ⟨i, hi, hz0, hz1, hz2⟩ := info_parts ST.info
  refine wpList_append_grows _ hgd s y t ho e i z 1 bytes ST.und hi hz0 hz1 hz2 ST.zs (by decide) ao n cap xs hs hnone (by omega) ?_ ⟨w.heap.size, 0, none⟩ 1 1 [x] hy rfl (cell_one_new _ _ _) (by intro u hu; simp at hu; subst hu; exact hx) hfull h64 h63 ?_
  · intro b hb j u hj
    subst hb
    obtain ⟨b', off', hh, hcc⟩ := hc (by intro e; rw [e] at hj; simp at hj)
    cases hh
    have := cell_alloc_old (ob := .cells #[x] e) (hcc j u hj)
    unfold Addr.add; split
    · rename_i h0'; subst h0'; exact this
    · exact this
  · intro v' w' h1 h2
    rw [World.size_alloc] at h1
    exact h v' w' h1 h2

set_option maxRecDepth 100000 in
set_option maxHeartbeats 1000000 in
theorem hear_own (B p n : Nat) (st rt : Bool) (sv gv : Value) (ba : Option Addr) (bn bc : Nat) (xs : List Value) (w : World) (hp : w.heap[p]? = some (.cells #[.bool st, sv, .bool rt, gv] 103)) (hown : w.ownsRow B 32 1 gv n xs)
    (hn : n ≤ 1000000) (hB : B ≤ w.heap.size) :
    Calls Try.prog 43 #[.pointer (some ⟨p, 0, none⟩), .bool rt, .slice ba bn bc] w fun e w' => e = .returned (.bool true) ∧ ∃ gv', w'.heap[p]? = some (.cells #[.bool st, sv, .bool !rt, gv'] 103) ∧
      w'.ownsRow B 32 1 gv' (n + 1) (xs ++ [.slice ba bn bc]) ∧ Fr (fun k => k = p ∨ some k = gv.ownBlock) w w' := by
  obtain ⟨e0, e1, e2, e3, ff, hlt⟩ := blk4 hp
  have hsep : some p ≠ gv.ownBlock := by
    intro e
    rcases hown.2 with ⟨rfl, _⟩ | ⟨g, _, _, rfl, _, h1, _⟩
    · simp [Value.ownBlock] at e
    · simp only [Value.ownBlock, Option.some.injEq] at e
      subst e
      rw [hp] at h1; simp at h1
  have hown0 := hown
  obtain ⟨ga, gc, rfl, -, -, -⟩ := own_view hown0
  clear hown0
  cases rt
  all_goals
    go_enter Try.func43, Try.ntmps43
    go_wp2_with (at_builtin; refine wpList_push rfl _ _ rfl st88 B _ n xs rfl rfl hown rfl (by omega) (by unfold maxLen; omega) hB ?_; intro v5 w5 hown5 hg5; have hown5' := hown5; obtain ⟨a5, c5, rfl, -, -, -⟩ := own_view hown5'; have KP := (Fr.ofGrown (S := fun k => some k = (Value.slice ga n gc).ownBlock) hg5 (fun k e => e.symm)).kb (blk_old hp) hsep; obtain ⟨p0, p1, p2, p3, pf, pl⟩ := blk4 KP)
    go_returns
    refine ⟨rfl, .slice a5 (n + 1) c5, ?_, ?_, ?_⟩
    · simpa using blk_set (o := 2) (blk_set (o := 3) KP (.slice a5 (n + 1) c5)) _
    · exact own_setBlk (own_setBlk hown5 KP (by decide) _) (blk_set KP _) (by decide) _
    · refine Fr.trans (Fr.trans (Fr.trans (Fr.alloc _ w _) (Fr.ofGrown hg5 (fun k e => .inr e.symm))) (Fr.setCell w5 _ _ (.inl rfl))) (Fr.setCell _ _ _ (.inl rfl))

set_option maxRecDepth 100000 in
set_option maxHeartbeats 1000000 in
theorem hear_new (B p n : Nat) (st rt : Bool) (sv : Value) (ga : Option Addr) (ba : Option Addr) (bn bc : Nat) (xs : List Value) (w : World) (hp : w.heap[p]? = some (.cells #[.bool st, sv, .bool rt, .slice ga n n] 103)) (hc : Cells w ga xs) (hxs : xs.length = n) (h0 : ga = none → n = 0)
    (hn : n ≤ 1000000) (hB : B ≤ w.heap.size) :
    Calls Try.prog 43 #[.pointer (some ⟨p, 0, none⟩), .bool rt, .slice ba bn bc] w fun e w' => e = .returned (.bool true) ∧ ∃ gv', w'.heap[p]? = some (.cells #[.bool st, sv, .bool !rt, gv'] 103) ∧
      w'.ownsRow B 32 1 gv' (n + 1) (xs ++ [.slice ba bn bc]) ∧ Fr (fun k => k = p) w w' := by
  obtain ⟨e0, e1, e2, e3, ff, hlt⟩ := blk4 hp
  have Hxs := Lib.hid hxs; clear hxs
  have H0 := Lib.hid h0; clear h0
  cases rt
  all_goals
    go_enter Try.func43, Try.ntmps43
    go_wp2_with (at_builtin; refine wpList_push_new rfl _ _ rfl st88 ga n n xs rfl rfl hc Hxs.out (fun h => ⟨H0.out h, H0.out h⟩) rfl (by omega) (by omega) (by unfold maxLen; omega) ?_; intro v5 w5 hown5 hg5; have hown5' := hown5; obtain ⟨a5, c5, rfl, -, -, -⟩ := own_view hown5'; have KP := (Fr.ofGrown (S := fun _ => False) hg5 (by simp)).kb (blk_old hp) (by simp); obtain ⟨p0, p1, p2, p3, pf, pl⟩ := blk4 KP)
    go_returns
    refine ⟨rfl, .slice a5 (n + 1) c5, ?_, ?_, ?_⟩
    · simpa using blk_set (o := 2) (blk_set (o := 3) KP (.slice a5 (n + 1) c5)) _
    · exact own_base (own_setBlk (own_setBlk hown5 KP (by decide) _) (blk_set KP _) (by decide) _) (by omega)
    · refine Fr.trans (Fr.trans (Fr.trans (Fr.alloc _ w _) (Fr.ofGrown hg5 (by simp))) (Fr.setCell w5 _ _ rfl)) (Fr.setCell _ _ _ rfl)
end Go.Proofs.Ytphajgehfbimnaa
