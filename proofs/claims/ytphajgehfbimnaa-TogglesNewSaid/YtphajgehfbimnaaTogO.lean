/-
  What the walks of plugboardlaw05's statements share.
-/
import Derived.Test.YtphajgehfbimnaaTog10
import Derived.Test.YtphajgehfbimnaaTogP
import Derived.Test.YtphajgehfbimnaaTogR
namespace Go.Proofs.Ytphajgehfbimnaa
open Go.RowKit
set_option linter.unusedVariables false

/-- A sender s (block g5) and a receiver r (block g7) and what they hold, in memory that has come since w0. -/
def OS (w0 : World) (g5 g7 : Nat) (sa sb : Bool) (la lb : List (List Int)) (wx : World) : Prop :=
  ∃ (x y : Option Addr) (c c' : Nat), (wx.cell? ⟨g5, 0, none⟩ = some (.bool sa) ∧ wx.cell? ⟨g5, 1, none⟩ = some (.slice x la.length c) ∧ wx.cell? ⟨g7, 0, none⟩ = some (.bool sb) ∧ wx.cell? ⟨g7, 1, none⟩ = some (.slice y lb.length c')) ∧
    (wx.frozen? ⟨g5, 0, none⟩ = false ∧ wx.frozen? ⟨g5, 1, none⟩ = false ∧ wx.frozen? ⟨g7, 0, none⟩ = false ∧ wx.frozen? ⟨g7, 1, none⟩ = false) ∧
    LL wx x la.length c la ∧ LL wx y lb.length c' lb ∧ Below w0.heap.size w0 wx

theorem OS.below {w0 wx w' : World} {g5 g7 : Nat} {sa sb : Bool} {la lb : List (List Int)} (h : OS w0 g5 g7 sa sb la lb wx) (hb : Below wx.heap.size wx w') : OS w0 g5 g7 sa sb la lb w' := by
  obtain ⟨x, y, c, c', ⟨p0, p1, q0, q1⟩, ⟨f0, f1, k0, k1⟩, l1, l2, hB⟩ := h
  exact ⟨x, y, c, c', ⟨kc hb p0, kc hb p1, kc hb q0, kc hb q1⟩, ⟨kf hb p0 f0, kf hb p1 f1, kf hb q0 k0, kf hb q1 k1⟩, l1.below hb, l2.below hb, hB.trans (hb.mono hB.size)⟩

theorem OS.set {B : Nat} {w0 w6 : World} {g5 g7 n m cx cy : Nat} {x y : Option Addr} {sa sb sa' sb' : Bool} {la lb la' lb' : List (List Int)} (h : OS w0 g5 g7 sa sb la lb w6) (hx : NewLL B w6 (.slice x n cx) la') (hy : NewLL B w6 (.slice y m cy) lb') (h3 : g5 < B) (h4 : g7 < B) (h34 : g5 ≠ g7) (h13 : w0.heap.size ≤ g5) (h14 : w0.heap.size ≤ g7) :
    OS w0 g5 g7 sa' sb' la' lb' ((((w6.setCell ⟨g5, 0, none⟩ (.bool sa')).setCell ⟨g5, 1, none⟩ (.slice x n cx)).setCell ⟨g7, 0, none⟩ (.bool sb')).setCell ⟨g7, 1, none⟩ (.slice y m cy)) := by
  obtain ⟨x0, y0, c, c', ⟨p0, p1, q0, q1⟩, ⟨pf0, pf1, qf0, qf1⟩, -, -, hB⟩ := h
  have e1 := hx.ll.len
  have e2 := hy.ll.len
  subst e1 e2
  have g43 : g7 ≠ g5 := fun e => h34 e.symm
  refine ⟨x, y, cx, cy, ⟨?_, ?_, ?_, ?_⟩, ⟨?_, ?_, ?_, ?_⟩, ?_, ?_, ?_⟩
  · go_simp
  · go_simp
  · go_simp
  · go_simp
  · go_simp
  · go_simp
  · go_simp
  · go_simp
  · exact ((((hx.setBelow (a := ⟨g5, 0, none⟩) h3 _).setBelow (a := ⟨g5, 1, none⟩) h3 _).setBelow (a := ⟨g7, 0, none⟩) h4 _).setBelow (a := ⟨g7, 1, none⟩) h4 _).ll
  · exact ((((hy.setBelow (a := ⟨g5, 0, none⟩) h3 _).setBelow (a := ⟨g5, 1, none⟩) h3 _).setBelow (a := ⟨g7, 0, none⟩) h4 _).setBelow (a := ⟨g7, 1, none⟩) h4 _).ll
  · exact (((hB.setCell h13 _).setCell h13 _).setCell h14 _).setCell h14 _

theorem exOf_len (l : List Int) : (exOf l).length = l.length := by simp [exOf]
theorem runN (st rt : Bool) (a a' ax : Option Addr) (n n' cap cap' capx nx : Nat) (w : World) (ls gs : List (List Int)) (xs : List (Bool × Bool)) (hnl : nx = xs.length) (h : LL w a n cap ls) (h' : LL w a' n' cap' gs) (hx : Cells w ax (exCells xs)) (hn : ls.length ≤ 100000) (hn' : gs.length ≤ 100000) (hnx : xs.length ≤ 100000)
    (hl : ∀ l ∈ ls, l.length ≤ 1000000) (hl' : ∀ l ∈ gs, l.length ≤ 1000000) (st' rt' : Bool) (ls' gs' : List (List Int)) (ht : trun xs (st, ls, rt, gs) = (st', ls', rt', gs')) :
    Calls Try.prog 28 #[.agg #[.bool st, .slice a n cap], .agg #[.bool rt, .slice a' n' cap'], .slice ax nx capx] w fun e w' => ∃ x c y c', e = .returned (.tuple #[.agg #[.bool st', .slice x ls'.length c], .agg #[.bool rt', .slice y gs'.length c']]) ∧
      NewLL w.heap.size w' (.slice x ls'.length c) ls' ∧ NewLL w.heap.size w' (.slice y gs'.length c') gs' ∧ Below w.heap.size w w' := by
  subst hnl
  refine (runLL st rt a a' ax n n' cap cap' capx w ls gs xs h h' hx hn hn' hnx hl hl' st' rt' ls' gs' ht).mono ?_
  rintro e w' ⟨x, m, c, y, m', c', rfl, n1, n2, hb⟩
  obtain rfl := n1.ll.len
  obtain rfl := n2.ll.len
  exact ⟨x, c, y, c', rfl, n1, n2, hb⟩

theorem smallB_true {ll : List (List Int)} {m : Int} (h : smallB ll m = true) : (ll.length : Int) ≤ m ∧ ∀ l ∈ ll, l.length ≤ 64 := by
  unfold smallB at h
  rw [Bool.and_eq_true, List.all_eq_true] at h
  exact ⟨by simpa using h.1, fun l hl => by simpa using h.2 l hl⟩

/-- The cells of n exchanges without any loss, as 'make' lays them. -/
def zeroEx (n : Nat) : Array Value := madeCells #[.bool false, .bool false] (n * 2)
theorem zeroEx_list (n : Nat) : (zeroEx n).toList = exCells (clean n) := by
  unfold zeroEx madeCells exCells clean
  rw [List.flatMap_replicate]
  apply List.ext_getElem?
  intro i
  have hrep : ∀ n : Nat, (List.replicate n [Value.bool false, Value.bool false]).flatten = List.replicate (n * 2) (Value.bool false) := by
    intro n
    induction n with
    | zero => rfl
    | succ n ih => rw [List.replicate_succ, List.flatten_cons, ih, show (n + 1) * 2 = n * 2 + 1 + 1 from by omega, List.replicate_succ, List.replicate_succ]; rfl
  rw [hrep]
  by_cases h : i < n * 2
  · have : (#[Value.bool false, Value.bool false] : Array Value)[i % 2]! = Value.bool false := by
      rcases Nat.mod_two_eq_zero_or_one i with h | h <;> rw [h] <;> rfl
    rw [List.getElem?_replicate, if_pos h]
    simp only [Array.toList_map, Array.toList_range, List.getElem?_map, List.size_toArray, List.length_cons, List.length_nil, Nat.zero_add, Nat.reduceAdd]
    rw [List.getElem?_range h, Option.map_some, this]
  · simp [List.getElem?_replicate, h]
theorem run_mkEx (n : Nat) (hn : n ≤ 1000000) (w : World) : (Instr.makeSlice 67 (.int .i64 (n : Int)) (.int .i64 (n : Int))).run Try.prog w = .ok (.slice (some ⟨w.heap.size, 0, none⟩) n n) (w.alloc (.cells (zeroEx n) 101)) := by
  obtain ⟨i, hi, hz0, hz1, hz2⟩ := info_parts stex.info
  have := run_make (P := Try.prog) w 67 101 i _ stex.und hi hz0 .i64 .i64 n n (by omega) (by omega) (by rw [hz2]; omega) (by omega)
  rw [hz1] at this
  rw [Int.toNat_natCast] at this
  exact this
theorem blk_drew {w : World} {o : Obj} {k : Nat} (h : w.heap[k]? = some o) : w.drew.heap[k]? = some o := h
theorem clean_len (n : Nat) : (clean n).length = n := by simp [clean]
theorem cells_zeroEx {w : World} {b n : Nat} {e : TypeId} {fr : Nat × Nat} (h : w.heap[b]? = some (.cells (zeroEx n) e fr)) : Cells w (some ⟨b, 0, none⟩) (exCells (clean n)) := by
  rw [← zeroEx_list]; exact cells_blk h

end Go.Proofs.Ytphajgehfbimnaa
