/-
  The examples of the chapter: 'lives' returns true.
-/
import Derived.Test.YtphajgehfbimnaaTog9
import Derived.Deep.DeepCutAuto
namespace Go.Proofs.Ytphajgehfbimnaa
open Go.RowKit
set_option linter.unusedVariables false

theorem row_blk {w : World} {g : Nat} {l : List Int} {e : TypeId} {fr : Nat × Nat} {cs : Array Value} (h : w.heap[g]? = some (.cells cs e fr)) (hcs : cs.toList = l.map (.int .u8)) (hl : l.length ≤ 1000) : RowIs .u8 w (.slice (some ⟨g, 0, none⟩) l.length l.length) l :=
  ⟨_, _, rfl, Nat.le_refl _, by unfold maxLen; omega, by simp, by rw [← hcs]; exact cells_blk h⟩
theorem ll_blk {w : World} {g n : Nat} {vs : List Value} {ll : List (List Int)} {e : TypeId} {fr : Nat × Nat} {cs : Array Value} (h : w.heap[g]? = some (.cells cs e fr)) (hcs : cs.toList = vs) (hn : n = vs.length) (hl : vs.length ≤ 1000) (hr : Rows .u8 w vs ll) : LL w (some ⟨g, 0, none⟩) n n ll :=
  ⟨vs, hn, Nat.le_refl _, by unfold maxLen; omega, by simp, by rw [← hcs]; exact cells_blk h, hr⟩
theorem ll1 {w : World} {g g0 : Nat} {x : Int} {e e0 : TypeId} (h : w.heap[g]? = some (.cells #[.slice (some ⟨g0, 0, none⟩) 1 1] e (0, 0))) (h0 : w.heap[g0]? = some (.cells #[.int .u8 x] e0 (0, 0))) : LL w (some ⟨g, 0, none⟩) 1 1 [[x]] :=
  ll_blk h rfl rfl (by simp) ⟨row_blk (l := [x]) h0 rfl (by simp), trivial⟩
theorem ll2 {w : World} {g g0 g1 : Nat} {x y : Int} {e e0 : TypeId} (h : w.heap[g]? = some (.cells #[.slice (some ⟨g0, 0, none⟩) 1 1, .slice (some ⟨g1, 0, none⟩) 1 1] e (0, 0))) (h0 : w.heap[g0]? = some (.cells #[.int .u8 x] e0 (0, 0))) (h1 : w.heap[g1]? = some (.cells #[.int .u8 y] e0 (0, 0))) : LL w (some ⟨g, 0, none⟩) 2 2 [[x], [y]] :=
  ll_blk h rfl rfl (by simp) ⟨row_blk (l := [x]) h0 rfl (by simp), row_blk (l := [y]) h1 rfl (by simp), trivial⟩
theorem ll3 {w : World} {g g0 g1 g2 : Nat} {x y z : Int} {e e0 : TypeId} (h : w.heap[g]? = some (.cells #[.slice (some ⟨g0, 0, none⟩) 1 1, .slice (some ⟨g1, 0, none⟩) 1 1, .slice (some ⟨g2, 0, none⟩) 1 1] e (0, 0))) (h0 : w.heap[g0]? = some (.cells #[.int .u8 x] e0 (0, 0))) (h1 : w.heap[g1]? = some (.cells #[.int .u8 y] e0 (0, 0))) (h2 : w.heap[g2]? = some (.cells #[.int .u8 z] e0 (0, 0))) : LL w (some ⟨g, 0, none⟩) 3 3 [[x], [y], [z]] :=
  ll_blk h rfl rfl (by simp) ⟨row_blk (l := [x]) h0 rfl (by simp), row_blk (l := [y]) h1 rfl (by simp), row_blk (l := [z]) h2 rfl (by simp), trivial⟩

theorem newTwo {B : Nat} {w : World} {v v' : Value} {l l' : List (List Int)} (h : NewLL B w v l) (h' : NewLL B w v' l') : ∃ B6, Hid (B6 = B) ∧ NewLL B6 w v l ∧ NewLL B6 w v' l' := ⟨B, Lib.hid rfl, h, h'⟩
theorem ltrule {a b : Nat} (h : a ≤ b) : ∀ x, x < a → x < b := fun x h' => Nat.lt_of_lt_of_le h' h
theorem ltrule1 {a b : Nat} (h : a ≤ b) : ∀ x, x < a → x < b + 1 := fun x h' => by omega
theorem ltrule2 {a b : Nat} (h : a ≤ b) : ∀ x, x < a → x < b + 1 + 1 := fun x h' => by omega
theorem ltrule3 {a b : Nat} (h : a ≤ b) : ∀ x, x < a → x < b + 1 + 1 + 1 := fun x h' => by omega
/-- A new variable that holds a sender or a receiver without packets. -/
def Boxed (w : World) (b : Nat) : Prop := w.heap[b]? = some (.cells #[.bool false, .slice none 0 0] 55) ∨ w.heap[b]? = some (.cells #[.bool false, .slice none 0 0] 57)
theorem Boxed.below {w w' : World} {b : Nat} (h : Boxed w b) (hb : Below w.heap.size w w') : Boxed w' b := h.imp (kb hb) (kb hb)
theorem Boxed.facts {w : World} {b : Nat} (h : Boxed w b) : w.cell? ⟨b, 0, none⟩ = some (.bool false) ∧ w.cell? ⟨b, 1, none⟩ = some (.slice none 0 0) ∧ w.frozen? ⟨b, 0, none⟩ = false ∧ w.frozen? ⟨b, 1, none⟩ = false ∧ b < w.heap.size := by
  rcases h with h | h <;> obtain ⟨h0, h1, hf, hl⟩ := blk2 h <;> exact ⟨h0, h1, hf 0, hf 1, hl⟩

/-- Between the examples: the sender s (block g1), a (g3) and b (g4) and what they hold. -/
def LS (w1 : World) (a1 : Option Addr) (c1 g3 g4 : Nat) (sa sb : Bool) (la lb : List (List Int)) (wx : World) : Prop :=
  ∃ (x y : Option Addr) (c c' : Nat), (wx.cell? ⟨g3, 0, none⟩ = some (.bool sa) ∧ wx.cell? ⟨g3, 1, none⟩ = some (.slice x la.length c) ∧ wx.cell? ⟨g4, 0, none⟩ = some (.bool sb) ∧ wx.cell? ⟨g4, 1, none⟩ = some (.slice y lb.length c') ∧ wx.cell? ⟨w1.heap.size, 0, none⟩ = some (.bool false) ∧ wx.cell? ⟨w1.heap.size, 1, none⟩ = some (.slice a1 3 c1)) ∧
    (wx.frozen? ⟨g3, 0, none⟩ = false ∧ wx.frozen? ⟨g3, 1, none⟩ = false ∧ wx.frozen? ⟨g4, 0, none⟩ = false ∧ wx.frozen? ⟨g4, 1, none⟩ = false) ∧
    LL wx x la.length c la ∧ LL wx y lb.length c' lb ∧ Below w1.heap.size w1 wx

theorem LS.below {w1 wx w' : World} {a1 : Option Addr} {c1 g3 g4 : Nat} {sa sb : Bool} {la lb : List (List Int)} (h : LS w1 a1 c1 g3 g4 sa sb la lb wx) (hb : Below wx.heap.size wx w') : LS w1 a1 c1 g3 g4 sa sb la lb w' := by
  obtain ⟨x, y, c, c', ⟨p0, p1, q0, q1, s0, s1⟩, ⟨f0, f1, k0, k1⟩, l1, l2, hB⟩ := h
  exact ⟨x, y, c, c', ⟨kc hb p0, kc hb p1, kc hb q0, kc hb q1, kc hb s0, kc hb s1⟩, ⟨kf hb p0 f0, kf hb p1 f1, kf hb q0 k0, kf hb q1 k1⟩, l1.below hb, l2.below hb, hB.trans (hb.mono hB.size)⟩

theorem LS.set {B : Nat} {w1 w6 : World} {a1 : Option Addr} {c1 g3 g4 n m cx cy : Nat} {x y : Option Addr} {sa sb sa' sb' : Bool} {la lb la' lb' : List (List Int)} (h : LS w1 a1 c1 g3 g4 sa sb la lb w6) (hx : NewLL B w6 (.slice x n cx) la') (hy : NewLL B w6 (.slice y m cy) lb') (h3 : g3 < B) (h4 : g4 < B) (h34 : g3 ≠ g4) (h13 : w1.heap.size < g3) (h14 : w1.heap.size < g4) :
    LS w1 a1 c1 g3 g4 sa' sb' la' lb' ((((w6.setCell ⟨g3, 0, none⟩ (.bool sa')).setCell ⟨g3, 1, none⟩ (.slice x n cx)).setCell ⟨g4, 0, none⟩ (.bool sb')).setCell ⟨g4, 1, none⟩ (.slice y m cy)) := by
  obtain ⟨x0, y0, c, c', ⟨p0, p1, q0, q1, s0, s1⟩, ⟨pf0, pf1, qf0, qf1⟩, -, -, hB⟩ := h
  have e1 := hx.ll.len
  have e2 := hy.ll.len
  subst e1 e2
  have n13 : w1.heap.size ≠ g3 := by omega
  have n14 : w1.heap.size ≠ g4 := by omega
  have g43 : g4 ≠ g3 := fun e => h34 e.symm
  refine ⟨x, y, cx, cy, ⟨?_, ?_, ?_, ?_, ?_, ?_⟩, ⟨?_, ?_, ?_, ?_⟩, ?_, ?_, ?_⟩
  · go_simp
  · go_simp
  · go_simp
  · go_simp
  · go_simp
  · go_simp
  · go_simp
  · go_simp
  · go_simp
  · go_simp
  · exact ((((hx.setBelow (a := ⟨g3, 0, none⟩) h3 _).setBelow (a := ⟨g3, 1, none⟩) h3 _).setBelow (a := ⟨g4, 0, none⟩) h4 _).setBelow (a := ⟨g4, 1, none⟩) h4 _).ll
  · exact ((((hy.setBelow (a := ⟨g3, 0, none⟩) h3 _).setBelow (a := ⟨g3, 1, none⟩) h3 _).setBelow (a := ⟨g4, 0, none⟩) h4 _).setBelow (a := ⟨g4, 1, none⟩) h4 _).ll
  · exact (((hB.setCell (Nat.le_of_lt h13) _).setCell (Nat.le_of_lt h13) _).setCell (Nat.le_of_lt h14) _).setCell (Nat.le_of_lt h14) _

set_option maxRecDepth 100000 in
set_option maxHeartbeats 40000000 in
theorem lives_ok (w : World) : Calls Try.prog 31 #[] w fun e w' => e = .returned (.bool true) ∧ Below w.heap.size w w' := by
  go_enter Try.func31, Try.ntmps31
  go_wp2_with (go_at_call 32; refine (newLL _ 3 3 _ [[1], [2], [3]] (ll3 (g0 := w.heap.size) (g1 := w.heap.size + 1) (g2 := w.heap.size + 1 + 1) (x := 1) (y := 2) (z := 3) (by first | (refine blk_new' ?_; simp; done) | (refine blk_old ?_; first | (refine blk_new' ?_; simp; done) | (refine blk_old ?_; first | (refine blk_new' ?_; simp; done) | (refine blk_old ?_; first | (refine blk_new' ?_; simp; done) | (refine blk_old ?_; (refine blk_new' ?_; simp; done)))))) (by first | (refine blk_new' ?_; simp; done) | (refine blk_old ?_; first | (refine blk_new' ?_; simp; done) | (refine blk_old ?_; first | (refine blk_new' ?_; simp; done) | (refine blk_old ?_; first | (refine blk_new' ?_; simp; done) | (refine blk_old ?_; (refine blk_new' ?_; simp; done)))))) (by first | (refine blk_new' ?_; simp; done) | (refine blk_old ?_; first | (refine blk_new' ?_; simp; done) | (refine blk_old ?_; first | (refine blk_new' ?_; simp; done) | (refine blk_old ?_; first | (refine blk_new' ?_; simp; done) | (refine blk_old ?_; (refine blk_new' ?_; simp; done)))))) (by first | (refine blk_new' ?_; simp; done) | (refine blk_old ?_; first | (refine blk_new' ?_; simp; done) | (refine blk_old ?_; first | (refine blk_new' ?_; simp; done) | (refine blk_old ?_; first | (refine blk_new' ?_; simp; done) | (refine blk_old ?_; (refine blk_new' ?_; simp; done))))))) (by simp) (by simp)).mono ?_; rintro e w1 ⟨a1, c1, rfl, N1, hb1⟩; have hB1 : Below w.heap.size w w1 := Below.trans (by go_grown) (hb1.mono (by go_size)))
  have N1' := Lib.hid N1.ll; clear N1 hb1
  go_upto_region 2 with fail
  go_cut [3, 4] (fun s3 s4 wx => ∃ (g3 g4 : Nat), s3 = .pointer (some ⟨g3, 0, none⟩) ∧ s4 = .pointer (some ⟨g4, 0, none⟩) ∧ (g3 ≠ g4 ∧ w1.heap.size < g3 ∧ w1.heap.size < g4) ∧ LS w1 a1 c1 g3 g4 false false [[3]] [[1], [2]] wx)
  case first => --LONG
    have A2 : ∀ n : Nat, n < n + 1 + 1 := fun n => by omega
    have A3 : ∀ n : Nat, n < n + 1 + 1 + 1 := fun n => by omega
    have A4 : ∀ n : Nat, n < n + 1 + 1 + 1 + 1 := fun n => by omega
    have A5 : ∀ n : Nat, n < n + 1 + 1 + 1 + 1 + 1 := fun n => by omega
    go_region_held3 (fun w' => w'.cell? ⟨w1.heap.size, 0, none⟩ = some (.bool false) ∧ w'.cell? ⟨w1.heap.size, 1, none⟩ = some (.slice a1 3 c1))
      (first | assumption | ((repeat' apply And.intro) <;> first | assumption | go_cell_look | (go_simp; done)) | go_keep)
      (first
        | (go_at_call 29; refine (exchanges_ok _ [0, 2, 1, 0] _ _ (cells_blk (cs := #[.int .u8 0, .int .u8 2, .int .u8 1, .int .u8 0]) (by first | (refine blk_new' ?_; simp; done) | (refine blk_old ?_; first | (refine blk_new' ?_; simp; done) | (refine blk_old ?_; first | (refine blk_new' ?_; simp; done) | (refine blk_old ?_; first | (refine blk_new' ?_; simp; done) | (refine blk_old ?_; (refine blk_new' ?_; simp; done))))))) (by simp) (by simp)).mono ?_; rintro e w5 ⟨v5, rfl, O5, hb5⟩; obtain ⟨a5, c5, rfl, hC5, -⟩ := own_val O5; have hB5 : Below w1.heap.size w1 w5 := Below.trans (by go_grown) (hb5.mono (by go_size)); have C5 := Lib.hid hC5; have hz5 := hb5.size; have L5 := ltrule hz5; have L5' := ltrule1 hz5; have L5s := ltrule2 hz5; have L5t := ltrule3 hz5; simp only [World.size_drew, World.size_alloc] at hz5; have T5 : w1.heap.size < w5.heap.size := (by omega); have T5' : w1.heap.size < w5.heap.size + 1 := (by omega); have T5s : w1.heap.size < w5.heap.size + 1 + 1 := (by omega); obtain ⟨hc5, hf5⟩ := bcell hb5)
        | (go_at_call 28; refine (runLL false false a1 none a5 3 0 c1 0 c5 _ [[1], [2], [3]] [] (exOf [0, 2, 1, 0]) (N1'.out.below (Below.trans hB5 (by go_grown))) (LL.nil _) (C5.out.below (by go_grown)) (by simp) (by simp) (by decide) (by simp) (by simp) false false [[3]] [[1], [2]] (by decide)).mono ?_; rintro e w6 ⟨x, m, c, y, m', c', rfl, n6, n6', hb6⟩; have hB6 : Below w1.heap.size w1 w6 := Below.trans (Below.trans hB5 (by go_grown)) (hb6.mono (by go_size)); obtain ⟨B6, HB6, n6, n6'⟩ := newTwo n6 n6'; have N6 := Lib.hid n6; have N6' := Lib.hid n6'; clear n6 n6'; have hz6 := hb6.size; have L6 := ltrule hz6; have L6' := ltrule1 hz6; have L6s := ltrule2 hz6; have L6t := ltrule3 hz6; have hw56 : w5.heap.size ≤ w6.heap.size := Nat.le_trans (by go_size) hb6.size; have M6 := fun x h => ltrule hw56 x (L5 x h); have M6' := fun x h => ltrule1 hw56 x (L5 x h); have M6s := fun x h => ltrule2 hw56 x (L5 x h); have T6 : w1.heap.size < w6.heap.size := (by omega); have T6' : w1.heap.size < w6.heap.size + 1 := (by omega); have T6s : w1.heap.size < w6.heap.size + 1 + 1 := (by omega); have hB56 : Below w5.heap.size w5 w6 := Below.trans (by go_grown) (hb6.mono (by go_size)); obtain ⟨hc65, hf65⟩ := bcell (hb5.trans (hB56.mono hb5.size)); obtain ⟨hc6, hf6⟩ := bcell hb6))
    all_goals
      go_wp2_with fail
      go_meet
      have e3 : m = 1 := N6.out.ll.len
      have e4 : m' = 2 := N6'.out.ll.len
      subst e3 e4
      refine ⟨_, _, rfl, rfl, ⟨?_, ?_, ?_⟩, x, y, c, c', ⟨?_, ?_, ?_, ?_, ?_, ?_⟩, ⟨?_, ?_, ?_, ?_⟩, LL.ofNew ?_, LL.ofNew ?_, ?_⟩
      all_goals first
        | go_cell
        | (go_simp; done)
        | omega
        | (simp; omega)
        | (simp only [World.size_alloc, World.size_drew, World.size_setCell] at hz6; omega)
        | (refine ⟨B6, ?_⟩; (repeat (first | with_reducible exact N6.out | with_reducible exact N6'.out | with_reducible refine NewLL.alloc ?_ _ | with_reducible refine NewLL.drew ?_ | with_reducible refine NewLL.setBelow ?_ ?_ _)); all_goals (first | exact N6.out | exact N6'.out | skip); all_goals (rw [HB6.out]; first | (simp only [World.size_alloc, World.size_drew, World.size_setCell]; omega) | (go_simp; done) | (simp; done) | (simp; omega)))
        | (go_grown; done)
  case rest =>
    obtain ⟨g3, g4, rfl, rfl, ⟨h34, h13, h14⟩, hS⟩ := hcut
    have g43 : g4 ≠ g3 := fun h => h34 h.symm
    have HS := Lib.hid hS
    obtain ⟨x, y, c, c', ⟨p0, p1, q0, q1, s0, s1⟩, ⟨pf0, pf1, qf0, qf1⟩, N3, N4, hB⟩ := hS
    simp only [List.length_cons, List.length_nil, Nat.zero_add, Nat.reduceAdd] at p1 q1 N3 N4
    replace N3 := Lib.hid N3
    replace N4 := Lib.hid N4
    go_upto_region 5 with (first
      | (go_at_call_of 30 (Value.slice x 1 c); refine (listsLL x _ 1 1 c 1 [[3]] _ (N3.out.below (by go_grown)) (ll1 (g0 := _) (x := 3) (by first | (refine blk_new' ?_; simp; done) | (refine blk_old ?_; first | (refine blk_new' ?_; simp; done) | (refine blk_old ?_; first | (refine blk_new' ?_; simp; done) | (refine blk_old ?_; first | (refine blk_new' ?_; simp; done) | (refine blk_old ?_; (refine blk_new' ?_; simp; done)))))) (by first | (refine blk_new' ?_; simp; done) | (refine blk_old ?_; first | (refine blk_new' ?_; simp; done) | (refine blk_old ?_; first | (refine blk_new' ?_; simp; done) | (refine blk_old ?_; first | (refine blk_new' ?_; simp; done) | (refine blk_old ?_; (refine blk_new' ?_; simp; done))))))) (by simp)).mono ?_; rintro e w7 ⟨rfl, hb7⟩; have hB7 : Below wc.heap.size wc w7 := Below.trans (by go_grown) (hb7.mono (by go_size)); have q1' := kc hB7 q1; have z7 : wc.heap.size ≤ w7.heap.size := hB7.size)
      | (go_at_call_of 30 (Value.slice y 2 c'); refine (listsLL y _ 2 2 c' 2 [[1], [2]] _ (N4.out.below (Below.trans hB7 (by go_grown))) (ll2 (g0 := _) (g1 := _) (x := 1) (y := 2) (by first | (refine blk_new' ?_; simp; done) | (refine blk_old ?_; first | (refine blk_new' ?_; simp; done) | (refine blk_old ?_; first | (refine blk_new' ?_; simp; done) | (refine blk_old ?_; first | (refine blk_new' ?_; simp; done) | (refine blk_old ?_; (refine blk_new' ?_; simp; done)))))) (by first | (refine blk_new' ?_; simp; done) | (refine blk_old ?_; first | (refine blk_new' ?_; simp; done) | (refine blk_old ?_; first | (refine blk_new' ?_; simp; done) | (refine blk_old ?_; first | (refine blk_new' ?_; simp; done) | (refine blk_old ?_; (refine blk_new' ?_; simp; done)))))) (by first | (refine blk_new' ?_; simp; done) | (refine blk_old ?_; first | (refine blk_new' ?_; simp; done) | (refine blk_old ?_; first | (refine blk_new' ?_; simp; done) | (refine blk_old ?_; first | (refine blk_new' ?_; simp; done) | (refine blk_old ?_; (refine blk_new' ?_; simp; done))))))) (by simp)).mono ?_; rintro e w8 ⟨rfl, hb8⟩; have hB8 : Below wc.heap.size wc w8 := Below.trans (Below.trans hB7 (by go_grown)) (hb8.mono (by go_size)); have p0' := kc hB8 p0; have q0' := kc hB8 q0))
    have HS8 := Lib.hid (HS.out.below hB8)
    clear HS p0 p1 q0 q1 s0 s1 pf0 pf1 qf0 qf1 N3 N4 hB q1' p0' q0' hb7 hb8 hB7 hB8
    go_cut [] (fun wx => LS w1 a1 c1 g3 g4 false true [[1], [2], [3]] [[1]] wx)
    case first =>
      have hS := HS8.out
      clear HS8
      have n13 : w1.heap.size ≠ g3 := by omega
      have n31 : g3 ≠ w1.heap.size := by omega
      have n14 : w1.heap.size ≠ g4 := by omega
      have n41 : g4 ≠ w1.heap.size := by omega
      have HS8 := Lib.hid hS
      obtain ⟨x, y, c, c', ⟨p0, p1, q0, q1, s0, s1⟩, ⟨pf0, pf1, qf0, qf1⟩, N3, N4, hB⟩ := hS
      have N1 := Lib.hid (N1'.out.below hB)
      have z8 : w1.heap.size ≤ w8.heap.size := hB.size
      have l3 := cell_lt p0
      have l4 := cell_lt q0
      clear N3 N4 hB pf0 pf1 qf0 qf1 p0 p1 q0 q1
      go_region_held3 (fun w' => w'.cell? ⟨w1.heap.size, 0, none⟩ = some (.bool false) ∧ w'.cell? ⟨w1.heap.size, 1, none⟩ = some (.slice a1 3 c1))
        (first | (with_reducible assumption) | ((repeat' apply And.intro) <;> first | (with_reducible assumption) | (go_simp; done) | go_cell_look) | go_keep)
        (first
          | (go_at_call 29; refine (exchanges_ok _ [2] _ _ (cells_blk (cs := #[.int .u8 2]) (by first | (refine blk_new' ?_; simp; done) | (refine blk_old ?_; first | (refine blk_new' ?_; simp; done) | (refine blk_old ?_; first | (refine blk_new' ?_; simp; done) | (refine blk_old ?_; first | (refine blk_new' ?_; simp; done) | (refine blk_old ?_; (refine blk_new' ?_; simp; done))))))) (by simp) (by simp)).mono ?_; rintro e w5 ⟨v5, rfl, O5, hb5⟩; obtain ⟨a5, c5, rfl, hC5, -⟩ := own_val O5; have hB5 : Below w8.heap.size w8 w5 := Below.trans (by go_grown) (hb5.mono (by go_size)); have z5 : w8.heap.size ≤ w5.heap.size := hB5.size; have C5 := Lib.hid hC5; clear hC5 O5 hb5; have s50 := kc hB5 s0; have s51 := kc hB5 s1)
          | (go_at_call 28; refine (runLL false false a1 none a5 3 0 c1 0 c5 _ [[1], [2], [3]] [] (exOf [2]) (N1.out.below (Below.trans hB5 (by go_grown))) (LL.nil _) (C5.out.below (by go_grown)) (by simp) (by simp) (by decide) (by simp) (by simp) false true [[1], [2], [3]] [[1]] (by decide)).mono ?_; rintro e w6 ⟨x', m, cx, y', m', cy, rfl, n6, n6', hb6⟩; have hB6 : Below w8.heap.size w8 w6 := Below.trans (Below.trans hB5 (by go_grown)) (hb6.mono (by go_size)); have N6 := Lib.hid n6; have N6' := Lib.hid n6'; have hS6 := HS8.out.below hB6; have HS6 := Lib.hid hS6; obtain ⟨x2, y2, c2, c2', ⟨t0, t1, t2, t3, t4, t5⟩, ⟨t6, t7, t8, t9⟩, -, -, -⟩ := hS6; clear n6 n6' hb6))
      all_goals
        go_wp2_with fail
        go_meet
        exact LS.set (B := w5.heap.size) HS6.out N6.out N6'.out (by omega) (by omega) h34 h13 h14
    case rest =>
      have HS9 := Lib.hid hcut
      clear hcut HS8
      go_upto_region 6 with fail
      go_cut [] (fun wx => LS w1 a1 c1 g3 g4 false false [[1], [2], [3]] [[1]] wx)
      case first =>
        have hS := HS9.out
        have n13 : w1.heap.size ≠ g3 := by omega
        have n31 : g3 ≠ w1.heap.size := by omega
        have n14 : w1.heap.size ≠ g4 := by omega
        have n41 : g4 ≠ w1.heap.size := by omega
        obtain ⟨x, y, c, c', ⟨p0, p1, q0, q1, s0, s1⟩, ⟨pf0, pf1, qf0, qf1⟩, N3, N4, hB⟩ := hS
        have l3 := cell_lt p0
        have l4 := cell_lt q0
        replace N3 := Lib.hid N3
        replace N4 := Lib.hid N4
        go_wp2_with (go_at_call 33; refine (clearLL _ _ _ _ _ _ _ _ _ [[1], [2], [3]] [[1]] N3.out N4.out (by simp) (by simp) (by simp) (by simp)).mono ?_; rintro e w6 ⟨x', cx, y', cy, rfl, n6, n6', hb6⟩; have N6 := Lib.hid n6; have N6' := Lib.hid n6'; have hS6 := HS9.out.below hb6; have HS6 := Lib.hid hS6; obtain ⟨x2, y2, c2, c2', ⟨t0, t1, t2, t3, t4, t5⟩, ⟨t6, t7, t8, t9⟩, -, -, -⟩ := hS6; clear n6 n6' hb6)
        go_meet
        exact LS.set (B := wc.heap.size) HS6.out N6.out N6'.out l3 l4 h34 h13 h14
      case rest =>
        have HS10 := Lib.hid hcut
        clear hcut HS9
        go_upto_region 7 with fail
        go_cut [] (fun wx => LS w1 a1 c1 g3 g4 true true [[2], [3]] [[1], [1]] wx)
        case first =>
          have hS := HS10.out
          have n13 : w1.heap.size ≠ g3 := by omega
          have n31 : g3 ≠ w1.heap.size := by omega
          have n14 : w1.heap.size ≠ g4 := by omega
          have n41 : g4 ≠ w1.heap.size := by omega
          obtain ⟨x, y, c, c', ⟨p0, p1, q0, q1, s0, s1⟩, ⟨pf0, pf1, qf0, qf1⟩, N3, N4, hB⟩ := hS
          have l3 := cell_lt p0
          have l4 := cell_lt q0
          replace N3 := Lib.hid N3
          replace N4 := Lib.hid N4
          go_wp2_with (go_at_call 28; refine (runLL _ _ _ _ _ _ _ _ _ _ _ [[1], [2], [3]] [[1]] [(false, false)] (N3.out.below (by go_grown)) (N4.out.below (by go_grown)) (cells_blk (cs := #[.bool false, .bool false]) (by first | (refine blk_new' ?_; simp; done) | (refine blk_old ?_; first | (refine blk_new' ?_; simp; done) | (refine blk_old ?_; first | (refine blk_new' ?_; simp; done) | (refine blk_old ?_; first | (refine blk_new' ?_; simp; done) | (refine blk_old ?_; (refine blk_new' ?_; simp; done))))))) (by simp) (by simp) (by decide) (by simp) (by simp) true true [[2], [3]] [[1], [1]] (by decide)).mono ?_; rintro e w6 ⟨x', m, cx, y', m', cy, rfl, n6, n6', hb6⟩; have hB6 : Below wc.heap.size wc w6 := Below.trans (by go_grown) (hb6.mono (by go_size)); have N6 := Lib.hid (n6.base (B' := wc.heap.size) (by go_size)); have N6' := Lib.hid (n6'.base (B' := wc.heap.size) (by go_size)); have hS6 := HS10.out.below hB6; have HS6 := Lib.hid hS6; obtain ⟨x2, y2, c2, c2', ⟨t0, t1, t2, t3, t4, t5⟩, ⟨t6, t7, t8, t9⟩, -, -, -⟩ := hS6; clear n6 n6' hb6)
          go_meet
          exact LS.set (B := wc.heap.size) HS6.out N6.out N6'.out l3 l4 h34 h13 h14
        case rest =>
          have HS := Lib.hid hcut
          obtain ⟨x, y, c, c', ⟨p0, p1, q0, q1, s0, s1⟩, ⟨pf0, pf1, qf0, qf1⟩, N3, N4, hB⟩ := hcut
          simp only [List.length_cons, List.length_nil, Nat.zero_add, Nat.reduceAdd] at p1 q1 N3 N4
          replace N3 := Lib.hid N3
          replace N4 := Lib.hid N4
          go_upto_region 10 with (first
            | (go_at_call_of 30 (Value.slice x 2 c); refine (listsLL x _ 2 2 c 2 [[2], [3]] _ (N3.out.below (by go_grown)) (ll2 (g0 := _) (g1 := _) (x := 2) (y := 3) (by first | (refine blk_new' ?_; simp; done) | (refine blk_old ?_; first | (refine blk_new' ?_; simp; done) | (refine blk_old ?_; first | (refine blk_new' ?_; simp; done) | (refine blk_old ?_; first | (refine blk_new' ?_; simp; done) | (refine blk_old ?_; (refine blk_new' ?_; simp; done)))))) (by first | (refine blk_new' ?_; simp; done) | (refine blk_old ?_; first | (refine blk_new' ?_; simp; done) | (refine blk_old ?_; first | (refine blk_new' ?_; simp; done) | (refine blk_old ?_; first | (refine blk_new' ?_; simp; done) | (refine blk_old ?_; (refine blk_new' ?_; simp; done)))))) (by first | (refine blk_new' ?_; simp; done) | (refine blk_old ?_; first | (refine blk_new' ?_; simp; done) | (refine blk_old ?_; first | (refine blk_new' ?_; simp; done) | (refine blk_old ?_; first | (refine blk_new' ?_; simp; done) | (refine blk_old ?_; (refine blk_new' ?_; simp; done))))))) (by simp)).mono ?_; rintro e w7 ⟨rfl, hb7⟩; have hB7 : Below wc.heap.size wc w7 := Below.trans (by go_grown) (hb7.mono (by go_size)); have q1' := kc hB7 q1; have z7 : wc.heap.size ≤ w7.heap.size := hB7.size)
            | (go_at_call_of 30 (Value.slice y 2 c'); refine (listsLL y _ 2 2 c' 2 [[1], [1]] _ (N4.out.below (Below.trans hB7 (by go_grown))) (ll2 (g0 := _) (g1 := _) (x := 1) (y := 1) (by first | (refine blk_new' ?_; simp; done) | (refine blk_old ?_; first | (refine blk_new' ?_; simp; done) | (refine blk_old ?_; first | (refine blk_new' ?_; simp; done) | (refine blk_old ?_; first | (refine blk_new' ?_; simp; done) | (refine blk_old ?_; (refine blk_new' ?_; simp; done)))))) (by first | (refine blk_new' ?_; simp; done) | (refine blk_old ?_; first | (refine blk_new' ?_; simp; done) | (refine blk_old ?_; first | (refine blk_new' ?_; simp; done) | (refine blk_old ?_; first | (refine blk_new' ?_; simp; done) | (refine blk_old ?_; (refine blk_new' ?_; simp; done)))))) (by first | (refine blk_new' ?_; simp; done) | (refine blk_old ?_; first | (refine blk_new' ?_; simp; done) | (refine blk_old ?_; first | (refine blk_new' ?_; simp; done) | (refine blk_old ?_; first | (refine blk_new' ?_; simp; done) | (refine blk_old ?_; (refine blk_new' ?_; simp; done))))))) (by simp)).mono ?_; rintro e w8 ⟨rfl, hb8⟩; have hB8 : Below wc.heap.size wc w8 := Below.trans (Below.trans hB7 (by go_grown)) (hb8.mono (by go_size)); have p0' := kc hB8 p0; have q0' := kc hB8 q0))
          have hBw : Below w.heap.size w w8 := hB1.trans ((hB.trans (hB8.mono hB.size)).mono hB1.size)
          clear HS p0 p1 q0 q1 s0 s1 pf0 pf1 qf0 qf1 N3 N4 q1' p0' q0' hb7 hb8 hB7 hB8 HS10 hB hB1 N1' h13 h14 h34 g43
          have z8w : w.heap.size ≤ w8.heap.size := hBw.size
          go_wp2_with (first
            | (at_make; go_must ((refine wpList_mkfull rfl _ _ rfl st8 rfl w8.heap.size 1025 _ _ _ _ rfl rfl rfl rfl (by omega) (by unfold maxLen; omega) (by omega) ?_); intro w9 hown9 hg9; have hb9 := grown_none hg9; have C9 := Lib.hid (own_cells hown9); have z9 : w8.heap.size ≤ w9.heap.size := hb9.size)))
          have hz9 : w.heap.size ≤ w9.heap.size := Nat.le_trans z8w z9
          refine (newBad _ 1 1 _ [List.replicate 1025 0] (ll_blk (g := w9.heap.size) (cs := #[.slice (some ⟨w8.heap.size, 0, none⟩) 1025 1025]) (vs := [.slice (some ⟨w8.heap.size, 0, none⟩) 1025 1025]) (blk_new w9 _) rfl rfl (by simp) ⟨⟨some ⟨w8.heap.size, 0, none⟩, 1025, by rw [List.length_replicate], by rw [List.length_replicate]; omega, by unfold maxLen; omega, by simp, by rw [List.map_replicate]; exact C9.out.below ((Below.refl _ w9).alloc (Nat.le_refl _) _)⟩, trivial⟩) (by simp) ⟨_, List.mem_singleton.2 rfl, by rw [List.length_replicate]; omega⟩).mono ?_
          rintro e w10 ⟨rfl, hb10⟩
          have hB10 : Below w.heap.size w w10 := Below.trans ((hBw.trans (hb9.mono z8w)).alloc hz9 _) (hb10.mono (by go_size))
          have z10 : w.heap.size ≤ w10.heap.size := hB10.size
          clear hb9 hb10 C9 hBw hown9 hg9
          go_wp2_with (first
            | (go_at_call 35; refine (acknowledge_none _ _ _ _).mono ?_; rintro e w11 ⟨rfl, hb11⟩; have hB11 : Below w.heap.size w w11 := hB10.trans (hb11.mono z10); have z11 : w.heap.size ≤ w11.heap.size := hB11.size)
            | (go_at_call 36; refine (hearLL true false none _ 0 0 1 [] [1] _ (LL.nil _) (by simp) (by simp) (row_blk (l := [1]) (cs := #[.int .u8 1]) (by first | (refine blk_new' ?_; simp; done) | (refine blk_old ?_; first | (refine blk_new' ?_; simp; done) | (refine blk_old ?_; first | (refine blk_new' ?_; simp; done) | (refine blk_old ?_; first | (refine blk_new' ?_; simp; done) | (refine blk_old ?_; (refine blk_new' ?_; simp; done)))))) rfl (by simp)) (by simp)).mono ?_; rintro e w12 ⟨x', m, cx, rfl, n6, hb12⟩; have e6 : m = 0 := n6.ll.len; subst e6; have hB12 : Below w.heap.size w w12 := Below.trans (hB11.trans (by go_grown)) (hb12.mono (by go_size))))
          go_returns
          have z12 : w.heap.size ≤ w12.heap.size := hB12.size
          exact ⟨rfl, by go_grown⟩
end Go.Proofs.Ytphajgehfbimnaa
