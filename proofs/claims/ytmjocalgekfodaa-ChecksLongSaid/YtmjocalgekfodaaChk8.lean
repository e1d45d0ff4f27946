/-
  The examples of the chapter (plugboardlaw02.lives) hold.
-/
import Derived.Test.YtmjocalgekfodaaChk7
import Derived.Lib.SlBytesConst
namespace Go.Proofs.Ytmjocalgekfodaa
open Go.RowKit
set_option linter.unusedVariables false

def strOf (l : List Nat) : ByteArray := strOfNums (l.map fun n : Nat => (n : Int))
theorem run_str8 {w : World} {a : Option Addr} {n cap : Nat} {l : List Nat} (hc : Cells w a (n8 l)) (hn : n = l.length) (h0 : a = none → cap = 0) : (convert 22 9 (.slice a n cap)).run Try.prog w = .ok (.string (strOf l)) w :=
  run_str (l := l.map fun n : Nat => (n : Int)) Try.underlying22 Try.underlying5 Try.underlying9 (by rw [List.map_map]; exact hc) (by simpa using hn) h0
theorem CheckSays.yes {w : World} {l : List Nat} {c : Nat} {e : Ending} {w' : World} (h : CheckSays w l c e w') (he : Chk.sixteen l = c) : CheckOut w l e w' := by
  unfold CheckSays at h; rwa [if_pos he] at h

set_option maxRecDepth 100000 in
theorem part_a : partV (61205 % 2 ^ 11) 11 (61205 / 2 ^ 11) = .tuple #[.int .u32 1813, .int .i64 0] := by
  unfold partV; rw [if_pos (by decide)]; rfl
set_option maxRecDepth 100000 in
theorem part_b : partV (61204 % 2 ^ 11) 11 (61204 / 2 ^ 11) = .tuple #[.int .u32 0, .int .i64 10] := by
  unfold partV; rw [if_neg (by decide)]

set_option maxRecDepth 100000 in
set_option maxHeartbeats 4000000 in
theorem lives_ok (w : World) : Calls Try.prog 14 #[] w fun e w' => e = .returned (.bool true) ∧ Below w.heap.size w w' := by
  have q1 : Chk.five 1 1 = 16 := by decide
  have q2 : Chk.five 1813 11 = 29 := by decide
  have q3 : Chk.five 0 0 = 0 := by decide
  have q4 : joined 1813 11 = 61205 := by decide
  go_enter Try.func14, Try.ntmps14
  go_wp2_with fail
  refine (Five_yes 1 1 _ (by decide) (by decide) (by decide)).mono ?_
  rw [q1]
  rintro e w1 ⟨rfl, hb1⟩
  have z1 := hb1.size
  go_wp2_with fail
  refine (Five_yes 1813 11 _ (by decide) (by decide) (by decide)).mono ?_
  rw [q2]
  rintro e w2 ⟨rfl, hb2⟩
  replace hb2 := hb1.trans (hb2.mono z1)
  replace z1 := hb2.size
  clear hb1
  go_wp2_with fail
  refine (Five_yes 0 0 _ (by decide) (by decide) (by decide)).mono ?_
  rw [q3]
  rintro e w3 ⟨rfl, hb3⟩
  replace hb3 := hb2.trans (hb3.mono z1)
  replace z1 := hb3.size
  clear hb2
  go_wp2_with fail
  refine (Five_no 2 1 _ (by decide) (by decide)).mono ?_
  rintro e w4 ⟨rfl, rfl⟩
  go_wp2_with fail
  refine (Five_no 0 25 _ (by decide) (by decide)).mono ?_
  rintro e w4 ⟨rfl, rfl⟩
  go_wp2_with fail
  refine (Join_yes 1813 11 _ (by decide) (by decide) (by decide)).mono ?_
  rw [q4]
  rintro e w5 ⟨rfl, hb5⟩
  replace hb5 := hb3.trans (hb5.mono z1)
  replace z1 := hb5.size
  clear hb3
  go_wp2_with fail
  refine (Part_ok 61205 11 _ (by decide) (by decide) (by decide)).mono ?_
  rw [part_a]
  rintro e w6 ⟨rfl, hb6⟩
  replace hb6 := hb5.trans (hb6.mono z1)
  replace z1 := hb6.size
  clear hb5
  go_wp2_with fail
  refine (Part_ok 61204 11 _ (by decide) (by decide) (by decide)).mono ?_
  rw [part_b]
  rintro e w7 ⟨rfl, hb7⟩
  replace hb7 := hb6.trans (hb7.mono z1)
  replace z1 := hb7.size
  clear hb6
  go_wp2_with fail
  refine (Part_width 3 4 _ (by decide) (by decide) (by decide)).mono ?_
  rintro e w8 ⟨rfl, rfl⟩
  go_wp2_with fail
  refine (check_ok (some ⟨w7.heap.size, 0, none⟩) [0] 64 191 3 _ (cells_new w7 #[.int .u8 0, .int .u8 64, .int .u8 191] 5) (by unfold int8s; decide) (by decide) (by decide) (by decide) (by decide) (by unfold maxLen; decide) (by simp)).mono ?_
  intro e w9 hS
  obtain ⟨a9, c9, rfl, hF9, hn9, hm9, h09, hb9⟩ := hS.yes (by decide)
  have hB9 : Below w.heap.size w w9 := Below.trans (hb7.trans (by go_grown)) (hb9.mono (by go_size))
  have z9 := hB9.size
  have C9 := Lib.hid hF9.cells
  have H09 := Lib.hid h09
  clear hS hF9 h09 hb9 hb7
  go_wp2_with fail
  refine (check_short _ 1 1 _ (by decide)).mono ?_
  rintro e w10 ⟨rfl, rfl⟩
  go_wp2_with fail
  have q5 : Chk.sixteen [] = 0 := by decide
  have q6 : Chk.sixteen [49, 50, 51, 52, 53, 54, 55, 56, 57] = 46280 := by decide
  refine (sixteen_ok none [] 0 _ (Cells.nil _ _) (by intro x hx; simp at hx) (by decide)).mono ?_
  rw [q5]
  rintro e w11 ⟨rfl, hb11⟩
  have hB11 : Below w.heap.size w w11 := Below.trans (hB9.alloc z9 _) (hb11.mono (by go_size))
  have z11 := hB11.size
  have C11 := Lib.hid ((C9.out.below ((Below.refl _ _).alloc (Nat.le_refl _) _)).below hb11)
  clear hb11 hB9
  have kc := fun (w : World) (C : Array Value) (n c : Nat) => Lib.run_convert_bytes_const (P := Try.prog) w 22 5 C n c Try.underlying22 Try.underlying5
  go_wp2_with fail
  refine (sixteen_ok (some ⟨w11.heap.size, 0, none⟩) [49, 50, 51, 52, 53, 54, 55, 56, 57] 9 _ (cells_new w11 #[.int .u8 49, .int .u8 50, .int .u8 51, .int .u8 52, .int .u8 53, .int .u8 54, .int .u8 55, .int .u8 56, .int .u8 57] 5 (9, 10)) (by unfold int8s; decide) (by decide)).mono ?_
  rw [q6]
  rintro e w12 ⟨rfl, hb12⟩
  have hB12 : Below w.heap.size w w12 := Below.trans (hB11.alloc z11 _) (hb12.mono (by go_size))
  have z12 := hB12.size
  have C12 := Lib.hid ((C11.out.below ((Below.refl _ _).alloc (Nat.le_refl _) _)).below hb12)
  clear hb12 hB11
  go_wp2_with fail
  refine (add_ok (some ⟨w12.heap.size, 0, none⟩) [0] 1 _ (cells_new w12 #[.int .u8 0] 5) (by unfold int8s; decide) (by decide) (by simp)).mono ?_
  rintro e w13 ⟨a13, c13, rfl, o13, hb13⟩
  have hB13 : Below w.heap.size w w13 := Below.trans (hB12.alloc z12 _) (hb13.mono (by go_size))
  have C13 := (C12.out.below ((Below.refl _ _).alloc (Nat.le_refl _) _)).below hb13
  have q7 : strOf ([0] ++ [Chk.sixteen [0] % 256, Chk.sixteen [0] / 256]) = ⟨#[0, 64, 191]⟩ := by decide
  have q8 : strOf [0] = ⟨#[0]⟩ := by decide
  obtain ⟨a13', c13', hv13, -, -, -, h13⟩ := own_val o13
  simp only [Value.slice.injEq, true_and] at hv13
  obtain ⟨rfl, rfl⟩ := hv13
  have s1 := run_str8 (own_cells o13) (by rfl) h13
  rw [q7] at s1
  have s2 := run_str8 C13 rfl H09.out
  rw [q8] at s2
  simp only [List.length_append, List.length_cons, List.length_nil, Nat.zero_add, Nat.reduceAdd] at s1 s2 ⊢
  clear o13 C13 q5 q6 q7 q8 h13
  go_wp2_with fail
  go_returns
  exact ⟨rfl, hB13⟩
end Go.Proofs.Ytmjocalgekfodaa

