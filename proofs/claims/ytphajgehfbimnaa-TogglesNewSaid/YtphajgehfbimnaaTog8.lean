/-
  The contract of the reference's Step.
-/
import Derived.Test.YtphajgehfbimnaaTog7
import Derived.Deep.DeepCutAuto
namespace Go.Proofs.Ytphajgehfbimnaa
open Go.RowKit
set_option linter.unusedVariables false

theorem stint : SliceTy Try.prog 59 3 (.int .i64 0) 1 8 := ⟨Try.underlying59, by kernel_rfl, rfl, by decide⟩

/-- What the reference's Step does: how many are acknowledged, which ones are taken, both toggles. -/
def stepF (many lost : Int) : Int × List Int × Bool × Bool → Int × List Int × Bool × Bool
  | (k, tk, s, r) => if many ≤ k ∨ lost = 1 then (k, tk, s, r) else
    let t := if s = r then (tk ++ [k], !r) else (tk, r)
    if lost = 2 then (k, t.1, s, t.2) else (k + 1, t.1, !s, t.2)

/-- A value that reads as the reference's state. -/
def StateIs (w : World) (v : Value) (x : Int × List Int × Bool × Bool) : Prop :=
  ∃ tv, v = .agg #[.int .i64 x.1, tv, .bool x.2.2.1, .bool x.2.2.2] ∧ RowIs .i64 w tv x.2.1

theorem RowIs.own {k : IntKind} {e : TypeId} {base : Nat} {w : World} {v : Value} {l : List Int} (h : w.ownsRow base e 1 v l.length (l.map (.int k))) : RowIs k w v l := own_row h

set_option maxRecDepth 100000 in
set_option maxHeartbeats 2000000 in
theorem step_ok (x : Int × List Int × Bool × Bool) (v : Value) (many lost : Int) (w : World) (hx : StateIs w v x) (hk0 : 0 ≤ x.1) (hk : x.1 ≤ 1000000) (hn : x.2.1.length ≤ 1000000) :
    Calls Try.prog 25 #[v, .int .i64 many, .int .i64 lost] w fun e w' => ∃ v', e = .returned v' ∧ StateIs w' v' (stepF many lost x) ∧ Below w.heap.size w w' := by
  obtain ⟨tv, rfl, hr⟩ := hx
  obtain ⟨k, tk, s, r⟩ := x
  simp only at hk0 hk hn hr ⊢
  obtain ⟨ta, tc, rfl, t1, t2, t3, t4⟩ := id hr
  by_cases hstop : many ≤ k ∨ lost = 1
  · have he : stepF many lost (k, tk, s, r) = (k, tk, s, r) := by simp only [stepF]; rw [if_pos hstop]
    rw [he]
    have Hr := Lib.hid hr; clear hr he t3 t4
    by_cases hm : many ≤ k
    · have hd : decide (k ≥ many) = true := by simpa using hm
      clear hstop
      go_enter Try.func25, Try.ntmps25
      go_wp2_with fail
      refine bodyPost_ret ?_ rfl ⟨_, rfl, ⟨_, rfl, Hr.out.below (by go_grown)⟩, by go_grown⟩
      simp [results, Try.results25, go_sem]
    · have hl : lost = 1 := by omega
      subst hl
      clear hstop
      have hd : decide (k ≥ many) = false := by simpa using hm
      go_enter Try.func25, Try.ntmps25
      go_wp2_with fail
      refine bodyPost_ret ?_ rfl ⟨_, rfl, ⟨_, rfl, Hr.out.below (by go_grown)⟩, by go_grown⟩
      simp [results, Try.results25, go_sem]
  · have hm : ¬ many ≤ k := fun h => hstop (.inl h)
    have hl : lost ≠ 1 := fun h => hstop (.inr h)
    have hd : decide (k ≥ many) = false := by simpa using hm
    have hl1 : (lost == 1) = false := by simpa using hl
    clear hstop
    have Hr := Lib.hid hr; clear hr
    have T3 := Lib.hid t3
    have T4 := Lib.hid t4
    clear t3 t4
    by_cases hsr : s = r
    · subst hsr
      go_enter Try.func25, Try.ntmps25
      go_upto_region 4 with fail
      go_cut [] (fun wx => ∃ (a6 : Option Addr) (c6 : Nat), wx.heap[w.heap.size]? = some (.cells #[.int .i64 k, .slice a6 (tk.length + 1) c6, .bool s, .bool s] 61) ∧ wx.heap[w.heap.size + 1]? = some (.cells #[.int .i64 0, .slice none 0 0, .bool false, .bool false] 61) ∧ Hid (wx.ownsRow (w.heap.size + 1 + 1) 3 1 (.slice a6 (tk.length + 1) c6) (tk.length + 1) (tk.map (.int .i64) ++ [.int .i64 k])) ∧ Below w.heap.size w wx)
      case first =>
        go_region_law
          (first
            | (refine step_cat (by rfl) (.tmp 21) (.tmp 23) (by rfl) stint (w.heap.size + 1 + 1) _ 0 [] (by rfl) ?_ ta tk.length tc (tk.map (.int .i64)) (by rfl) ?_ ?_ T3.out (ints_one _ _) ?_ ?_ ?_ ?_; (refine own_empty ?_ ?_); (first | exact blk_new' (by simp) | (refine blk_old ?_; first | exact blk_new' (by simp) | (refine blk_old ?_; first | exact blk_new' (by simp) | (refine blk_old ?_; exact blk_new' (by simp))))); go_size; (simp); (exact T4.out.below (by go_grown)); (unfold maxLen; omega); omega; go_size; (intro a5 c5 w5 o5 g5 hB5 hn5 hm5; simp only [Nat.zero_add, List.nil_append] at o5 hn5; have z5 := hB5.size; simp only [World.size_drew, World.size_alloc] at z5; have KX5 : w5.heap[w.heap.size]? = some (.cells #[.int .i64 k, .slice ta tk.length tc, .bool s, .bool s] 61) := (by rw [hB5.block _ (by omega)]; first | exact blk_new' (by simp) | (refine blk_old ?_; first | exact blk_new' (by simp) | (refine blk_old ?_; first | exact blk_new' (by simp) | (refine blk_old ?_; exact blk_new' (by simp))))); have KY5 : w5.heap[w.heap.size + 1]? = some (.cells #[.int .i64 0, .slice none 0 0, .bool false, .bool false] 61) := (by rw [hB5.block _ (by omega)]; first | exact blk_new' (by simp) | (refine blk_old ?_; first | exact blk_new' (by simp) | (refine blk_old ?_; first | exact blk_new' (by simp) | (refine blk_old ?_; exact blk_new' (by simp))))); obtain ⟨u0, u1, u2, u3, uf, ul⟩ := blk4 KX5; have hBw5 : Below w.heap.size w w5 := Below.trans (by go_grown) (hB5.mono (by omega)); have KBH := Lib.hid (fun (q : Nat) (o : Obj) h1 h2 => grown_blk g5 (k := q) (o := o) h1 h2)))
            | (refine step_cat (by rfl) (.tmp 24) (.tmp 27) (by rfl) stint (w.heap.size + 1 + 1) _ tk.length _ (by rfl) (ownsRow_below o5 (by go_grown)) _ 1 1 [.int .i64 k] (by rfl) (by rfl) ?_ ?_ (by intro u hu; simp at hu; subst hu; rfl) ?_ ?_ ?_ ?_; (refine cells_blk (cs := #[.int .i64 k]) (e := 3) (fr := (0, 0)) ?_); (first | (first | exact blk_new' (by simp) | (refine blk_old ?_; first | exact blk_new' (by simp) | (refine blk_old ?_; first | exact blk_new' (by simp) | (refine blk_old ?_; exact blk_new' (by simp))))) | (refine KBH.out _ _ ?_ ?_; (first | exact blk_new' (by simp) | (refine blk_old ?_; first | exact blk_new' (by simp) | (refine blk_old ?_; first | exact blk_new' (by simp) | (refine blk_old ?_; exact blk_new' (by simp))))); (focus (intro e; first | (have e' : some (w.heap.size + 1 + 1 + 1) = some (w.heap.size + 1 + 1) := e; have e'' := Option.some.inj e'; omega) | (have e' : some (w.heap.size + 1 + 1) = some (w.heap.size + 1 + 1 + 1) := e; have e'' := Option.some.inj e'; omega))))); (simp); (unfold maxLen; omega); omega; go_size; (intro a6 c6 w6 o6 g6 hB6 hn6 hm6; have z6 := hB6.size; (try simp only [World.size_drew, World.size_alloc] at z6); have KX6 := (hB6.block w.heap.size (by omega)).trans (by first | exact KX5 | exact blk_old KX5); have KY6 := (hB6.block (w.heap.size + 1) (by omega)).trans (by first | exact KY5 | exact blk_old KY5); obtain ⟨x0, x1, x2, x3, xf, xl⟩ := blk4 KX6; obtain ⟨y0, y1, y2, y3, yf, yl⟩ := blk4 KY6; have hBw6 : Below w.heap.size w w6 := Below.trans (by go_grown) (hB6.mono (by omega)))))
        all_goals
          go_wp2_with fail
          go_meet
          refine ⟨a6, c6, ?_, ?_, Lib.hid (ownsRow_setCell_below o6 (Nat.lt_succ_of_le (Nat.le_succ _)) _), by go_grown⟩
          · simpa using blk_set (o := 1) KX6 (.slice a6 (tk.length + 1) c6)
          · exact (Fr.setCell (S := fun k => k = w.heap.size) w6 ⟨w.heap.size, 1, none⟩ (.slice a6 (tk.length + 1) c6) rfl).kb KY6 (by omega)
      case rest =>
        obtain ⟨a6, c6, KX, KY, O6, hB⟩ := hcut
        obtain ⟨x0, x1, x2, x3, xf, xl⟩ := blk4 KX
        obtain ⟨y0, y1, y2, y3, yf, yl⟩ := blk4 KY
        clear KX KY
        by_cases hl2 : lost = 2
        · have HE : Hid (stepF many lost (k, tk, s, s) = (k, tk ++ [k], s, !s)) := Lib.hid (by simp [stepF, hl2, show ¬ many ≤ k from hm])
          subst hl2
          go_wp2_with fail
          refine bodyPost_ret (v := .agg #[.int .i64 k, .slice a6 (tk.length + 1) c6, .bool s, .bool !s]) ?_ rfl ⟨_, rfl, by rw [HE.out]; exact ⟨.slice a6 (tk.length + 1) c6, rfl, row_own (base := w.heap.size + 1 + 1) (e := 3) (n := tk.length + 1) (xs := tk.map (.int .i64) ++ [.int .i64 k]) (by repeat (first | with_reducible exact O6.out | refine ownsRow_setCell_below ?_ (by first | exact Nat.lt_succ_of_le (Nat.le_succ _) | exact Nat.lt_succ_self _) _)) (by simp)⟩, by go_grown⟩
          simp [results, Try.results25, go_sem, x0, x1, x2, x3, y0, y1, y2, y3, xl, yl]
        · have HE : Hid (stepF many lost (k, tk, s, s) = (k + 1, tk ++ [k], !s, !s)) := Lib.hid (by simp [stepF, hl2, hl, show ¬ many ≤ k from hm])
          have hl3 : (lost != 2) = true := by simpa using hl2
          go_wp2_with fail
          refine bodyPost_ret (v := .agg #[.int .i64 (k + 1), .slice a6 (tk.length + 1) c6, .bool !s, .bool !s]) ?_ rfl ⟨_, rfl, by rw [HE.out]; exact ⟨.slice a6 (tk.length + 1) c6, rfl, row_own (base := w.heap.size + 1 + 1) (e := 3) (n := tk.length + 1) (xs := tk.map (.int .i64) ++ [.int .i64 k]) (by repeat (first | with_reducible exact O6.out | refine ownsRow_setCell_below ?_ (by first | exact Nat.lt_succ_of_le (Nat.le_succ _) | exact Nat.lt_succ_self _) _)) (by simp)⟩, by go_grown⟩
          simp [results, Try.results25, go_sem, x0, x1, x2, x3, y0, y1, y2, y3, xl, yl]
    · have hsr' : (s == r) = false := by simpa using hsr
      by_cases hl2 : lost = 2
      · have HE : Hid (stepF many lost (k, tk, s, r) = (k, tk, s, r)) := Lib.hid (by simp [stepF, hl2, hsr, show ¬ many ≤ k from hm])
        subst hl2
        clear hsr
        go_enter Try.func25, Try.ntmps25
        go_wp2_with fail
        refine bodyPost_ret (v := .agg #[.int .i64 k, .slice ta tk.length tc, .bool s, .bool r]) ?_ rfl ⟨_, rfl, by rw [HE.out]; exact ⟨_, rfl, Hr.out.below (by go_grown)⟩, by go_grown⟩
        simp [results, Try.results25, go_sem]
      · have HE : Hid (stepF many lost (k, tk, s, r) = (k + 1, tk, !s, r)) := Lib.hid (by simp [stepF, hl2, hl, hsr, show ¬ many ≤ k from hm])
        have hl3 : (lost != 2) = true := by simpa using hl2
        clear hsr
        go_enter Try.func25, Try.ntmps25
        go_wp2_with fail
        refine bodyPost_ret (v := .agg #[.int .i64 (k + 1), .slice ta tk.length tc, .bool !s, .bool r]) ?_ rfl ⟨_, rfl, by rw [HE.out]; exact ⟨_, rfl, Hr.out.below (by go_grown)⟩, by go_grown⟩
        simp [results, Try.results25, go_sem]
end Go.Proofs.Ytphajgehfbimnaa
