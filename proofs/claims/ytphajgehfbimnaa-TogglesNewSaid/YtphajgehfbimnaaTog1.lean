/-
  The contracts of toggles.copies and of the law's helpers lists, clone, small, exchanges and lost (plugboardlaw05).
-/
import Derived.Test.YtphajgehfbimnaaProg
import Derived.Test.YtphajgehfbimnaaNest
namespace Go.Proofs.Ytphajgehfbimnaa
open Go.RowKit
set_option linter.unusedVariables false

theorem st8 : SliceTy Try.prog 32 5 (.int .u8 0) 1 1 := ⟨Try.underlying32, by kernel_rfl, rfl, by decide⟩
theorem st88 : SliceTy Try.prog 53 32 (.slice none 0 0) 1 24 := ⟨Try.underlying53, by kernel_rfl, rfl, by decide⟩

theorem ints_one (k : IntKind) (l : List Int) : ∀ u ∈ l.map (Value.int k), u.oneCell' = true := by
  intro u hu; obtain ⟨x, _, rfl⟩ := List.mem_map.1 hu; rfl

theorem rep_get {n k : Nat} {vs : List Value} {z : Value} (hk : vs.length = k) (hn : k < n) : (vs ++ List.replicate (n - k) z)[k]? = some z := by
  subst hk
  rw [List.getElem?_append_right (Nat.le_refl _), Nat.sub_self, List.getElem?_replicate, if_pos (by omega)]

/-- The copies that have been made, and empty ones behind them. -/
theorem rep_set {n k : Nat} {vs : List Value} {z v : Value} (hk : vs.length = k) (hn : k < n) : (vs ++ List.replicate (n - k) z).set k v = (vs ++ [v]) ++ List.replicate (n - (k + 1)) z := by
  subst hk
  rw [List.set_append_right _ _ (Nat.le_refl _), Nat.sub_self]
  have : n - vs.length = (n - (vs.length + 1)) + 1 := by omega
  rw [this, List.replicate_succ, List.set_cons_zero, List.append_assoc]; rfl

set_option maxRecDepth 100000 in
set_option maxHeartbeats 1000000 in
theorem copies_ok (a : Option Addr) (vs : List Value) (ll : List (List Int)) (cap : Nat) (w : World) (hc : Cells w a vs) (hr : Rows .u8 w vs ll) (hn : vs.length ≤ 1000000) (hl : ∀ l ∈ ll, l.length ≤ 1000000) :
    Calls Try.prog 46 #[.slice a vs.length cap] w fun e w' => e = .returned (.slice (some ⟨w.heap.size, 0, none⟩) vs.length vs.length) ∧ ∃ us,
      w'.ownsRow w.heap.size 32 1 (.slice (some ⟨w.heap.size, 0, none⟩) vs.length vs.length) vs.length us ∧ OwnRows .u8 5 (w.heap.size + 1) w' us ll ∧ Below w.heap.size w w' := by
  have Hc := Lib.hid hc; clear hc
  have Hr := Lib.hid hr; clear hr
  have Hl := Lib.hid hl; clear hl
  go_enter Try.func46, Try.ntmps46
  go_wp2_with (at_make; refine wpList_mkfull rfl _ _ rfl st88 rfl w.heap.size vs.length _ _ _ _ rfl rfl rfl rfl (by omega) (by unfold maxLen; omega) (by omega) ?_; intro w2 hown2 hg2; have hb2 := grown_none hg2; have hs2 := hb2.size)
  go_loopw [11] (fun i wr => ∃ (k : Nat) (us : List Value), k ≤ vs.length ∧ i = .int .i64 k ∧ us.length = k ∧
      wr.ownsRow w.heap.size 32 1 (.slice (some ⟨w.heap.size, 0, none⟩) vs.length vs.length) vs.length (us ++ List.replicate (vs.length - k) (.slice none 0 0)) ∧
      OwnRows .u8 5 (w.heap.size + 1) wr us (ll.take k) ∧ Below w.heap.size w wr) (fun i _ => vs.length - (intOf i).toNat)
  case atStart => exact ⟨0, [], by omega, rfl, rfl, by simpa using hown2, by simp [OwnRows], hb2⟩
  case round =>
    obtain ⟨k, us, hk, rfl, hus, hown, hrows, hB⟩ := hrel
    have hg : w.heap.size < wr.heap.size := (hown.lt _ rfl).2
    have Hus := Lib.hid hus; clear hus
    by_cases hlt : k < vs.length
    · obtain ⟨b, off, v, rfl, hv, hcv, hbv⟩ := (Hc.out.below hB).getV hlt
      obtain ⟨l, hl, ao, cv, rfl, h1, h2, h3, hcells⟩ := (Hr.out.below hB).get hv
      have hlm := Hl.out l (List.mem_of_getElem? hl)
      have HV := Lib.hid hv; clear hv
      have HL := Lib.hid hl; clear hl
      have H3 := Lib.hid h3; clear h3
      unfold maxLen at h2
      go_wp2_with (first
        | (at_make; go_must (refine wpList_mk rfl _ _ rfl st8 (w.heap.size + 1) l.length _ _ _ rfl rfl rfl (by omega) (by unfold maxLen; omega) (by omega) ?_); intro w3 hown3 hg3)
        | (at_builtin; refine wpList_cat_fits rfl _ _ rfl st8 ao l.length cv (l.map (.int .u8)) rfl rfl hown3 (hcells.below (grown_none hg3)) (by simp) H3.out (ints_one _ _) (by omega) ?_; intro w4 hown4 hg4; have hA := (hown.kept hg3 (.inr (by simp [Value.ownBlock]))).kept hg4 (.inr (by simp [Value.ownBlock]; omega)); have cA : w4.cell? ⟨w.heap.size, k, none⟩ = some (.slice none 0 0) := (hA.cellAt k (by omega)).trans (rep_get Hus.out hlt); have fA := hA.frozenAt k; have hs4 := hg4.size; have hs3 := hg3.size))
      have hS := hA.stored k (.slice (some ⟨wr.heap.size, 0, none⟩) l.length l.length)
      go_roundw
      case rel =>
        refine ⟨k + 1, us ++ [.slice (some ⟨wr.heap.size, 0, none⟩) l.length l.length], by omega, by go_num, by simp [Hus.out], ?_, ?_, ?_⟩
        · rw [rep_set Hus.out hlt] at hS; exact hS.1
        · have hl' : ll.take (k + 1) = ll.take k ++ [l] := take_snoc HL.out
          rw [hl']
          refine OwnRows.append (OwnRows.kept hS.2 (OwnRows.kept hg4 (OwnRows.kept hg3 hrows (by simp)) ?_) ?_) ⟨?_, trivial⟩
          · intro u hu g hgg e; have := (hrows.lt u hu g hgg).2; cases e; omega
          · intro u hu g hgg e; have := (hrows.lt u hu g hgg).1; cases e; omega
          · have := hown4.kept hS.2 (.inr (by simp [Value.ownBlock]; omega))
            simpa using this
        · exact Below.setCell (((hB.grown hg3 (by omega) (by simp)).grown hg4 (by omega) (by intro k' e; cases e; omega))) (by simp) _
      case measure => simp [intOf]; omega
    · have hkl : k = vs.length := by omega
      subst hkl
      go_wp2_with fail
      go_returns
      refine ⟨rfl, us, by simpa using hown, ?_, hB⟩
      have := Rows.length Hr.out
      rwa [take_all (by omega)] at hrows

set_option maxRecDepth 100000 in
set_option maxHeartbeats 1000000 in
theorem lists_same (a a' : Option Addr) (vs vs' : List Value) (ll : List (List Int)) (cap cap' : Nat) (w : World) (hc : Cells w a vs) (hr : Rows .u8 w vs ll) (hc' : Cells w a' vs') (hr' : Rows .u8 w vs' ll) (hn : vs.length ≤ 1000000) :
    Calls Try.prog 30 #[.slice a vs.length cap, .slice a' vs'.length cap'] w fun e w' => e = .returned (.int .i64 0) ∧ Below w.heap.size w w' := by
  have Hc := Lib.hid hc; clear hc
  have Hr := Lib.hid hr; clear hr
  have Hc' := Lib.hid hc'; clear hc'
  have Hr' := Lib.hid hr'; clear hr'
  have hlen : vs'.length = vs.length := by rw [Rows.length Hr.out, Rows.length Hr'.out]
  have Hlen := Lib.hid hlen
  rw [hlen]
  clear hlen
  go_enter Try.func30, Try.ntmps30
  go_wp2_with fail
  go_loopw [5] (fun i wr => ∃ k : Nat, k ≤ vs.length ∧ i = .int .i64 k ∧ Below w.heap.size w wr) (fun i _ => vs.length - (intOf i).toNat)
  case atStart => exact ⟨0, by omega, rfl, Below.refl _ _⟩
  case round =>
    obtain ⟨k, hk, rfl, hB⟩ := hrel
    by_cases hlt : k < vs.length
    · obtain ⟨b, off, v, rfl, hv, hcv, hbv⟩ := (Hc.out.below hB).getV hlt
      obtain ⟨b', off', v', rfl, hv', hcv', hbv'⟩ := (Hc'.out.below hB).getV (by rw [Hlen.out]; exact hlt)
      obtain ⟨l, hl, ao, cv, rfl, h1, h2, h3, hcells⟩ := (Rows.below hB Hr.out).get hv
      obtain ⟨l', hl', ao', cv', rfl, h1', h2', h3', hcells'⟩ := (Rows.below hB Hr'.out).get hv'
      obtain rfl : l = l' := by rw [hl] at hl'; simpa using hl'
      have s1 : ∀ n, (convert 32 9 (.slice ao l.length cv)).run Try.prog (wr.drewN n) = .ok (.string (strOfNums l)) (wr.drewN n) := fun n => run_str Try.underlying32 Try.underlying5 Try.underlying9 (hcells.below (drewN_below (Below.refl _ _))) rfl h3
      have s2 : ∀ n, (convert 32 9 (.slice ao' l.length cv')).run Try.prog (wr.drewN n) = .ok (.string (strOfNums l)) (wr.drewN n) := fun n => run_str Try.underlying32 Try.underlying5 Try.underlying9 (hcells'.below (drewN_below (Below.refl _ _))) rfl h3'
      have HB := Lib.hid hB
      clear hv hv' hl hl' h1 h2 h3 h1' h2' h3' hcells hcells' hB
      go_wp2_with fail
      go_quiet (fail)
      go_wp2_with fail
      go_roundw
      case rel => exact ⟨k + 1, by omega, by go_num, drewN_below HB.out⟩
      case measure => simp [intOf]; omega
    · have hkl : k = vs.length := by omega
      subst hkl
      go_wp2_with fail
      go_returns
      exact ⟨rfl, hB⟩

set_option maxRecDepth 100000 in
set_option maxHeartbeats 1000000 in
theorem clone_ok (a : Option Addr) (vs : List Value) (ll : List (List Int)) (cap : Nat) (w : World) (hc : Cells w a vs) (hr : Rows .u8 w vs ll) (hn : vs.length ≤ 1000000) (hl : ∀ l ∈ ll, l.length ≤ 1000000) :
    Calls Try.prog 27 #[.slice a vs.length cap] w fun e w' => ∃ (r : Value × List Value), e = .returned r.1 ∧
      w'.ownsRow w.heap.size 32 1 r.1 vs.length r.2 ∧ OwnRows .u8 5 w.heap.size w' r.2 ll ∧ Below w.heap.size w w' := by
  have Hc := Lib.hid hc; clear hc
  have Hr := Lib.hid hr; clear hr
  have Hl := Lib.hid hl; clear hl
  go_enter Try.func27, Try.ntmps27
  go_wp2_with fail
  go_loopw [3, 4] (fun v i wr => ∃ (k : Nat) (us : List Value), k ≤ vs.length ∧ i = .int .i64 k ∧
      wr.ownsRow w.heap.size 32 1 v k us ∧ OwnRows .u8 5 w.heap.size wr us (ll.take k) ∧ Below w.heap.size w wr) (fun _ i _ => vs.length - (intOf i).toNat)
  case atStart => exact ⟨0, [], by omega, rfl, World.ownsRow_nil _ _ _ _, by simp [OwnRows], Below.refl _ _⟩
  case round =>
    obtain ⟨k, us, hk, rfl, hown, hrows, hB⟩ := hrel
    have hown0 := hown
    obtain ⟨av, capv, rfl, -, -, -⟩ := own_view hown0
    have hsB := hB.size
    by_cases hlt : k < vs.length
    · obtain ⟨b, off, v, rfl, hv, hcv, hbv⟩ := (Hc.out.below hB).getV hlt
      obtain ⟨l, hl, ao, cv, rfl, h1, h2, h3, hcells⟩ := (Rows.below hB Hr.out).get hv
      have hlm := Hl.out l (List.mem_of_getElem? hl)
      have HV := Lib.hid hv; clear hv
      have HL := Lib.hid hl; clear hl
      have H3 := Lib.hid h3; clear h3
      unfold maxLen at h2
      have tok : True := trivial
      go_wp2_with (first
        | (at_builtin; have _t := tok; go_must ((refine wpList_cat (n := 0) (xs := []) rfl _ _ rfl st8 ao l.length cv (l.map (.int .u8)) rfl rfl (World.ownsRow_made wr #[] 0 hsB (by unfold maxLen; omega) rfl) (hcells.below ((Below.refl _ _).alloc (Nat.le_refl _) _)) (by simp) H3.out (ints_one _ _) (by omega) (by unfold maxLen; omega) (by simp; omega) ?_); intro v4 w4 hown4 hg4; clear tok; have hown4' := hown4; obtain ⟨a4, c4, rfl, -, -, -⟩ := own_view hown4'; simp only [Nat.zero_add, List.nil_append] at hown4 ⊢; have hs4 := hg4.size; simp only [World.size_alloc] at hs4; have hA := own_kept (hown.alloc (.cells #[] 5)) (World.ownsRow_made (base := w.heap.size) (size := 1) (e := 5) wr #[] 0 hsB (by unfold maxLen; omega) rfl) (by decide) hg4))
        | (at_builtin; refine wpList_push rfl _ _ rfl st88 w.heap.size _ k us rfl rfl hA rfl (by omega) (by unfold maxLen; omega) (by omega) ?_; intro v5 w5 hown5 hg5; have hown5' := hown5; obtain ⟨a5, c5, rfl, -, -, -⟩ := own_view hown5'))
      go_roundw
      case rel =>
        have r1 : OwnRows .u8 5 w.heap.size w4 us (ll.take k) := OwnRows.kept hg4 (OwnRows.kept (World.grownBy_alloc wr _ none) hrows (by simp)) (fun u hu g hgg e => by
          have h1 := (hrows.lt u hu g hgg).2
          have e' : g = wr.heap.size := Option.some.inj e
          omega)
        have r2 := OwnRows.kept (World.grownBy_alloc w4 (.cells #[.slice a4 l.length c4] 32) none) r1 (by simp)
        have r3 := OwnRows.kept hg5 r2 (OwnRows.sep (hA.alloc _) (by decide) r2)
        have r4 := own_kept (hown4.alloc (.cells #[.slice a4 l.length c4] 32)) (hA.alloc _) (by decide) hg5
        have hl' : ll.take (k + 1) = ll.take k ++ [l] := take_snoc HL.out
        refine ⟨k + 1, us ++ [.slice a4 l.length c4], by omega, by go_num, hown5, by rw [hl']; exact OwnRows.append r3 ⟨by simpa using r4, trivial⟩, ?_⟩
        have b1 : Below w.heap.size w w4 := (hB.alloc hsB _).grown hg4 (by simp; omega) (by intro g e; have e' : wr.heap.size = g := Option.some.inj e; omega)
        exact (b1.alloc (by omega) _).grown hg5 (by simp; omega) (fun g e => (hA.lt g e).1)
      case measure => simp [intOf]; omega
    · have hkl : k = vs.length := by omega
      subst hkl
      go_wp2_with fail
      go_returns
      have := Rows.length Hr.out
      rw [take_all (by omega)] at hrows
      exact ⟨(_, us), rfl, hown, hrows, hB⟩
end Go.Proofs.Ytphajgehfbimnaa
