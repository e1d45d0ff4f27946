/-
  The contracts of checks.Add and checks.Check.
-/
import Derived.Test.YtmjocalgekfodaaChk6
import Derived.Test.YtmjocalgekfodaaCut
namespace Go.Proofs.Ytmjocalgekfodaa
open Go.RowKit
set_option linter.unusedVariables false

theorem eql_nil8 (a : Option Addr) (n c : Nat) (w : World) : (binOp .eql 22 (.slice a n c) (.slice none 0 0)).run Try.prog w = .ok (.bool a.isNone) w := by
  simp only [binOp]
  simp [Op.equal, Op.maxDepth, Lib.run_equalIn_slice_nil w 9999 22 5 a n c 0 0 Try.underlying22]

set_option maxRecDepth 100000 in
set_option maxHeartbeats 1000000 in
theorem clone8_ok (a : Option Addr) (l : List Nat) (cap : Nat) (w : World) (hc : Cells w a (n8 l)) (hn : l.length ≤ 100000) (hcap : l.length ≤ cap) (h0 : a = none → cap = 0) :
    Calls Try.prog 51 #[.slice a l.length cap] w (Bytes8 w l) := by
  cases a with
  | none =>
    have hc0 := h0 rfl
    subst hc0
    have hl : l = [] := List.eq_nil_of_length_eq_zero (by omega)
    subst hl
    have hs := eql_nil8 none 0 0
    simp only [Option.isNone_none] at hs
    go_enter Try.func51, Try.ntmps51
    go_wp2_with fail
    go_returns
    exact ⟨none, 0, rfl, World.ownsRow_nil _ _ _ _, Below.refl _ _⟩
  | some ad =>
    have Hc := Lib.hid hc; clear hc
    clear h0
    have HL : Hid (l.length = (n8 l).length) := Lib.hid (n8_len l).symm
    have hs := eql_nil8 (some ad) l.length cap
    simp only [Option.isNone_some] at hs
    go_enter Try.func51, Try.ntmps51
    go_wp2_with (at_builtin; refine wpList_cat rfl _ _ rfl st8 (some ad) l.length cap (n8 l) rfl rfl (own_empty (blk_new w (.cells #[] 5)) (Nat.le_refl _)) (Hc.out.below (by go_grown)) HL.out (by simp) (n8_one _) (by omega) (by unfold maxLen; omega) (by simp) ?_; intro v5 w5 hown5 hg5; simp only [Nat.zero_add, List.nil_append] at hown5; obtain ⟨a5, c5, hv5, -⟩ := own_val hown5; subst hv5)
    go_returns
    exact ⟨a5, c5, rfl, hown5, Below.grown (by go_grown) hg5 (by simp) (fun g e => by have e' : some w.heap.size = some g := e; have := Option.some.inj e'; omega)⟩

def Fresh8 (w : World) (base : Nat) (a : Option Addr) (l : List Nat) : Prop :=
  l ≠ [] → ∃ g cur, a = some ⟨g, 0, none⟩ ∧ base ≤ g ∧ w.heap[g]? = some (.cells cur 5 (0, 0)) ∧ cur.toList.take l.length = n8 l
theorem Fresh8.own {w : World} {base n c : Nat} {a : Option Addr} {l : List Nat} (h : w.ownsRow base 5 1 (.slice a n c) n (n8 l)) : Fresh8 w base a l := by
  intro hne
  have hl := own_len h
  rw [n8_len] at hl
  rcases h.2 with ⟨h', h2⟩ | ⟨g, cap, cur, h', hb, hg, h1, h2, h3, h4⟩
  · simp only [Value.slice.injEq] at h'
    exact absurd (List.eq_nil_of_length_eq_zero (by omega)) hne
  · simp only [Value.slice.injEq, true_and] at h'
    exact ⟨g, cur, h'.1, hb, hg, by rw [← hl]; simpa using h4⟩
theorem Fresh8.cells {w : World} {base : Nat} {a : Option Addr} {l : List Nat} (h : Fresh8 w base a l) : Cells w a (n8 l) := by
  intro hne
  obtain ⟨g, cur, ha, hb, hg, ht⟩ := h (by intro e; subst e; exact hne rfl)
  refine ⟨g, 0, ha, fun i v hv => ?_⟩
  rw [cell_of_row w g (0 + i) cur _ _ hg, Nat.zero_add]
  have hi : i < l.length := by have := (List.getElem?_eq_some_iff.1 hv).1; rwa [n8_len] at this
  rw [← ht, List.getElem?_take, if_pos hi] at hv
  simpa using hv
theorem Fresh8.below {w w' : World} {base : Nat} {a : Option Addr} {l : List Nat} (h : Fresh8 w base a l) (hb : Below w.heap.size w w') : Fresh8 w' base a l := fun hne => by
  obtain ⟨g, cur, h1, h2, h3, h4⟩ := h hne
  exact ⟨g, cur, h1, h2, kb hb h3, h4⟩

theorem clip8_ok (a : Option Addr) (n cap : Nat) (w : World) (h : n ≤ cap) (hm : cap ≤ 9223372036854775807) :
    Calls Try.prog 50 #[.slice a n cap] w fun e w' => e = .returned (.slice a n n) ∧ w = w' := by
  cases a
  all_goals
    go_enter Try.func50, Try.ntmps50
    go_wp2_with fail
    go_returns
    exact ⟨rfl, rfl⟩

set_option maxRecDepth 100000 in
set_option maxHeartbeats 1000000 in
theorem add_ok (a : Option Addr) (l : List Nat) (cap : Nat) (w : World) (hc : Cells w a (n8 l)) (hl : int8s l) (hn : l.length ≤ 100000) (h0 : a = none → cap = 0) :
    Calls Try.prog 12 #[.slice a l.length cap] w (Bytes8 w (l ++ [Chk.sixteen l % 256, Chk.sixteen l / 256])) := by
  have Hc := Lib.hid hc; clear hc
  have Hl := Lib.hid hl; clear hl
  have H0 := Lib.hid h0; clear h0
  have HL : Hid (l.length = (n8 l).length) := Lib.hid (n8_len l).symm
  have hs : Chk.sixteen l < 65536 := Nat.xor_lt_two_pow (n := 16) (Chk.run16_lt _) (by decide)
  obtain ⟨s, hsq⟩ : ∃ s, Chk.sixteen l = s := ⟨_, rfl⟩
  rw [hsq] at hs ⊢
  have HS := Lib.hid hsq; clear hsq
  obtain ⟨x, hx, hx2⟩ : ∃ x : Nat, s % 256 = x ∧ x < 256 := ⟨_, rfl, Nat.mod_lt _ (by decide)⟩
  obtain ⟨y, hy, hy2⟩ : ∃ y : Nat, s / 256 = y ∧ y < 256 := ⟨_, rfl, by omega⟩
  rw [hx, hy]
  have hxI : (s : Int) % 256 = (x : Int) := by omega
  have hyI : (s : Int) / 256 = (y : Int) := by omega
  have hyI' : (y : Int) % 256 = (y : Int) := by omega
  have HN : Hid (n8 (l ++ [x, y]) = n8 l ++ [.int .u8 x, .int .u8 y]) := Lib.hid (by simp [n8])
  have HN2 : Hid ((l ++ [x, y]).length = l.length + 2) := Lib.hid (by simp)
  clear hx hy
  have tok : True := trivial
  go_enter Try.func12, Try.ntmps12
  go_wp2_with (first
    | (go_at_call 49; refine (sixteen_ok a l cap _ Hc.out Hl.out (by omega)).mono ?_; rw [HS.out]; rintro e w1 ⟨rfl, hb1⟩; have hz1 := hb1.size)
    | (at_make; go_must (refine wpList_mk rfl _ _ rfl st8 w.heap.size (l.length + 2) _ _ _ rfl rfl (by omega) (by omega) (by unfold maxLen; omega) (by omega) ?_); intro w3 hown3 hg3; have hb3 := grown_none hg3)
    | (at_builtin; have _t := tok; go_must (refine wpList_cat_fits rfl _ _ rfl st8 a l.length cap (n8 l) rfl rfl hown3 ((Hc.out.below hb1).below hb3) HL.out H0.out (n8_one _) (by omega) ?_); intro w4 hown4 hg4; clear tok; have hz4 := hg4.size; simp only [Nat.zero_add, List.nil_append] at hown4)
    | (at_builtin; go_must (refine wpList_cat_fits rfl _ _ rfl st8 _ 2 2 [.int .u8 x, .int .u8 y] rfl rfl (hown4.alloc _) (cells_new' (cs := #[.int .u8 x, .int .u8 y]) (e := 5) rfl) rfl (by simp) (by simp [Value.oneCell']) (by omega) ?_); intro w5 hown5 hg5))
  go_returns
  refine ⟨_, _, by rw [HN2.out]; rfl, by rw [HN2.out, HN.out]; exact own_base hown5 (Nat.le_refl _), ?_⟩
  have hB4 := (hb1.trans (hb3.mono hz1)).grown hg4 (by have := hb3.size; omega) (by intro k e; cases e; omega)
  exact (hB4.alloc (by have := hb3.size; omega) _).grown hg5 (by have := hb3.size; simp; omega) (by intro k e; cases e; omega)

theorem or_bytes (x y : Nat) (hx : x < 256) (hy : y < 256) : bits .or .u16 (x : Int) ((y : Int) * 256) = ((x + 256 * y : Nat) : Int) := by
  have h := u16_or_nat x (y * 256) (by omega) (by omega)
  have e := nat_or_shift x y 8 hx
  simp only [Nat.reducePow] at e
  rw [e] at h
  have e2 : ((y * 256 : Nat) : Int) = (y : Int) * 256 := by simp
  rw [e2] at h
  rw [h]; congr 1; omega
def CheckOut (w : World) (l : List Nat) (e : Ending) (w' : World) : Prop := ∃ a c, e = .returned (.tuple #[.slice a l.length c, .int .i64 0]) ∧ Fresh8 w' w.heap.size a l ∧ l.length ≤ c ∧ c ≤ maxLen ∧ (a = none → c = 0) ∧ Below w.heap.size w w'

set_option maxRecDepth 100000 in
set_option maxHeartbeats 400000 in
theorem check_short (a : Option Addr) (n cap : Nat) (w : World) (hn : n < 2) :
    Calls Try.prog 13 #[.slice a n cap] w fun e w' => e = .returned (.tuple #[.slice none 0 0, .int .i64 5]) ∧ w = w' := by
  go_enter Try.func13, Try.ntmps13
  go_wp2_with fail
  go_returns
  exact ⟨rfl, rfl⟩

def CheckSays (w : World) (l : List Nat) (c : Nat) (e : Ending) (w' : World) : Prop :=
  if Chk.sixteen l = c then CheckOut w l e w' else e = .returned (.tuple #[.slice none 0 0, .int .i64 10]) ∧ Below w.heap.size w w'

set_option maxRecDepth 100000 in
set_option maxHeartbeats 4000000 in
theorem check_ok (a : Option Addr) (l : List Nat) (x y cap : Nat) (w : World) (hc : Cells w a (n8 (l ++ [x, y]))) (hl : int8s l) (hx : x < 256) (hy : y < 256) (hn : l.length ≤ 99000) (hcap : l.length + 2 ≤ cap) (hm : cap ≤ maxLen) (h0 : a = none → cap = 0) :
    Calls Try.prog 13 #[.slice a (l.length + 2) cap] w (CheckSays w l (x + 256 * y)) := by
  have HL2 : (n8 (l ++ [x, y])).length = l.length + 2 := by simp [n8]
  obtain ⟨a2, hr2, hc2, h02⟩ := cutHigh st8 hc HL2.symm (by omega) h0 l.length (by omega)
  have htk : (n8 (l ++ [x, y])).take l.length = n8 l := by simp [n8]
  rw [htk] at hc2
  obtain ⟨b, off, rfl, hcc⟩ := hc (by intro e; rw [e] at HL2; simp at HL2)
  have cx := hcc l.length (.int .u8 x) (by simp [n8])
  have cy := hcc (l.length + 1) (.int .u8 y) (by simp [n8])
  have cx' : w.cell? ⟨b, off + l.length, none⟩ = some (.int .u8 x) := cx
  have cy' : w.cell? ⟨b, off + (l.length + 1), none⟩ = some (.int .u8 y) := cy
  have hs : Chk.sixteen l < 65536 := Nat.xor_lt_two_pow (n := 16) (Chk.run16_lt _) (by decide)
  have HC2 := Lib.hid hc2
  have H02 := Lib.hid h02
  have HLL := Lib.hid hl
  unfold maxLen at hm
  clear hcc cx cy hc htk hc2 hl HL2 h0 h02
  go_enter Try.func13, Try.ntmps13
  go_upto_region 4 with fail
  have hw1 : IntKind.i64.wrap ((l.length : Int) + 1) = (l.length : Int) + 1 := by rw [IntKind.wrap_i64]; omega
  have hwx : IntKind.u16.wrap (x : Int) = (x : Int) := by rw [IntKind.wrap_u16]; omega
  have hwy : IntKind.u16.wrap (y : Int) = (y : Int) := by rw [IntKind.wrap_u16]; omega
  have hwz : IntKind.u16.wrap ((y : Int) * 256) = (y : Int) * 256 := by rw [IntKind.wrap_u16]; omega
  have hor := or_bytes x y hx hy
  have hb1 : (l.length : Int) < (l.length : Int) + 2 := by omega
  have hb2 : (l.length : Int) + 1 < (l.length : Int) + 2 := by omega
  have hb3 : (0 : Int) ≤ (l.length : Int) + 1 := by omega
  go_cut [27] (fun s27 wx => ∃ b : Bool, s27 = .bool b ∧ Hid (b = neB (Chk.sixteen l) (x + 256 * y)) ∧ Below w.heap.size w wx)
  case first =>
    by_cases he : Chk.sixteen l = x + 256 * y
    · have he' : (((Chk.sixteen l : Nat) : Int) != ((x + 256 * y : Nat) : Int)) = false := by rw [he]; simp
      have He := Lib.hid he
      clear he
      go_region_held3 (fun w' => w'.cell? ⟨b, off + l.length, none⟩ = some (.int .u8 x) ∧ w'.cell? ⟨b, off + (l.length + 1), none⟩ = some (.int .u8 y))
        (first | (with_reducible assumption) | ((repeat' apply And.intro) <;> first | (with_reducible assumption) | (go_simp; done) | go_cell_look) | go_keep)
        (first | (go_at_call 49; (with_reducible refine (sixteen_ok a2 l cap _ (HC2.out.below (by go_grown)) HLL.out (by omega)).mono ?_); rintro e w1 ⟨rfl, hb1⟩; have hB1 : Below w.heap.size w w1 := Below.trans (by go_grown) (hb1.mono (by go_size)); have cx1 := kc hB1 cx'; have cy1 := kc hB1 cy'; have hz1 := hB1.size))
      all_goals
        go_wp2_with fail
        go_meet
        exact ⟨_, rfl, Lib.hid (by first | (rw [hor, he']; simp [neB, He.out]) | (simp [neB, He.out]; have := He.out; omega) | simp [neB, He.out]), by go_grown⟩
    · have he' : (((Chk.sixteen l : Nat) : Int) != ((x + 256 * y : Nat) : Int)) = true := by rw [bne_iff_ne]; omega
      have He := Lib.hid he
      clear he
      go_region_held3 (fun w' => w'.cell? ⟨b, off + l.length, none⟩ = some (.int .u8 x) ∧ w'.cell? ⟨b, off + (l.length + 1), none⟩ = some (.int .u8 y))
        (first | (with_reducible assumption) | ((repeat' apply And.intro) <;> first | (with_reducible assumption) | (go_simp; done) | go_cell_look) | go_keep)
        (first | (go_at_call 49; (with_reducible refine (sixteen_ok a2 l cap _ (HC2.out.below (by go_grown)) HLL.out (by omega)).mono ?_); rintro e w1 ⟨rfl, hb1⟩; have hB1 : Below w.heap.size w w1 := Below.trans (by go_grown) (hb1.mono (by go_size)); have cx1 := kc hB1 cx'; have cy1 := kc hB1 cy'; have hz1 := hB1.size))
      all_goals
        go_wp2_with fail
        go_meet
        exact ⟨_, rfl, Lib.hid (by first | (rw [hor, he']; simp [neB, He.out]) | (simp [neB, He.out]; have := He.out; omega) | simp [neB, He.out]), by go_grown⟩
  case rest =>
    obtain ⟨b, rfl, Hb, hB⟩ := hcut
    have HR : Hid (∀ e w', (b = true → e = .returned (.tuple #[.slice none 0 0, .int .i64 10]) ∧ Below w.heap.size w w') → (b = false → CheckOut w l e w') → CheckSays w l (x + 256 * y) e w') := Lib.hid (by
      intro e w' h1 h2
      unfold CheckSays
      rw [Hb.out] at h1 h2
      unfold neB at h1 h2
      by_cases he : Chk.sixteen l = x + 256 * y
      · rw [if_pos he]; exact h2 (by simp [he])
      · rw [if_neg he]; exact h1 (by simp [he]))
    clear Hb
    have zB := hB.size
    cases b with
    | false =>
      go_wp2_with (first
        | (go_at_call 51; refine (clone8_ok a2 l cap _ (HC2.out.below hB) (by omega) (by omega) H02.out).mono ?_; rintro e w2 ⟨a3, c3, rfl, o3, hb3⟩; obtain ⟨a3', c3', hv3, -, hn1, hn2, hn3⟩ := own_val o3; simp only [Value.slice.injEq, true_and] at hv3; obtain ⟨rfl, rfl⟩ := hv3; unfold maxLen at hn2; have O3 := Lib.hid o3; have N3 := Lib.hid hn3; clear o3 hn3)
        | (go_at_call 50; refine (clip8_ok a3 l.length c3 _ hn1 hn2).mono ?_; rintro e w3 ⟨rfl, rfl⟩))
      go_returns
      refine HR.out _ _ (fun h => by cases h) (fun _ => ⟨a3, l.length, rfl, Fresh8.own (own_base O3.out zB), Nat.le_refl _, by unfold maxLen; omega, ?_, hB.trans (hb3.mono zB)⟩)
      intro h
      have := N3.out h; omega
    | true =>
      go_wp2_with fail
      go_returns
      exact HR.out _ _ (fun _ => ⟨rfl, hB⟩) (fun h => by cases h)
end Go.Proofs.Ytmjocalgekfodaa

