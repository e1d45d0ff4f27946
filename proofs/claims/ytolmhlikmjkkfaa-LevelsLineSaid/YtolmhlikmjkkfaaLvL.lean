/-
  Layer 1 (levels): the packets of a line: what the code answers.
  Conditions: none.
-/
import Derived.Test.YtolmhlikmjkkfaaLvZ
import Derived.Test.YtolmhlikmjkkfaaLvR
namespace Go.Proofs.Ytolmhlikmjkkfaa
open Go.RowKit
set_option linter.unusedVariables false

/-- What is read: the states since a packet has begun, the packets, and how many were damaged. -/
structure LisS where
  cur : List Int
  out : List (List Int)
  dam : Nat
def lisEnd (s : LisS) (l : List Int) : LisS := if (recvX l).1 = 0 then ⟨[], s.out ++ [(recvX l).2], s.dam⟩ else ⟨[], s.out, s.dam + 1⟩
def lisF (s : LisS) (x : Int) : LisS :=
  if s.cur = [] then (if x = 0 then s else ⟨[x], s.out, s.dam⟩)
  else if x = 0 ∧ s.cur.getLast? = some 2 then lisEnd s (s.cur ++ [x])
  else ⟨s.cur ++ [x], s.out, s.dam⟩
def lisS (l : List Int) : LisS := l.foldl lisF ⟨[], [], 0⟩
def lisL (l : List Int) : List (List Int) × Nat := ((lisS l).out, (lisS l).dam + if (lisS l).cur = [] then 0 else 1)

theorem lisS_snoc {l : List Int} {k : Nat} (h : k < l.length) : lisS (l.take (k + 1)) = lisF (lisS (l.take k)) l[k] := by
  unfold lisS; rw [take_snocI h, List.foldl_append]; rfl

/-! A good packet -/
theorem lis_mid : ∀ (m : List Int) (s : LisS), s.cur ≠ [] → s.cur.getLast? ≠ some 2 → (∀ x ∈ m, x ≠ 2) → m.foldl lisF s = ⟨s.cur ++ m, s.out, s.dam⟩
  | [], s, _, _, _ => by simp
  | x :: m, s, h1, h2, h3 => by
    have hx := h3 x (by simp)
    have e : lisF s x = ⟨s.cur ++ [x], s.out, s.dam⟩ := by unfold lisF; rw [if_neg h1, if_neg (fun h => h2 h.2)]
    rw [List.foldl_cons, e, lis_mid m _ (by simp) (by simp; exact hx) (fun y hy => h3 y (by simp [hy]))]
    simp
/-- Behind states of which none is 2, in a packet, in whatever state: the end of a packet. -/
theorem lis_end (s : LisS) (h1 : s.cur ≠ []) (h2 : s.cur.getLast? ≠ some 2) : [2, 2, 0].foldl lisF s = lisEnd s (s.cur ++ [2, 2, 0]) := by
  have e1 : lisF s 2 = ⟨s.cur ++ [2], s.out, s.dam⟩ := by unfold lisF; rw [if_neg h1, if_neg (by simp)]
  have e2 : lisF ⟨s.cur ++ [2], s.out, s.dam⟩ 2 = ⟨s.cur ++ [2, 2], s.out, s.dam⟩ := by unfold lisF; simp
  have e3 : lisF ⟨s.cur ++ [2, 2], s.out, s.dam⟩ 0 = lisEnd s (s.cur ++ [2, 2, 0]) := by
    unfold lisF
    rw [if_neg (by simp), if_pos (by simp)]
    unfold lisEnd
    simp
  simp only [List.foldl_cons, List.foldl_nil, e1, e2, e3]
theorem lisEnd_cur (s : LisS) (l : List Int) : (lisEnd s l).cur = [] := by unfold lisEnd; split <;> rfl
theorem lisEnd_out (s : LisS) (l : List Int) : ∃ r, (lisEnd s l).out = s.out ++ r := by
  unfold lisEnd; split
  · exact ⟨_, rfl⟩
  · exact ⟨[], by simp⟩
theorem lisF_out (s : LisS) (x : Int) : ∃ r, (lisF s x).out = s.out ++ r := by
  unfold lisF
  split
  · split <;> exact ⟨[], by simp⟩
  · split
    · exact lisEnd_out _ _
    · exact ⟨[], by simp⟩
theorem lis_out : ∀ (l : List Int) (s : LisS), ∃ r, (l.foldl lisF s).out = s.out ++ r
  | [], s => ⟨[], by simp⟩
  | x :: l, s => by
    obtain ⟨r1, h1⟩ := lisF_out s x
    obtain ⟨r2, h2⟩ := lis_out l (lisF s x)
    exact ⟨r1 ++ r2, by rw [List.foldl_cons, h2, h1, List.append_assoc]⟩

/-- The states of a packet: first one that is 1, then states of which none is 2, then the end. -/
theorem sendL_shape (b : List Int) : ∃ m, sendL b = 1 :: m ++ [2, 2, 0] ∧ ∀ x ∈ m, x ≠ 2 := by
  have h0 : stuffL (syncL ++ bitsL b) = 0 :: stR 0 ([0, 0, 0, 0, 0, 0, 1] ++ bitsL b) := by rw [stuffL_R]; simp [syncL, stR]
  unfold sendL
  rw [h0, encL_R]
  refine ⟨encR 1 (stR 0 ([0, 0, 0, 0, 0, 0, 1] ++ bitsL b)), by simp [encR], fun x hx => ?_⟩
  have := encR_01 _ 1 (.inr rfl) x hx
  omega
theorem lis_send {b : List Int} (h8 : u8s b) (h0 : b ≠ []) (hl : b.length ≤ 1027) (s : LisS) (hs : s.cur = []) : (sendL b).foldl lisF s = ⟨[], s.out ++ [b], s.dam⟩ := by
  obtain ⟨m, hm, h2⟩ := sendL_shape b
  have hr := recv_send h8 h0 hl
  rw [hm] at hr ⊢
  rw [List.foldl_append, show (1 :: m).foldl lisF s = m.foldl lisF (lisF s 1) from rfl]
  have e1 : lisF s 1 = ⟨[1], s.out, s.dam⟩ := by unfold lisF; rw [if_pos hs, if_neg (by simp)]
  rw [e1, lis_mid m _ (by simp) (by simp) h2]
  have hlast : (([1] ++ m : List Int)).getLast? ≠ some 2 := by
    intro h
    have := List.mem_of_getLast? h
    rcases List.mem_append.1 this with h | h
    · simp at h
    · exact h2 2 h rfl
  rw [lis_end _ (by simp) hlast]
  have e3 : ([1] ++ m ++ [2, 2, 0] : List Int) = 1 :: m ++ [2, 2, 0] := by simp
  unfold lisEnd
  dsimp only
  rw [e3, hr]
  simp
theorem lis_zeros (n : Nat) (s : LisS) (hs : s.cur = []) : (List.replicate n (0 : Int)).foldl lisF s = s := by
  induction n with
  | zero => rfl
  | succ n ih =>
    have e : lisF s 0 = s := by unfold lisF; rw [if_pos hs, if_pos rfl]
    rw [List.replicate_succ, List.foldl_cons, e, ih]
/-- Behind a packet, whatever was in front of it, no packet has begun. -/
theorem lis_send_any (b : List Int) (s : LisS) : ((sendL b).foldl lisF s).cur = [] := by
  obtain ⟨m, hm, h2⟩ := sendL_shape b
  rw [hm, List.foldl_append, show (1 :: m).foldl lisF s = m.foldl lisF (lisF s 1) from rfl]
  have e1 : (lisF s 1).cur ≠ [] ∧ (lisF s 1).cur.getLast? ≠ some 2 := by
    unfold lisF
    split
    · rw [if_neg (by simp)]; simp
    · rw [if_neg (by simp)]; simp
  rw [lis_mid m _ e1.1 e1.2 h2]
  have hlast : (((lisF s 1).cur ++ m : List Int)).getLast? ≠ some 2 := by
    intro h
    rw [List.getLast?_append] at h
    cases hm : m.getLast? with
    | none => rw [hm] at h; exact e1.2 (by simpa using h)
    | some y =>
      rw [hm] at h
      have := List.mem_of_getLast? hm
      simp at h
      exact h2 y this h
  rw [lis_end _ (by simp [e1.1]) hlast]
  exact lisEnd_cur _ _
set_option linter.unusedSimpArgs false

/-- A list of bytes as an element. -/
def nb (b : List Int) : D := .ints .u8 b none
/-- The same, its capacity known. -/
def nbc (b : List Int) : D := .ints .u8 b (some b.length)
def rowsOf : List D → Option (List (List Int))
  | [] => some []
  | .ints .u8 xs _ :: l => match rowsOf l with
    | some r => some (xs :: r)
    | none => none
  | _ :: _ => none
theorem rowsOf_map : ∀ l, rowsOf (l.map nb) = some l
  | [] => rfl
  | b :: l => by
    have h := rowsOf_map l
    simp only [List.map_cons]
    rw [show nb b = D.ints .u8 b none from rfl]
    simp only [rowsOf, h]
theorem rowsOf_mapc : ∀ l, rowsOf (l.map nbc) = some l
  | [] => rfl
  | b :: l => by
    have h := rowsOf_mapc l
    simp only [List.map_cons]
    rw [show nbc b = D.ints .u8 b (some b.length) from rfl]
    simp only [rowsOf, h]
theorem rowsOf_get : ∀ {l : List D} {r : List (List Int)}, rowsOf l = some r → l.length = r.length ∧ ∀ (i : Nat) (h : i < l.length) (h' : i < r.length), ∃ c, l[i] = D.ints .u8 r[i] c
  | [], r, h => by simp [rowsOf] at h; subst h; simp
  | d :: l, r, h => by
    unfold rowsOf at h
    split at h
    · rename_i heq; cases heq
    · rename_i xs c l' heq
      simp only [List.cons.injEq] at heq
      obtain ⟨rfl, rfl⟩ := heq
      split at h
      · rename_i r' hr'
        cases h
        obtain ⟨h1, h2⟩ := rowsOf_get hr'
        refine ⟨by simp [h1], fun i hi hi' => ?_⟩
        cases i with
        | zero => exact ⟨c, rfl⟩
        | succ i => simpa using h2 i (by simpa using hi) (by simpa using hi')
      · cases h
    · cases h
def rows8 (l : List (List Int)) : Prop := ∀ b ∈ l, u8s b
instance (l : List (List Int)) : Decidable (rows8 l) := by unfold rows8; exact inferInstance
theorem nb_snoc (l : List (List Int)) (b : List Int) : l.map nb ++ [D.ints .u8 b none] = (l ++ [b]).map nb := by simp [nb]
theorem nbc_snoc (l : List (List Int)) (b : List Int) : l.map nbc ++ [D.ints .u8 b (some b.length)] = (l ++ [b]).map nbc := by simp [nbc]
theorem nbc_len (l : List (List Int)) : (l.map nbc).length = l.length := by simp
theorem nb_take (l : List (List Int)) (n : Nat) : (l.map nb).take n = (l.take n).map nb := by simp
theorem nb_drop (l : List (List Int)) (n : Nat) : (l.map nb).drop n = (l.drop n).map nb := by simp
theorem nb_len (l : List (List Int)) : (l.map nb).length = l.length := by simp
theorem nb_get (l : List (List Int)) (i : Nat) (h : i < (l.map nb).length) : (l.map nb)[i] = D.ints .u8 (l[i]'(by simpa using h)) none := by simp [nb]

set_option maxRecDepth 100000 in
theorem clip2_a (xs : List D) (hl : xs.length ≤ 1000000) : AFun Try.prog 65 [.sl 1 xs none] (.sl 1 xs (some xs.length)) := by
  refine afun_body (n := 9) Try.func65 rfl Try.ntmps65 rfl (by simp) ?_
  have hov := tab_nil (P := Try.prog)
  (repeat (first | ((first | refine x_seqX hov ?_ | refine x_regX hov ?_ | refine x_condB ?_); intro r hr; simp (maxSteps := 2000000) (disch := omega) only [push_cast, Nat.reduceAdd, Nat.reduceSub, Nat.reduceMul, Nat.reduceMod, Nat.reduceDiv, Int.reduceToNat, Int.reduceNeg, reduceCtorEq, ↓reduceIte, ↓Int.cast_ofNat_Int, Int.reduceAdd, Int.reduceSub, Int.reduceMul, Int.reduceDiv, Int.reduceMod, ↓Nat.reduceEqDiff, ↓Nat.reduceLT, ↓Nat.reduceLeDiff, ↓Nat.reduceBEq, ↓Int.reduceLT, ↓Int.reduceLE, ↓Int.reduceEq, List.take_length] at hr; subst hr; (first | refine ⟨_, by with_reducible rfl, ?_⟩ | refine .inl ⟨by with_reducible rfl, ?_⟩ | refine .inr ⟨by with_reducible rfl, ?_⟩); try simp only [xthen_n, xthen_x, xthen_r, xthen_g, xblock_n, xblock_r, xblock_g, xblock_x, xscope_n, xscope_r, xscope_x, ↓reduceIte, Nat.reduceEqDiff]) | refine awp_seq ?_ | refine awp_block ?_ | refine awp_scope ?_ | ((first | refine awp_skip ?_ | refine awp_exit ?_ | refine awp_ret ?_ | refine awp_label ?_); try simp only [xthen_n, xthen_x, xthen_r, xthen_g, xblock_n, xblock_r, xblock_g, xblock_x, xscope_n, xscope_r, xscope_x, ↓reduceIte, Nat.reduceEqDiff])))
  (refine x_ret0 (by first | exact .inl rfl | exact .inr rfl) ?_; intro r hr; simp (maxSteps := 2000000) (disch := omega) only [push_cast, Nat.reduceAdd, Nat.reduceSub, Nat.reduceMul, Nat.reduceMod, Nat.reduceDiv, Int.reduceToNat, Int.reduceNeg, reduceCtorEq, ↓reduceIte, ↓Int.cast_ofNat_Int, Int.reduceAdd, Int.reduceSub, Int.reduceMul, Int.reduceDiv, Int.reduceMod, ↓Nat.reduceEqDiff, ↓Nat.reduceLT, ↓Nat.reduceLeDiff, ↓Nat.reduceBEq, ↓Int.reduceLT, ↓Int.reduceLE, ↓Int.reduceEq, Try.results65] at hr; subst hr; refine ⟨_, by with_reducible rfl, ?_⟩; simp only [renV, renVs])
  exact ⟨by simp, trivial⟩
def clip2_F (us : List AV) : Option (AV × List Blk) := match us with
  | [.d (.sl n xs c)] => if xs.length ≤ 100000 ∧ c = none ∧ n = 1 then some (.d (.sl 1 xs (some xs.length)), []) else none
  | _ => none
theorem clip2_t : TellOk Try.prog 65 clip2_F := by
  intro us R BS h
  unfold clip2_F at h
  split at h
  · rename_i n xs c
    split at h
    · rename_i hc
      simp only [Option.some.injEq, Prod.mk.injEq] at h
      obtain ⟨rfl, rfl⟩ := h
      exact (by obtain ⟨h1, rfl, rfl⟩ := hc; exact clip2_a xs (by omega))
    · cases h
  · cases h
attribute [push_cast] clip2_F

/-! Whether a list begins with another one -/
set_option maxRecDepth 100000 in
set_option maxHeartbeats 4000000 in
theorem begins_a (ds es : List D) (xs ys : List (List Int)) (hd : rowsOf ds = some xs) (he : rowsOf es = some ys) (hl : xs.length ≤ 100000) (hl2 : ys.length ≤ 100000) (hx8 : rows8 xs) (hy8 : rows8 ys) : AFun Try.prog 41 [.sl 1 ds none, .sl 1 es none] (.v (.bool (decide (ys <+: xs)))) := by
  refine afun_body (n := 28) Try.func41 rfl Try.ntmps41 rfl (by simp) ?_
  have hov := tab_nil (P := Try.prog)
  obtain ⟨l1, g1⟩ := rowsOf_get hd
  obtain ⟨l2, g2⟩ := rowsOf_get he
  by_cases hlen : xs.length < ys.length
  · (repeat (first | ((first | refine x_seqX hov ?_ | refine x_regX hov ?_ | refine x_condB ?_); intro r hr; simp (maxSteps := 2000000) (disch := omega) only [push_cast, Nat.reduceAdd, Nat.reduceSub, Nat.reduceMul, Nat.reduceMod, Nat.reduceDiv, Int.reduceToNat, Int.reduceNeg, reduceCtorEq, ↓reduceIte, ↓Int.cast_ofNat_Int, Int.reduceAdd, Int.reduceSub, Int.reduceMul, Int.reduceDiv, Int.reduceMod, ↓Nat.reduceEqDiff, ↓Nat.reduceLT, ↓Nat.reduceLeDiff, ↓Nat.reduceBEq, ↓Int.reduceLT, ↓Int.reduceLE, ↓Int.reduceEq, l1, l2] at hr; subst hr; (first | refine ⟨_, by with_reducible rfl, ?_⟩ | refine .inl ⟨by with_reducible rfl, ?_⟩ | refine .inr ⟨by with_reducible rfl, ?_⟩); try simp only [xthen_n, xthen_x, xthen_r, xthen_g, xblock_n, xblock_r, xblock_g, xblock_x, xscope_n, xscope_r, xscope_x, ↓reduceIte, Nat.reduceEqDiff]) | refine awp_seq ?_ | refine awp_block ?_ | refine awp_scope ?_ | ((first | refine awp_skip ?_ | refine awp_exit ?_ | refine awp_ret ?_ | refine awp_label ?_); try simp only [xthen_n, xthen_x, xthen_r, xthen_g, xblock_n, xblock_r, xblock_g, xblock_x, xscope_n, xscope_r, xscope_x, ↓reduceIte, Nat.reduceEqDiff])))
    (refine x_ret0 (by first | exact .inl rfl | exact .inr rfl) ?_; intro r hr; simp (maxSteps := 2000000) (disch := omega) only [push_cast, Nat.reduceAdd, Nat.reduceSub, Nat.reduceMul, Nat.reduceMod, Nat.reduceDiv, Int.reduceToNat, Int.reduceNeg, reduceCtorEq, ↓reduceIte, ↓Int.cast_ofNat_Int, Int.reduceAdd, Int.reduceSub, Int.reduceMul, Int.reduceDiv, Int.reduceMod, ↓Nat.reduceEqDiff, ↓Nat.reduceLT, ↓Nat.reduceLeDiff, ↓Nat.reduceBEq, ↓Int.reduceLT, ↓Int.reduceLE, ↓Int.reduceEq, Try.results41] at hr; subst hr; refine ⟨_, by with_reducible rfl, ?_⟩; simp only [renV, renVs])
    have : ¬ ys <+: xs := fun h => by have := h.length_le; omega
    simp [this]
  · (repeat (first | ((first | refine x_seqX hov ?_ | refine x_regX hov ?_ | refine x_condB ?_); intro r hr; simp (maxSteps := 2000000) (disch := omega) only [push_cast, Nat.reduceAdd, Nat.reduceSub, Nat.reduceMul, Nat.reduceMod, Nat.reduceDiv, Int.reduceToNat, Int.reduceNeg, reduceCtorEq, ↓reduceIte, ↓Int.cast_ofNat_Int, Int.reduceAdd, Int.reduceSub, Int.reduceMul, Int.reduceDiv, Int.reduceMod, ↓Nat.reduceEqDiff, ↓Nat.reduceLT, ↓Nat.reduceLeDiff, ↓Nat.reduceBEq, ↓Int.reduceLT, ↓Int.reduceLE, ↓Int.reduceEq, l1, l2] at hr; subst hr; (first | refine ⟨_, by with_reducible rfl, ?_⟩ | refine .inl ⟨by with_reducible rfl, ?_⟩ | refine .inr ⟨by with_reducible rfl, ?_⟩); try simp only [xthen_n, xthen_x, xthen_r, xthen_g, xblock_n, xblock_r, xblock_g, xblock_x, xscope_n, xscope_r, xscope_x, ↓reduceIte, Nat.reduceEqDiff]) | refine awp_seq ?_ | refine awp_block ?_ | refine awp_scope ?_ | ((first | refine awp_skip ?_ | refine awp_exit ?_ | refine awp_ret ?_ | refine awp_label ?_); try simp only [xthen_n, xthen_x, xthen_r, xthen_g, xblock_n, xblock_r, xblock_g, xblock_x, xscope_n, xscope_r, xscope_x, ↓reduceIte, Nat.reduceEqDiff])))
    refine awp_loop (ι := Nat) (fun k => ⟨28, [(0, .d (.sl 1 ds none)), (1, .d (.sl 1 es none)), (5, .d (.v (.int .i64 k)))], []⟩)
      (fun k => k ≤ ys.length ∧ ys.take k = xs.take k) (fun k => ys.length - k) 0 ⟨by omega, by simp⟩ (by refine sub_lists ?_ ?_ <;> simp (maxSteps := 2000000) (disch := omega) only [push_cast, Nat.reduceAdd, Nat.reduceSub, Nat.reduceMul, Nat.reduceMod, Nat.reduceDiv, Int.reduceToNat, Int.reduceNeg, reduceCtorEq, ↓reduceIte, ↓Int.cast_ofNat_Int, Int.reduceAdd, Int.reduceSub, Int.reduceMul, Int.reduceDiv, Int.reduceMod, ↓Nat.reduceEqDiff, ↓Nat.reduceLT, ↓Nat.reduceLeDiff, ↓Nat.reduceBEq, ↓Int.reduceLT, ↓Int.reduceLE, ↓Int.reduceEq, subT, subH, Int.natCast_zero]) ?_
    rintro k ⟨hk, he⟩
    by_cases hlt : k < ys.length
    · have hlx : k < xs.length := by omega
      obtain ⟨c1, e1⟩ := g1 k (by omega) hlx
      obtain ⟨c2, e2⟩ := g2 k (by omega) hlt
      by_cases hb : xs[k] = ys[k]
      · (repeat (first | ((first | refine x_seqX hov ?_ | refine x_regX hov ?_ | refine x_condB ?_); intro r hr; simp (maxSteps := 2000000) (disch := omega) only [push_cast, Nat.reduceAdd, Nat.reduceSub, Nat.reduceMul, Nat.reduceMod, Nat.reduceDiv, Int.reduceToNat, Int.reduceNeg, reduceCtorEq, ↓reduceIte, ↓Int.cast_ofNat_Int, Int.reduceAdd, Int.reduceSub, Int.reduceMul, Int.reduceDiv, Int.reduceMod, ↓Nat.reduceEqDiff, ↓Nat.reduceLT, ↓Nat.reduceLeDiff, ↓Nat.reduceBEq, ↓Int.reduceLT, ↓Int.reduceLE, ↓Int.reduceEq, l2] at hr; subst hr; (first | refine ⟨_, by with_reducible rfl, ?_⟩ | refine .inl ⟨by with_reducible rfl, ?_⟩ | refine .inr ⟨by with_reducible rfl, ?_⟩); try simp only [xthen_n, xthen_x, xthen_r, xthen_g, xblock_n, xblock_r, xblock_g, xblock_x, xscope_n, xscope_r, xscope_x, ↓reduceIte, Nat.reduceEqDiff]) | refine awp_seq ?_ | refine awp_block ?_ | refine awp_scope ?_ | ((first | refine awp_skip ?_ | refine awp_exit ?_ | refine awp_ret ?_ | refine awp_label ?_); try simp only [xthen_n, xthen_x, xthen_r, xthen_g, xblock_n, xblock_r, xblock_g, xblock_x, xscope_n, xscope_r, xscope_x, ↓reduceIte, Nat.reduceEqDiff])))
        (refine x_drawX ty_mixed hov 10 (by kernel_rfl) ?_; intro r hr; simp (maxSteps := 2000000) (disch := omega) only [push_cast, Nat.reduceAdd, Nat.reduceSub, Nat.reduceMul, Nat.reduceMod, Nat.reduceDiv, Int.reduceToNat, Int.reduceNeg, reduceCtorEq, ↓reduceIte, ↓Int.cast_ofNat_Int, Int.reduceAdd, Int.reduceSub, Int.reduceMul, Int.reduceDiv, Int.reduceMod, ↓Nat.reduceEqDiff, ↓Nat.reduceLT, ↓Nat.reduceLeDiff, ↓Nat.reduceBEq, ↓Int.reduceLT, ↓Int.reduceLE, ↓Int.reduceEq, e1, e2, hb] at hr; subst hr; refine ⟨_, _, by with_reducible rfl, ?_⟩; intro r hr; simp (maxSteps := 2000000) (disch := omega) only [push_cast, Nat.reduceAdd, Nat.reduceSub, Nat.reduceMul, Nat.reduceMod, Nat.reduceDiv, Int.reduceToNat, Int.reduceNeg, reduceCtorEq, ↓reduceIte, ↓Int.cast_ofNat_Int, Int.reduceAdd, Int.reduceSub, Int.reduceMul, Int.reduceDiv, Int.reduceMod, ↓Nat.reduceEqDiff, ↓Nat.reduceLT, ↓Nat.reduceLeDiff, ↓Nat.reduceBEq, ↓Int.reduceLT, ↓Int.reduceLE, ↓Int.reduceEq, e1, e2, hb] at hr; subst hr; refine ⟨_, by with_reducible rfl, ?_⟩; try simp only [xthen_n, xthen_x, xthen_r, xthen_g, xblock_n, xblock_r, xblock_g, xblock_x, xscope_n, xscope_r, xscope_x, ↓reduceIte, Nat.reduceEqDiff])
        (repeat (first | ((first | refine x_seqX hov ?_ | refine x_regX hov ?_ | refine x_condB ?_); intro r hr; simp (maxSteps := 2000000) (disch := omega) only [push_cast, Nat.reduceAdd, Nat.reduceSub, Nat.reduceMul, Nat.reduceMod, Nat.reduceDiv, Int.reduceToNat, Int.reduceNeg, reduceCtorEq, ↓reduceIte, ↓Int.cast_ofNat_Int, Int.reduceAdd, Int.reduceSub, Int.reduceMul, Int.reduceDiv, Int.reduceMod, ↓Nat.reduceEqDiff, ↓Nat.reduceLT, ↓Nat.reduceLeDiff, ↓Nat.reduceBEq, ↓Int.reduceLT, ↓Int.reduceLE, ↓Int.reduceEq] at hr; subst hr; (first | refine ⟨_, by with_reducible rfl, ?_⟩ | refine .inl ⟨by with_reducible rfl, ?_⟩ | refine .inr ⟨by with_reducible rfl, ?_⟩); try simp only [xthen_n, xthen_x, xthen_r, xthen_g, xblock_n, xblock_r, xblock_g, xblock_x, xscope_n, xscope_r, xscope_x, ↓reduceIte, Nat.reduceEqDiff]) | refine awp_seq ?_ | refine awp_block ?_ | refine awp_scope ?_ | ((first | refine awp_skip ?_ | refine awp_exit ?_ | refine awp_ret ?_ | refine awp_label ?_); try simp only [xthen_n, xthen_x, xthen_r, xthen_g, xblock_n, xblock_r, xblock_g, xblock_x, xscope_n, xscope_r, xscope_x, ↓reduceIte, Nat.reduceEqDiff])))
        refine ⟨k + 1, ⟨by omega, ?_⟩, (by refine sub_lists ?_ ?_ <;> simp (maxSteps := 2000000) (disch := omega) only [push_cast, Nat.reduceAdd, Nat.reduceSub, Nat.reduceMul, Nat.reduceMod, Nat.reduceDiv, Int.reduceToNat, Int.reduceNeg, reduceCtorEq, ↓reduceIte, ↓Int.cast_ofNat_Int, Int.reduceAdd, Int.reduceSub, Int.reduceMul, Int.reduceDiv, Int.reduceMod, ↓Nat.reduceEqDiff, ↓Nat.reduceLT, ↓Nat.reduceLeDiff, ↓Nat.reduceBEq, ↓Int.reduceLT, ↓Int.reduceLE, ↓Int.reduceEq, subT, subH, Int.natCast_add]), by omega⟩
        rw [List.take_succ_eq_append_getElem hlt, List.take_succ_eq_append_getElem hlx, he, hb]
      · have hne := strNe (hx8 xs[k] (by simp)) (hy8 ys[k] (by simp)) hb
        (repeat (first | ((first | refine x_seqX hov ?_ | refine x_regX hov ?_ | refine x_condB ?_); intro r hr; simp (maxSteps := 2000000) (disch := omega) only [push_cast, Nat.reduceAdd, Nat.reduceSub, Nat.reduceMul, Nat.reduceMod, Nat.reduceDiv, Int.reduceToNat, Int.reduceNeg, reduceCtorEq, ↓reduceIte, ↓Int.cast_ofNat_Int, Int.reduceAdd, Int.reduceSub, Int.reduceMul, Int.reduceDiv, Int.reduceMod, ↓Nat.reduceEqDiff, ↓Nat.reduceLT, ↓Nat.reduceLeDiff, ↓Nat.reduceBEq, ↓Int.reduceLT, ↓Int.reduceLE, ↓Int.reduceEq, l2] at hr; subst hr; (first | refine ⟨_, by with_reducible rfl, ?_⟩ | refine .inl ⟨by with_reducible rfl, ?_⟩ | refine .inr ⟨by with_reducible rfl, ?_⟩); try simp only [xthen_n, xthen_x, xthen_r, xthen_g, xblock_n, xblock_r, xblock_g, xblock_x, xscope_n, xscope_r, xscope_x, ↓reduceIte, Nat.reduceEqDiff]) | refine awp_seq ?_ | refine awp_block ?_ | refine awp_scope ?_ | ((first | refine awp_skip ?_ | refine awp_exit ?_ | refine awp_ret ?_ | refine awp_label ?_); try simp only [xthen_n, xthen_x, xthen_r, xthen_g, xblock_n, xblock_r, xblock_g, xblock_x, xscope_n, xscope_r, xscope_x, ↓reduceIte, Nat.reduceEqDiff])))
        (refine x_drawX ty_mixed hov 10 (by kernel_rfl) ?_; intro r hr; simp (maxSteps := 2000000) (disch := omega) only [push_cast, Nat.reduceAdd, Nat.reduceSub, Nat.reduceMul, Nat.reduceMod, Nat.reduceDiv, Int.reduceToNat, Int.reduceNeg, reduceCtorEq, ↓reduceIte, ↓Int.cast_ofNat_Int, Int.reduceAdd, Int.reduceSub, Int.reduceMul, Int.reduceDiv, Int.reduceMod, ↓Nat.reduceEqDiff, ↓Nat.reduceLT, ↓Nat.reduceLeDiff, ↓Nat.reduceBEq, ↓Int.reduceLT, ↓Int.reduceLE, ↓Int.reduceEq, e1, e2, hne] at hr; subst hr; refine ⟨_, _, by with_reducible rfl, ?_⟩; intro r hr; simp (maxSteps := 2000000) (disch := omega) only [push_cast, Nat.reduceAdd, Nat.reduceSub, Nat.reduceMul, Nat.reduceMod, Nat.reduceDiv, Int.reduceToNat, Int.reduceNeg, reduceCtorEq, ↓reduceIte, ↓Int.cast_ofNat_Int, Int.reduceAdd, Int.reduceSub, Int.reduceMul, Int.reduceDiv, Int.reduceMod, ↓Nat.reduceEqDiff, ↓Nat.reduceLT, ↓Nat.reduceLeDiff, ↓Nat.reduceBEq, ↓Int.reduceLT, ↓Int.reduceLE, ↓Int.reduceEq, e1, e2, hne] at hr; subst hr; refine ⟨_, by with_reducible rfl, ?_⟩; try simp only [xthen_n, xthen_x, xthen_r, xthen_g, xblock_n, xblock_r, xblock_g, xblock_x, xscope_n, xscope_r, xscope_x, ↓reduceIte, Nat.reduceEqDiff])
        (repeat (first | ((first | refine x_seqX hov ?_ | refine x_regX hov ?_ | refine x_condB ?_); intro r hr; simp (maxSteps := 2000000) (disch := omega) only [push_cast, Nat.reduceAdd, Nat.reduceSub, Nat.reduceMul, Nat.reduceMod, Nat.reduceDiv, Int.reduceToNat, Int.reduceNeg, reduceCtorEq, ↓reduceIte, ↓Int.cast_ofNat_Int, Int.reduceAdd, Int.reduceSub, Int.reduceMul, Int.reduceDiv, Int.reduceMod, ↓Nat.reduceEqDiff, ↓Nat.reduceLT, ↓Nat.reduceLeDiff, ↓Nat.reduceBEq, ↓Int.reduceLT, ↓Int.reduceLE, ↓Int.reduceEq] at hr; subst hr; (first | refine ⟨_, by with_reducible rfl, ?_⟩ | refine .inl ⟨by with_reducible rfl, ?_⟩ | refine .inr ⟨by with_reducible rfl, ?_⟩); try simp only [xthen_n, xthen_x, xthen_r, xthen_g, xblock_n, xblock_r, xblock_g, xblock_x, xscope_n, xscope_r, xscope_x, ↓reduceIte, Nat.reduceEqDiff]) | refine awp_seq ?_ | refine awp_block ?_ | refine awp_scope ?_ | ((first | refine awp_skip ?_ | refine awp_exit ?_ | refine awp_ret ?_ | refine awp_label ?_); try simp only [xthen_n, xthen_x, xthen_r, xthen_g, xblock_n, xblock_r, xblock_g, xblock_x, xscope_n, xscope_r, xscope_x, ↓reduceIte, Nat.reduceEqDiff])))
        (refine x_ret0 (by first | exact .inl rfl | exact .inr rfl) ?_; intro r hr; simp (maxSteps := 2000000) (disch := omega) only [push_cast, Nat.reduceAdd, Nat.reduceSub, Nat.reduceMul, Nat.reduceMod, Nat.reduceDiv, Int.reduceToNat, Int.reduceNeg, reduceCtorEq, ↓reduceIte, ↓Int.cast_ofNat_Int, Int.reduceAdd, Int.reduceSub, Int.reduceMul, Int.reduceDiv, Int.reduceMod, ↓Nat.reduceEqDiff, ↓Nat.reduceLT, ↓Nat.reduceLeDiff, ↓Nat.reduceBEq, ↓Int.reduceLT, ↓Int.reduceLE, ↓Int.reduceEq, Try.results41] at hr; subst hr; refine ⟨_, by with_reducible rfl, ?_⟩; simp only [renV, renVs])
        have : ¬ ys <+: xs := fun h => hb (by
          obtain ⟨r, rfl⟩ := h
          simp [List.getElem_append_left hlt])
        simp [this]
    · (repeat (first | ((first | refine x_seqX hov ?_ | refine x_regX hov ?_ | refine x_condB ?_); intro r hr; simp (maxSteps := 2000000) (disch := omega) only [push_cast, Nat.reduceAdd, Nat.reduceSub, Nat.reduceMul, Nat.reduceMod, Nat.reduceDiv, Int.reduceToNat, Int.reduceNeg, reduceCtorEq, ↓reduceIte, ↓Int.cast_ofNat_Int, Int.reduceAdd, Int.reduceSub, Int.reduceMul, Int.reduceDiv, Int.reduceMod, ↓Nat.reduceEqDiff, ↓Nat.reduceLT, ↓Nat.reduceLeDiff, ↓Nat.reduceBEq, ↓Int.reduceLT, ↓Int.reduceLE, ↓Int.reduceEq, l2] at hr; subst hr; (first | refine ⟨_, by with_reducible rfl, ?_⟩ | refine .inl ⟨by with_reducible rfl, ?_⟩ | refine .inr ⟨by with_reducible rfl, ?_⟩); try simp only [xthen_n, xthen_x, xthen_r, xthen_g, xblock_n, xblock_r, xblock_g, xblock_x, xscope_n, xscope_r, xscope_x, ↓reduceIte, Nat.reduceEqDiff]) | refine awp_seq ?_ | refine awp_block ?_ | refine awp_scope ?_ | ((first | refine awp_skip ?_ | refine awp_exit ?_ | refine awp_ret ?_ | refine awp_label ?_); try simp only [xthen_n, xthen_x, xthen_r, xthen_g, xblock_n, xblock_r, xblock_g, xblock_x, xscope_n, xscope_r, xscope_x, ↓reduceIte, Nat.reduceEqDiff])))
      (refine x_ret0 (by first | exact .inl rfl | exact .inr rfl) ?_; intro r hr; simp (maxSteps := 2000000) (disch := omega) only [push_cast, Nat.reduceAdd, Nat.reduceSub, Nat.reduceMul, Nat.reduceMod, Nat.reduceDiv, Int.reduceToNat, Int.reduceNeg, reduceCtorEq, ↓reduceIte, ↓Int.cast_ofNat_Int, Int.reduceAdd, Int.reduceSub, Int.reduceMul, Int.reduceDiv, Int.reduceMod, ↓Nat.reduceEqDiff, ↓Nat.reduceLT, ↓Nat.reduceLeDiff, ↓Nat.reduceBEq, ↓Int.reduceLT, ↓Int.reduceLE, ↓Int.reduceEq, Try.results41] at hr; subst hr; refine ⟨_, by with_reducible rfl, ?_⟩; simp only [renV, renVs])
      have hk : k = ys.length := by omega
      subst hk
      rw [List.take_length] at he
      have : ys <+: xs := by rw [he]; exact List.take_prefix _ _
      simp [this]
def begins_F (us : List AV) : Option (AV × List Blk) := match us with
  | [.d (.sl 1 xs none), .d (.sl 1 ys none)] => match rowsOf xs, rowsOf ys with
    | some a, some b => if a.length ≤ 100000 ∧ b.length ≤ 100000 ∧ rows8 a ∧ rows8 b then some (.d (.v (.bool (decide (b <+: a)))), []) else none
    | _, _ => none
  | _ => none
theorem begins_t : TellOk Try.prog 41 begins_F := by
  intro us R BS h
  unfold begins_F at h
  split at h
  · split at h
    · rename_i a b ha hb
      split at h
      · rename_i hc
        simp only [Option.some.injEq, Prod.mk.injEq] at h
        obtain ⟨rfl, rfl⟩ := h
        exact begins_a _ _ a b ha hb hc.1 hc.2.1 hc.2.2.1 hc.2.2.2
      · cases h
    · cases h
  · cases h
attribute [push_cast] begins_F rowsOf_map rowsOf_mapc

/-! Listen -/
theorem lisS_mid {l : List Int} {at_ : Nat} {out : List (List Int)} {dam : Nat} (h0 : lisS (l.take at_) = ⟨[], out, dam⟩) {e : Nat} (he : e < l.length) (hcur : lisS (l.take e) = ⟨(l.take e).drop at_, out, dam⟩) (hlt : at_ < e) (hn : ¬ (l[e] = 0 ∧ l[e - 1] = 2)) :
    lisS (l.take (e + 1)) = ⟨(l.take (e + 1)).drop at_, out, dam⟩ := by
  have hne : (l.take e).drop at_ ≠ [] := by
    intro h
    have := congrArg List.length h
    simp at this; omega
  have hlast : ((l.take e).drop at_).getLast? = some l[e - 1] := by
    rw [List.getLast?_drop, if_neg (by simp; omega), List.getLast?_take, if_neg (by omega)]
    simp [List.getElem?_eq_getElem (show e - 1 < l.length by omega)]
  rw [lisS_snoc he, hcur]
  unfold lisF
  rw [if_neg hne, if_neg (by rw [hlast]; intro h; exact hn ⟨h.1, by simpa using h.2⟩)]
  rw [take_snocI he, List.drop_append_of_le_length (by simp; omega)]
theorem lisS_fin {l : List Int} {at_ : Nat} {out : List (List Int)} {dam : Nat} {e : Nat} (he : e < l.length) (hcur : lisS (l.take e) = ⟨(l.take e).drop at_, out, dam⟩) (hlt : at_ < e) (h1 : l[e] = 0) (h2 : l[e - 1] = 2) :
    lisS (l.take (e + 1)) = lisEnd ⟨[], out, dam⟩ ((l.take (e + 1)).drop at_) := by
  have hne : (l.take e).drop at_ ≠ [] := by
    intro h
    have := congrArg List.length h
    simp at this; omega
  have hlast : ((l.take e).drop at_).getLast? = some l[e - 1] := by
    rw [List.getLast?_drop, if_neg (by simp; omega), List.getLast?_take, if_neg (by omega)]
    simp [List.getElem?_eq_getElem (show e - 1 < l.length by omega)]
  rw [lisS_snoc he, hcur]
  unfold lisF
  rw [if_neg hne, if_pos ⟨h1, by rw [hlast, h2]⟩]
  rw [take_snocI he, List.drop_append_of_le_length (by simp; omega)]
  unfold lisEnd
  split <;> rfl
theorem lisS_skip {l : List Int} {a : Nat} {out : List (List Int)} {dam : Nat} (h : a < l.length) (h0 : lisS (l.take a) = ⟨[], out, dam⟩) (h1 : l[a] = 0) : lisS (l.take (a + 1)) = ⟨[], out, dam⟩ := by
  rw [lisS_snoc h, h0]; unfold lisF; rw [if_pos rfl, if_pos h1]
theorem lisS_first {l : List Int} {a : Nat} {out : List (List Int)} {dam : Nat} (h : a < l.length) (h0 : lisS (l.take a) = ⟨[], out, dam⟩) (h1 : ¬ l[a] = 0) : lisS (l.take (a + 1)) = ⟨(l.take (a + 1)).drop a, out, dam⟩ := by
  rw [lisS_snoc h, h0]; unfold lisF; rw [if_pos rfl, if_neg h1, take_snocI h]
  rw [List.drop_append_of_le_length (by simp; omega), List.drop_of_length_le (by simp; omega), List.nil_append]
theorem lis_bound : ∀ (l : List Int) (s : LisS), (l.foldl lisF s).out.length ≤ s.out.length + l.length ∧ (l.foldl lisF s).dam ≤ s.dam + l.length
  | [], s => by simp
  | x :: l, s => by
    have h := lis_bound l (lisF s x)
    have h1 : (lisF s x).out.length ≤ s.out.length + 1 ∧ (lisF s x).dam ≤ s.dam + 1 := by
      unfold lisF
      split
      · split <;> simp
      · split
        · unfold lisEnd; split <;> simp
        · simp
    rw [List.foldl_cons, List.length_cons]
    omega
theorem lisS_bound (l : List Int) : (lisS l).out.length ≤ l.length ∧ (lisS l).dam ≤ l.length := by
  have := lis_bound l ⟨[], [], 0⟩
  simpa [lisS] using this

set_option maxRecDepth 100000 in
set_option maxHeartbeats 8000000 in
theorem listen_a (l : List Int) (hl : l.length ≤ 100000) (h8 : u8s l) : ARet Try.prog 40 [.ints .u8 l none] (.tup [.d (.sl 1 ((lisL l).1.map nbc) (some (lisL l).1.length)), .d (.v (.int .i64 ((lisL l).2 : Nat)))]) [] := by
  refine aret_body (n := 64) Try.func40 rfl Try.ntmps40 rfl (by simp) ?_
  have hov := tab_cons receive_t (tab_cons clip2_t (tab_nil (P := Try.prog)))
  (repeat (first | ((first | refine x_seqX hov ?_ | refine x_regX hov ?_ | refine x_condB ?_); intro r hr; simp (maxSteps := 2000000) (disch := omega) only [push_cast, Nat.reduceAdd, Nat.reduceSub, Nat.reduceMul, Nat.reduceMod, Nat.reduceDiv, Int.reduceToNat, Int.reduceNeg, reduceCtorEq, ↓reduceIte, ↓Int.cast_ofNat_Int, Int.reduceAdd, Int.reduceSub, Int.reduceMul, Int.reduceDiv, Int.reduceMod, ↓Nat.reduceEqDiff, ↓Nat.reduceLT, ↓Nat.reduceLeDiff, ↓Nat.reduceBEq, ↓Int.reduceLT, ↓Int.reduceLE, ↓Int.reduceEq] at hr; subst hr; (first | refine ⟨_, by with_reducible rfl, ?_⟩ | refine .inl ⟨by with_reducible rfl, ?_⟩ | refine .inr ⟨by with_reducible rfl, ?_⟩); try simp only [xthen_n, xthen_x, xthen_r, xthen_g, xblock_n, xblock_r, xblock_g, xblock_x, xscope_n, xscope_r, xscope_x, ↓reduceIte, Nat.reduceEqDiff]) | refine awp_seq ?_ | refine awp_block ?_ | refine awp_scope ?_ | ((first | refine awp_skip ?_ | refine awp_exit ?_ | refine awp_ret ?_ | refine awp_label ?_); try simp only [xthen_n, xthen_x, xthen_r, xthen_g, xblock_n, xblock_r, xblock_g, xblock_x, xscope_n, xscope_r, xscope_x, ↓reduceIte, Nat.reduceEqDiff])))
  (refine x_mat 2 1000 (.row 33 1 [] (some 0)) (by intro r hr; simp (maxSteps := 2000000) (disch := omega) only [push_cast, Nat.reduceAdd, Nat.reduceSub, Nat.reduceMul, Nat.reduceMod, Nat.reduceDiv, Int.reduceToNat, Int.reduceNeg, reduceCtorEq, ↓reduceIte, ↓Int.cast_ofNat_Int, Int.reduceAdd, Int.reduceSub, Int.reduceMul, Int.reduceDiv, Int.reduceMod, ↓Nat.reduceEqDiff, ↓Nat.reduceLT, ↓Nat.reduceLeDiff, ↓Nat.reduceBEq, ↓Int.reduceLT, ↓Int.reduceLE, ↓Int.reduceEq] at hr; subst hr; exact ⟨_, rfl, rfl⟩) (by omega) (by simp) (by first | exact .inl ⟨_, _, rfl⟩ | exact .inr ⟨_, _, rfl⟩) ?_; intro s' hs; simp (maxSteps := 2000000) (disch := omega) only [push_cast, Nat.reduceAdd, Nat.reduceSub, Nat.reduceMul, Nat.reduceMod, Nat.reduceDiv, Int.reduceToNat, Int.reduceNeg, reduceCtorEq, ↓reduceIte, ↓Int.cast_ofNat_Int, Int.reduceAdd, Int.reduceSub, Int.reduceMul, Int.reduceDiv, Int.reduceMod, ↓Nat.reduceEqDiff, ↓Nat.reduceLT, ↓Nat.reduceLeDiff, ↓Nat.reduceBEq, ↓Int.reduceLT, ↓Int.reduceLE, ↓Int.reduceEq, Bool.true_eq_false, St.mat] at hs; subst hs)
  (refine awp_wide 1000 ?_; intro s' hs; simp (maxSteps := 2000000) (disch := omega) only [push_cast, Nat.reduceAdd, Nat.reduceSub, Nat.reduceMul, Nat.reduceMod, Nat.reduceDiv, Int.reduceToNat, Int.reduceNeg, reduceCtorEq, ↓reduceIte, ↓Int.cast_ofNat_Int, Int.reduceAdd, Int.reduceSub, Int.reduceMul, Int.reduceDiv, Int.reduceMod, ↓Nat.reduceEqDiff, ↓Nat.reduceLT, ↓Nat.reduceLeDiff, ↓Nat.reduceBEq, ↓Int.reduceLT, ↓Int.reduceLE, ↓Int.reduceEq, Bool.true_eq_false, St.wide] at hs; subst hs)
  refine awp_loop (ι := Nat × List (List Int) × Nat) (fun i => ⟨64, [(0, .d (.ints .u8 l none)), (2, .own 1000), (3, .d (.v (.int .i64 (i.2.2 : Nat)))), (4, .d (.v (.int .i64 i.1)))], [(1000, .row 33 1 (i.2.1.map nbc) none)]⟩)
    (fun i => i.1 ≤ l.length ∧ lisS (l.take i.1) = ⟨[], i.2.1, i.2.2⟩) (fun i => l.length - i.1) (0, [], 0) ⟨by simp, rfl⟩ (by refine sub_lists ?_ ?_ <;> simp (maxSteps := 2000000) (disch := omega) only [push_cast, Nat.reduceAdd, Nat.reduceSub, Nat.reduceMul, Nat.reduceMod, Nat.reduceDiv, Int.reduceToNat, Int.reduceNeg, reduceCtorEq, ↓reduceIte, ↓Int.cast_ofNat_Int, Int.reduceAdd, Int.reduceSub, Int.reduceMul, Int.reduceDiv, Int.reduceMod, ↓Nat.reduceEqDiff, ↓Nat.reduceLT, ↓Nat.reduceLeDiff, ↓Nat.reduceBEq, ↓Int.reduceLT, ↓Int.reduceLE, ↓Int.reduceEq, subT, subH, Int.natCast_zero, List.map_nil]) ?_
  rintro ⟨a, out, dam⟩ ⟨ha, hs⟩
  dsimp only at ha hs
  have hb := lisS_bound (l.take a)
  rw [hs, List.length_take] at hb
  dsimp only at hb
  by_cases hlt : a < l.length
  · by_cases h0 : l[a] = 0
    · (repeat (first | ((first | refine x_seqX hov ?_ | refine x_regX hov ?_ | refine x_condB ?_); intro r hr; simp (maxSteps := 2000000) (disch := omega) only [push_cast, Nat.reduceAdd, Nat.reduceSub, Nat.reduceMul, Nat.reduceMod, Nat.reduceDiv, Int.reduceToNat, Int.reduceNeg, reduceCtorEq, ↓reduceIte, ↓Int.cast_ofNat_Int, Int.reduceAdd, Int.reduceSub, Int.reduceMul, Int.reduceDiv, Int.reduceMod, ↓Nat.reduceEqDiff, ↓Nat.reduceLT, ↓Nat.reduceLeDiff, ↓Nat.reduceBEq, ↓Int.reduceLT, ↓Int.reduceLE, ↓Int.reduceEq, h0] at hr; subst hr; (first | refine ⟨_, by with_reducible rfl, ?_⟩ | refine .inl ⟨by with_reducible rfl, ?_⟩ | refine .inr ⟨by with_reducible rfl, ?_⟩); try simp only [xthen_n, xthen_x, xthen_r, xthen_g, xblock_n, xblock_r, xblock_g, xblock_x, xscope_n, xscope_r, xscope_x, ↓reduceIte, Nat.reduceEqDiff]) | refine awp_seq ?_ | refine awp_block ?_ | refine awp_scope ?_ | ((first | refine awp_skip ?_ | refine awp_exit ?_ | refine awp_ret ?_ | refine awp_label ?_); try simp only [xthen_n, xthen_x, xthen_r, xthen_g, xblock_n, xblock_r, xblock_g, xblock_x, xscope_n, xscope_r, xscope_x, ↓reduceIte, Nat.reduceEqDiff])))
      refine ⟨(a + 1, out, dam), ⟨by dsimp only; omega, lisS_skip hlt hs h0⟩, (by refine sub_lists ?_ ?_ <;> simp (maxSteps := 2000000) (disch := omega) only [push_cast, Nat.reduceAdd, Nat.reduceSub, Nat.reduceMul, Nat.reduceMod, Nat.reduceDiv, Int.reduceToNat, Int.reduceNeg, reduceCtorEq, ↓reduceIte, ↓Int.cast_ofNat_Int, Int.reduceAdd, Int.reduceSub, Int.reduceMul, Int.reduceDiv, Int.reduceMod, ↓Nat.reduceEqDiff, ↓Nat.reduceLT, ↓Nat.reduceLeDiff, ↓Nat.reduceBEq, ↓Int.reduceLT, ↓Int.reduceLE, ↓Int.reduceEq, subT, subH, Int.natCast_add]), by dsimp only; omega⟩
    · (repeat (first | ((first | refine x_seqX hov ?_ | refine x_regX hov ?_ | refine x_condB ?_); intro r hr; simp (maxSteps := 2000000) (disch := omega) only [push_cast, Nat.reduceAdd, Nat.reduceSub, Nat.reduceMul, Nat.reduceMod, Nat.reduceDiv, Int.reduceToNat, Int.reduceNeg, reduceCtorEq, ↓reduceIte, ↓Int.cast_ofNat_Int, Int.reduceAdd, Int.reduceSub, Int.reduceMul, Int.reduceDiv, Int.reduceMod, ↓Nat.reduceEqDiff, ↓Nat.reduceLT, ↓Nat.reduceLeDiff, ↓Nat.reduceBEq, ↓Int.reduceLT, ↓Int.reduceLE, ↓Int.reduceEq, h0] at hr; subst hr; (first | refine ⟨_, by with_reducible rfl, ?_⟩ | refine .inl ⟨by with_reducible rfl, ?_⟩ | refine .inr ⟨by with_reducible rfl, ?_⟩); try simp only [xthen_n, xthen_x, xthen_r, xthen_g, xblock_n, xblock_r, xblock_g, xblock_x, xscope_n, xscope_r, xscope_x, ↓reduceIte, Nat.reduceEqDiff]) | refine awp_seq ?_ | refine awp_block ?_ | refine awp_scope ?_ | ((first | refine awp_skip ?_ | refine awp_exit ?_ | refine awp_ret ?_ | refine awp_label ?_); try simp only [xthen_n, xthen_x, xthen_r, xthen_g, xblock_n, xblock_r, xblock_g, xblock_x, xscope_n, xscope_r, xscope_x, ↓reduceIte, Nat.reduceEqDiff])))
      refine awp_loop (ι := Nat) (fun e => ⟨64, [(0, .d (.ints .u8 l none)), (2, .own 1000), (3, .d (.v (.int .i64 (dam : Nat)))), (4, .d (.v (.int .i64 a))), (5, .d (.v (.int .i64 e)))], [(1000, .row 33 1 (out.map nbc) none)]⟩)
        (fun e => a < e ∧ e ≤ l.length ∧ lisS (l.take e) = ⟨(l.take e).drop a, out, dam⟩) (fun e => l.length - e) (a + 1) ⟨by omega, by omega, lisS_first hlt hs h0⟩ (by refine sub_lists ?_ ?_ <;> simp (maxSteps := 2000000) (disch := omega) only [push_cast, Nat.reduceAdd, Nat.reduceSub, Nat.reduceMul, Nat.reduceMod, Nat.reduceDiv, Int.reduceToNat, Int.reduceNeg, reduceCtorEq, ↓reduceIte, ↓Int.cast_ofNat_Int, Int.reduceAdd, Int.reduceSub, Int.reduceMul, Int.reduceDiv, Int.reduceMod, ↓Nat.reduceEqDiff, ↓Nat.reduceLT, ↓Nat.reduceLeDiff, ↓Nat.reduceBEq, ↓Int.reduceLT, ↓Int.reduceLE, ↓Int.reduceEq, subT, subH, Int.natCast_add]) ?_
      rintro e ⟨he1, he2, hc⟩
      by_cases hel : e < l.length
      · have n1 : ((e : Int) - 1).toNat = e - 1 := by omega
        have n2 : ((e : Int) + 1).toNat = e + 1 := by omega
        have hel1 : e - 1 < l.length := by omega
        by_cases hx : l[e] = 0
        · by_cases hy : l[e - 1] = 2
          · have hf := lisS_fin hel hc he1 hx hy
            obtain ⟨z, hz⟩ : ∃ z, (l.take (e + 1)).drop a = z := ⟨_, rfl⟩
            have hz8 : u8s z := fun x hx => h8 x (List.mem_of_mem_take (List.mem_of_mem_drop (by rw [hz]; exact hx)))
            have hzl : z.length ≤ 100000 := by rw [← hz, List.length_drop, List.length_take]; omega
            rw [hz] at hf
            unfold lisEnd at hf
            by_cases hk : (recvX z).1 = 0
            · rw [if_pos hk] at hf
              (repeat (first | ((first | refine x_seqX hov ?_ | refine x_regX hov ?_ | refine x_condB ?_); intro r hr; simp (maxSteps := 2000000) (disch := omega) only [push_cast, Nat.reduceAdd, Nat.reduceSub, Nat.reduceMul, Nat.reduceMod, Nat.reduceDiv, Int.reduceToNat, Int.reduceNeg, reduceCtorEq, ↓reduceIte, ↓Int.cast_ofNat_Int, Int.reduceAdd, Int.reduceSub, Int.reduceMul, Int.reduceDiv, Int.reduceMod, ↓Nat.reduceEqDiff, ↓Nat.reduceLT, ↓Nat.reduceLeDiff, ↓Nat.reduceBEq, ↓Int.reduceLT, ↓Int.reduceLE, ↓Int.reduceEq, hx, hy, n1, n2, hz, hz8, hk, nbc_len] at hr; subst hr; (first | refine ⟨_, by with_reducible rfl, ?_⟩ | refine .inl ⟨by with_reducible rfl, ?_⟩ | refine .inr ⟨by with_reducible rfl, ?_⟩); try simp only [xthen_n, xthen_x, xthen_r, xthen_g, xblock_n, xblock_r, xblock_g, xblock_x, xscope_n, xscope_r, xscope_x, ↓reduceIte, Nat.reduceEqDiff]) | refine awp_seq ?_ | refine awp_block ?_ | refine awp_scope ?_ | ((first | refine awp_skip ?_ | refine awp_exit ?_ | refine awp_ret ?_ | refine awp_label ?_); try simp only [xthen_n, xthen_x, xthen_r, xthen_g, xblock_n, xblock_r, xblock_g, xblock_x, xscope_n, xscope_r, xscope_x, ↓reduceIte, Nat.reduceEqDiff])))
              refine ⟨(e + 1, out ++ [(recvX z).2], dam), ⟨by dsimp only; omega, hf⟩, ?_, by dsimp only; omega⟩
              rw [← nbc_snoc]
              exact (by refine sub_lists ?_ ?_ <;> simp (maxSteps := 2000000) (disch := omega) only [push_cast, Nat.reduceAdd, Nat.reduceSub, Nat.reduceMul, Nat.reduceMod, Nat.reduceDiv, Int.reduceToNat, Int.reduceNeg, reduceCtorEq, ↓reduceIte, ↓Int.cast_ofNat_Int, Int.reduceAdd, Int.reduceSub, Int.reduceMul, Int.reduceDiv, Int.reduceMod, ↓Nat.reduceEqDiff, ↓Nat.reduceLT, ↓Nat.reduceLeDiff, ↓Nat.reduceBEq, ↓Int.reduceLT, ↓Int.reduceLE, ↓Int.reduceEq, subT, subH, Int.natCast_add])
            · rw [if_neg hk] at hf
              (repeat (first | ((first | refine x_seqX hov ?_ | refine x_regX hov ?_ | refine x_condB ?_); intro r hr; simp (maxSteps := 2000000) (disch := omega) only [push_cast, Nat.reduceAdd, Nat.reduceSub, Nat.reduceMul, Nat.reduceMod, Nat.reduceDiv, Int.reduceToNat, Int.reduceNeg, reduceCtorEq, ↓reduceIte, ↓Int.cast_ofNat_Int, Int.reduceAdd, Int.reduceSub, Int.reduceMul, Int.reduceDiv, Int.reduceMod, ↓Nat.reduceEqDiff, ↓Nat.reduceLT, ↓Nat.reduceLeDiff, ↓Nat.reduceBEq, ↓Int.reduceLT, ↓Int.reduceLE, ↓Int.reduceEq, hx, hy, n1, n2, hz, hz8, hk, nbc_len] at hr; subst hr; (first | refine ⟨_, by with_reducible rfl, ?_⟩ | refine .inl ⟨by with_reducible rfl, ?_⟩ | refine .inr ⟨by with_reducible rfl, ?_⟩); try simp only [xthen_n, xthen_x, xthen_r, xthen_g, xblock_n, xblock_r, xblock_g, xblock_x, xscope_n, xscope_r, xscope_x, ↓reduceIte, Nat.reduceEqDiff]) | refine awp_seq ?_ | refine awp_block ?_ | refine awp_scope ?_ | ((first | refine awp_skip ?_ | refine awp_exit ?_ | refine awp_ret ?_ | refine awp_label ?_); try simp only [xthen_n, xthen_x, xthen_r, xthen_g, xblock_n, xblock_r, xblock_g, xblock_x, xscope_n, xscope_r, xscope_x, ↓reduceIte, Nat.reduceEqDiff])))
              refine ⟨(e + 1, out, dam + 1), ⟨by dsimp only; omega, hf⟩, (by refine sub_lists ?_ ?_ <;> simp (maxSteps := 2000000) (disch := omega) only [push_cast, Nat.reduceAdd, Nat.reduceSub, Nat.reduceMul, Nat.reduceMod, Nat.reduceDiv, Int.reduceToNat, Int.reduceNeg, reduceCtorEq, ↓reduceIte, ↓Int.cast_ofNat_Int, Int.reduceAdd, Int.reduceSub, Int.reduceMul, Int.reduceDiv, Int.reduceMod, ↓Nat.reduceEqDiff, ↓Nat.reduceLT, ↓Nat.reduceLeDiff, ↓Nat.reduceBEq, ↓Int.reduceLT, ↓Int.reduceLE, ↓Int.reduceEq, subT, subH, Int.natCast_add]), by dsimp only; omega⟩
          · (repeat (first | ((first | refine x_seqX hov ?_ | refine x_regX hov ?_ | refine x_condB ?_); intro r hr; simp (maxSteps := 2000000) (disch := omega) only [push_cast, Nat.reduceAdd, Nat.reduceSub, Nat.reduceMul, Nat.reduceMod, Nat.reduceDiv, Int.reduceToNat, Int.reduceNeg, reduceCtorEq, ↓reduceIte, ↓Int.cast_ofNat_Int, Int.reduceAdd, Int.reduceSub, Int.reduceMul, Int.reduceDiv, Int.reduceMod, ↓Nat.reduceEqDiff, ↓Nat.reduceLT, ↓Nat.reduceLeDiff, ↓Nat.reduceBEq, ↓Int.reduceLT, ↓Int.reduceLE, ↓Int.reduceEq, hx, hy, n1, n2] at hr; subst hr; (first | refine ⟨_, by with_reducible rfl, ?_⟩ | refine .inl ⟨by with_reducible rfl, ?_⟩ | refine .inr ⟨by with_reducible rfl, ?_⟩); try simp only [xthen_n, xthen_x, xthen_r, xthen_g, xblock_n, xblock_r, xblock_g, xblock_x, xscope_n, xscope_r, xscope_x, ↓reduceIte, Nat.reduceEqDiff]) | refine awp_seq ?_ | refine awp_block ?_ | refine awp_scope ?_ | ((first | refine awp_skip ?_ | refine awp_exit ?_ | refine awp_ret ?_ | refine awp_label ?_); try simp only [xthen_n, xthen_x, xthen_r, xthen_g, xblock_n, xblock_r, xblock_g, xblock_x, xscope_n, xscope_r, xscope_x, ↓reduceIte, Nat.reduceEqDiff])))
            refine ⟨e + 1, ⟨by omega, by omega, lisS_mid hs hel hc he1 (fun h => hy h.2)⟩, (by refine sub_lists ?_ ?_ <;> simp (maxSteps := 2000000) (disch := omega) only [push_cast, Nat.reduceAdd, Nat.reduceSub, Nat.reduceMul, Nat.reduceMod, Nat.reduceDiv, Int.reduceToNat, Int.reduceNeg, reduceCtorEq, ↓reduceIte, ↓Int.cast_ofNat_Int, Int.reduceAdd, Int.reduceSub, Int.reduceMul, Int.reduceDiv, Int.reduceMod, ↓Nat.reduceEqDiff, ↓Nat.reduceLT, ↓Nat.reduceLeDiff, ↓Nat.reduceBEq, ↓Int.reduceLT, ↓Int.reduceLE, ↓Int.reduceEq, subT, subH, Int.natCast_add]), by omega⟩
        · (repeat (first | ((first | refine x_seqX hov ?_ | refine x_regX hov ?_ | refine x_condB ?_); intro r hr; simp (maxSteps := 2000000) (disch := omega) only [push_cast, Nat.reduceAdd, Nat.reduceSub, Nat.reduceMul, Nat.reduceMod, Nat.reduceDiv, Int.reduceToNat, Int.reduceNeg, reduceCtorEq, ↓reduceIte, ↓Int.cast_ofNat_Int, Int.reduceAdd, Int.reduceSub, Int.reduceMul, Int.reduceDiv, Int.reduceMod, ↓Nat.reduceEqDiff, ↓Nat.reduceLT, ↓Nat.reduceLeDiff, ↓Nat.reduceBEq, ↓Int.reduceLT, ↓Int.reduceLE, ↓Int.reduceEq, hx] at hr; subst hr; (first | refine ⟨_, by with_reducible rfl, ?_⟩ | refine .inl ⟨by with_reducible rfl, ?_⟩ | refine .inr ⟨by with_reducible rfl, ?_⟩); try simp only [xthen_n, xthen_x, xthen_r, xthen_g, xblock_n, xblock_r, xblock_g, xblock_x, xscope_n, xscope_r, xscope_x, ↓reduceIte, Nat.reduceEqDiff]) | refine awp_seq ?_ | refine awp_block ?_ | refine awp_scope ?_ | ((first | refine awp_skip ?_ | refine awp_exit ?_ | refine awp_ret ?_ | refine awp_label ?_); try simp only [xthen_n, xthen_x, xthen_r, xthen_g, xblock_n, xblock_r, xblock_g, xblock_x, xscope_n, xscope_r, xscope_x, ↓reduceIte, Nat.reduceEqDiff])))
          refine ⟨e + 1, ⟨by omega, by omega, lisS_mid hs hel hc he1 (fun h => hx h.1)⟩, (by refine sub_lists ?_ ?_ <;> simp (maxSteps := 2000000) (disch := omega) only [push_cast, Nat.reduceAdd, Nat.reduceSub, Nat.reduceMul, Nat.reduceMod, Nat.reduceDiv, Int.reduceToNat, Int.reduceNeg, reduceCtorEq, ↓reduceIte, ↓Int.cast_ofNat_Int, Int.reduceAdd, Int.reduceSub, Int.reduceMul, Int.reduceDiv, Int.reduceMod, ↓Nat.reduceEqDiff, ↓Nat.reduceLT, ↓Nat.reduceLeDiff, ↓Nat.reduceBEq, ↓Int.reduceLT, ↓Int.reduceLE, ↓Int.reduceEq, subT, subH, Int.natCast_add]), by omega⟩
      · have : e = l.length := by omega
        subst this
        rw [List.take_length] at hc
        have hne : l.drop a ≠ [] := by
          intro h
          have := congrArg List.length h
          simp at this; omega
        have hL : lisL l = (out, dam + 1) := by unfold lisL; rw [hc]; simp [hne]
        rw [hL]
        (repeat (first | ((first | refine x_seqX hov ?_ | refine x_regX hov ?_ | refine x_condB ?_); intro r hr; simp (maxSteps := 2000000) (disch := omega) only [push_cast, Nat.reduceAdd, Nat.reduceSub, Nat.reduceMul, Nat.reduceMod, Nat.reduceDiv, Int.reduceToNat, Int.reduceNeg, reduceCtorEq, ↓reduceIte, ↓Int.cast_ofNat_Int, Int.reduceAdd, Int.reduceSub, Int.reduceMul, Int.reduceDiv, Int.reduceMod, ↓Nat.reduceEqDiff, ↓Nat.reduceLT, ↓Nat.reduceLeDiff, ↓Nat.reduceBEq, ↓Int.reduceLT, ↓Int.reduceLE, ↓Int.reduceEq, nbc_len] at hr; subst hr; (first | refine ⟨_, by with_reducible rfl, ?_⟩ | refine .inl ⟨by with_reducible rfl, ?_⟩ | refine .inr ⟨by with_reducible rfl, ?_⟩); try simp only [xthen_n, xthen_x, xthen_r, xthen_g, xblock_n, xblock_r, xblock_g, xblock_x, xscope_n, xscope_r, xscope_x, ↓reduceIte, Nat.reduceEqDiff]) | refine awp_seq ?_ | refine awp_block ?_ | refine awp_scope ?_ | ((first | refine awp_skip ?_ | refine awp_exit ?_ | refine awp_ret ?_ | refine awp_label ?_); try simp only [xthen_n, xthen_x, xthen_r, xthen_g, xblock_n, xblock_r, xblock_g, xblock_x, xscope_n, xscope_r, xscope_x, ↓reduceIte, Nat.reduceEqDiff])))
        (refine x_ret0 (by first | exact .inl rfl | exact .inr rfl) ?_; intro r hr; simp (maxSteps := 2000000) (disch := omega) only [push_cast, Nat.reduceAdd, Nat.reduceSub, Nat.reduceMul, Nat.reduceMod, Nat.reduceDiv, Int.reduceToNat, Int.reduceNeg, reduceCtorEq, ↓reduceIte, ↓Int.cast_ofNat_Int, Int.reduceAdd, Int.reduceSub, Int.reduceMul, Int.reduceDiv, Int.reduceMod, ↓Nat.reduceEqDiff, ↓Nat.reduceLT, ↓Nat.reduceLeDiff, ↓Nat.reduceBEq, ↓Int.reduceLT, ↓Int.reduceLE, ↓Int.reduceEq, Try.results40, nbc_len] at hr; subst hr; refine ⟨_, by with_reducible rfl, ?_⟩; simp only [renV, renVs])
        (first | exact ⟨trivial, trivial⟩ | exact ⟨trivial, rfl⟩ | exact ⟨rfl, trivial⟩ | exact ⟨rfl, rfl⟩)
  · rw [List.take_of_length_le (by omega)] at hs
    have hL : lisL l = (out, dam) := by unfold lisL; rw [hs]; simp
    rw [hL]
    (repeat (first | ((first | refine x_seqX hov ?_ | refine x_regX hov ?_ | refine x_condB ?_); intro r hr; simp (maxSteps := 2000000) (disch := omega) only [push_cast, Nat.reduceAdd, Nat.reduceSub, Nat.reduceMul, Nat.reduceMod, Nat.reduceDiv, Int.reduceToNat, Int.reduceNeg, reduceCtorEq, ↓reduceIte, ↓Int.cast_ofNat_Int, Int.reduceAdd, Int.reduceSub, Int.reduceMul, Int.reduceDiv, Int.reduceMod, ↓Nat.reduceEqDiff, ↓Nat.reduceLT, ↓Nat.reduceLeDiff, ↓Nat.reduceBEq, ↓Int.reduceLT, ↓Int.reduceLE, ↓Int.reduceEq, nbc_len] at hr; subst hr; (first | refine ⟨_, by with_reducible rfl, ?_⟩ | refine .inl ⟨by with_reducible rfl, ?_⟩ | refine .inr ⟨by with_reducible rfl, ?_⟩); try simp only [xthen_n, xthen_x, xthen_r, xthen_g, xblock_n, xblock_r, xblock_g, xblock_x, xscope_n, xscope_r, xscope_x, ↓reduceIte, Nat.reduceEqDiff]) | refine awp_seq ?_ | refine awp_block ?_ | refine awp_scope ?_ | ((first | refine awp_skip ?_ | refine awp_exit ?_ | refine awp_ret ?_ | refine awp_label ?_); try simp only [xthen_n, xthen_x, xthen_r, xthen_g, xblock_n, xblock_r, xblock_g, xblock_x, xscope_n, xscope_r, xscope_x, ↓reduceIte, Nat.reduceEqDiff])))
    (refine x_ret0 (by first | exact .inl rfl | exact .inr rfl) ?_; intro r hr; simp (maxSteps := 2000000) (disch := omega) only [push_cast, Nat.reduceAdd, Nat.reduceSub, Nat.reduceMul, Nat.reduceMod, Nat.reduceDiv, Int.reduceToNat, Int.reduceNeg, reduceCtorEq, ↓reduceIte, ↓Int.cast_ofNat_Int, Int.reduceAdd, Int.reduceSub, Int.reduceMul, Int.reduceDiv, Int.reduceMod, ↓Nat.reduceEqDiff, ↓Nat.reduceLT, ↓Nat.reduceLeDiff, ↓Nat.reduceBEq, ↓Int.reduceLT, ↓Int.reduceLE, ↓Int.reduceEq, Try.results40, nbc_len] at hr; subst hr; refine ⟨_, by with_reducible rfl, ?_⟩; simp only [renV, renVs])
    (first | exact ⟨trivial, trivial⟩ | exact ⟨trivial, rfl⟩ | exact ⟨rfl, trivial⟩ | exact ⟨rfl, rfl⟩)
end Go.Proofs.Ytolmhlikmjkkfaa
