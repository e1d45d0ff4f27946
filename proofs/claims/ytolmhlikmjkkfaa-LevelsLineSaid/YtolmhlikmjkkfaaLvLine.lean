/-
  The statement LevelsLine: the law's walk.
  Conditions: none.
-/
import Derived.Test.YtolmhlikmjkkfaaLvL
namespace Go.Proofs.Ytolmhlikmjkkfaa
open Go.RowKit
set_option linter.unusedVariables false

/-- Read from between two packets, it gives these packets. -/
def TailP (post : List Int) (rest : List (List Int)) : Prop := ∀ s : LisS, s.cur = [] → post.foldl lisF s = ⟨[], s.out ++ rest, s.dam⟩
/-- The same of what lies behind a first part, behind which no packet has begun, however it was read. -/
def TailQ (post : List Int) (rest : List (List Int)) : Prop := (post = [] ∧ rest = []) ∨ ∃ b rest' p post', rest = b :: rest' ∧ post = p ++ post' ∧ (∀ s : LisS, (p.foldl lisF s).cur = []) ∧ TailP post' rest'
theorem tailP_nil : TailP [] [] := fun s hs => by
  obtain ⟨c, o, d⟩ := s
  simp only at hs
  subst hs
  simp
theorem tailP_one {b : List Int} (h8 : u8s b) (h0 : b ≠ []) (hl : b.length ≤ 1027) (n : Nat) : TailP (List.replicate n 0 ++ sendL b) [b] := fun s hs => by
  rw [List.foldl_append, lis_zeros n s hs, lis_send h8 h0 hl s hs]
theorem TailP.append {p q : List Int} {a b : List (List Int)} (h1 : TailP p a) (h2 : TailP q b) : TailP (p ++ q) (a ++ b) := fun s hs => by
  rw [List.foldl_append, h1 s hs, h2 _ rfl, List.append_assoc]
theorem TailQ.snoc {post : List Int} {rest : List (List Int)} (h : TailQ post rest) {b : List Int} (h8 : u8s b) (h0 : b ≠ []) (hl : b.length ≤ 1027) (n : Nat) : TailQ (post ++ (List.replicate n 0 ++ sendL b)) (rest ++ [b]) := by
  rcases h with ⟨rfl, rfl⟩ | ⟨b', rest', p, post', rfl, rfl, hc, ht⟩
  · exact .inr ⟨b, [], List.replicate n 0 ++ sendL b, [], rfl, by simp, fun s => by rw [List.foldl_append]; exact lis_send_any b _, tailP_nil⟩
  · exact .inr ⟨b', rest' ++ [b], p, post' ++ (List.replicate n 0 ++ sendL b), rfl, by rw [List.append_assoc], hc, ht.append (tailP_one h8 h0 hl n)⟩

/-- The line l of the packets A; the one that will be changed: where it stands, begins, and how long it is. -/
structure LineI (l : List Int) (A : List (List Int)) (w f n : Nat) : Prop where
  u8 : u8s l
  good : TailP l A
  part : A ≠ [] → ∃ front b rest pre post, A = front ++ b :: rest ∧ l = pre ++ sendL b ++ post ∧ w = front.length ∧ f = pre.length ∧ n = (sendL b).length ∧ TailP pre front ∧ TailP post rest ∧ TailQ post rest
theorem lineI_nil : LineI [] [] 0 0 0 := ⟨fun x hx => by simp at hx, tailP_nil, fun h => absurd rfl h⟩
theorem zeros_u8 (n : Nat) : u8s (List.replicate n 0) := fun x hx => by rw [List.eq_of_mem_replicate hx]; omega
theorem u8s_append {a b : List Int} (ha : u8s a) (hb : u8s b) : u8s (a ++ b) := fun x hx => by
  rcases List.mem_append.1 hx with h | h
  · exact ha x h
  · exact hb x h
/-- Another packet, behind so many J; the one before stays the one that is changed. -/
theorem LineI.keep {l : List Int} {A : List (List Int)} {w f n : Nat} (h : LineI l A w f n) (hA : A ≠ []) {b : List Int} (h8 : u8s b) (h0 : b ≠ []) (hl : b.length ≤ 1027) (z : Nat) : LineI (l ++ List.replicate z 0 ++ sendL b) (A ++ [b]) w f n := by
  have e : l ++ List.replicate z 0 ++ sendL b = l ++ (List.replicate z 0 ++ sendL b) := by rw [List.append_assoc]
  rw [e]
  refine ⟨u8s_append h.u8 (u8s_append (zeros_u8 z) (sendL_u8 b)), h.good.append (tailP_one h8 h0 hl z), fun _ => ?_⟩
  obtain ⟨front, b', rest, pre, post, h1, h2, h3, h4, h5, h6, h7, h8'⟩ := h.part hA
  exact ⟨front, b', rest ++ [b], pre, post ++ (List.replicate z 0 ++ sendL b), by rw [h1]; simp, by rw [h2]; simp, h3, h4, h5, h6, h7.append (tailP_one h8 h0 hl z), h8'.snoc h8 h0 hl z⟩
/-- Another packet, which is the one that is changed. -/
theorem LineI.take {l : List Int} {A : List (List Int)} {w f n : Nat} (h : LineI l A w f n) {b : List Int} (h8 : u8s b) (h0 : b ≠ []) (hl : b.length ≤ 1027) (z : Nat) : LineI (l ++ List.replicate z 0 ++ sendL b) (A ++ [b]) A.length (l ++ List.replicate z 0).length (sendL b).length := by
  have e : l ++ List.replicate z 0 ++ sendL b = l ++ (List.replicate z 0 ++ sendL b) := by rw [List.append_assoc]
  have hz : TailP (List.replicate z 0) [] := fun s hs => by
    rw [lis_zeros z s hs]
    obtain ⟨c, o, d⟩ := s
    simp only at hs
    subst hs
    simp
  refine ⟨by rw [e]; exact u8s_append h.u8 (u8s_append (zeros_u8 z) (sendL_u8 b)), by rw [e]; exact h.good.append (tailP_one h8 h0 hl z), fun _ => ?_⟩
  exact ⟨A, b, [], l ++ List.replicate z 0, [], rfl, by simp, rfl, rfl, rfl, by have := h.good.append hz; simpa using this, tailP_nil, .inl ⟨rfl, rfl⟩⟩
theorem LineI.all {l : List Int} {A : List (List Int)} {w f n : Nat} (h : LineI l A w f n) : lisL l = (A, 0) := by
  have := h.good ⟨[], [], 0⟩ rfl
  unfold lisL lisS
  rw [this]; simp
/-- One state is changed: the packets in front stand at the beginning, those behind the next one at the end. -/
theorem LineI.change {l : List Int} {A : List (List Int)} {w f n : Nat} (h : LineI l A w f n) (hA : A ≠ []) {j : Nat} (hj : j < n) (x : Int) :
    A.take w <+: (lisL (l.set (f + j) x)).1 ∧ (w + 2 < A.length → (A.drop (w + 2)).length + w ≤ (lisL (l.set (f + j) x)).1.length ∧ A.drop (w + 2) <+: (lisL (l.set (f + j) x)).1.drop ((lisL (l.set (f + j) x)).1.length - (A.drop (w + 2)).length)) := by
  obtain ⟨front, b, rest, pre, post, h1, h2, h3, h4, h5, h6, h7, h8⟩ := h.part hA
  have hset : l.set (f + j) x = pre ++ (sendL b).set j x ++ post := by
    rw [h2, h4, List.append_assoc, List.set_append_right _ _ (by omega), Nat.add_sub_cancel_left, List.set_append_left _ _ (by omega), List.append_assoc]
  have htk : A.take w = front := by rw [h1, h3]; simp
  have hout : ∃ r, (lisL (l.set (f + j) x)).1 = front ++ r := by
    unfold lisL lisS
    rw [hset, List.append_assoc, List.foldl_append, h6 _ rfl]
    obtain ⟨r, hr⟩ := lis_out ((sendL b).set j x ++ post) ⟨[], ([] : List (List Int)) ++ front, 0⟩
    exact ⟨r, by dsimp only; rw [hr]; simp⟩
  refine ⟨?_, fun hw => ?_⟩
  · obtain ⟨r, hr⟩ := hout
    rw [htk, hr]; exact List.prefix_append _ _
  · rcases h8 with ⟨rfl, rfl⟩ | ⟨b', rest', p, post', rfl, rfl, hc, ht⟩
    · rw [h1, h3] at hw; simp at hw
    · have hdr : A.drop (w + 2) = rest' := by rw [h1, h3]; simp
      have hend : ∃ r, (lisL (l.set (f + j) x)).1 = front ++ r ++ rest' := by
        unfold lisL lisS
        rw [hset, List.append_assoc, List.foldl_append, h6 _ rfl, ← List.append_assoc, List.foldl_append]
        obtain ⟨r, hr⟩ := lis_out ((sendL b).set j x ++ p) ⟨[], ([] : List (List Int)) ++ front, 0⟩
        have hcur : (((sendL b).set j x ++ p).foldl lisF ⟨[], ([] : List (List Int)) ++ front, 0⟩).cur = [] := by rw [List.foldl_append]; exact hc _
        rw [ht _ hcur, hr]
        exact ⟨r, by simp⟩
      obtain ⟨r, hr⟩ := hend
      rw [hdr, hr, h3]
      refine ⟨by simp only [List.length_append]; omega, ?_⟩
      have : (front ++ r ++ rest').length - rest'.length = (front ++ r).length := by simp only [List.length_append]; omega
      rw [this, List.drop_left]
      exact List.prefix_refl _
set_option linter.unusedSimpArgs false

def listen_F (us : List AV) : Option (AV × List Blk) := match us with
  | [.d (.ints .u8 xs c)] => if xs.length ≤ 100000 ∧ c = none ∧ u8s xs then some (.tup [.d (.sl 1 ((lisL xs).1.map nbc) (some (lisL xs).1.length)), .d (.v (.int .i64 ((lisL xs).2 : Nat)))], []) else none
  | _ => none
theorem listen_t : TellOk Try.prog 40 listen_F := by
  intro us R BS h
  unfold listen_F at h
  split at h
  · rename_i xs c
    split at h
    · rename_i hc
      simp only [Option.some.injEq, Prod.mk.injEq] at h
      obtain ⟨rfl, rfl⟩ := h
      exact (by obtain ⟨h1, rfl, h2⟩ := hc; exact listen_a xs h1 h2)
    · cases h
  · cases h
attribute [push_cast] listen_F

theorem lisEnd_u8 {s : LisS} {l : List Int} (hl : u8s l) (ho : rows8 s.out) : u8s (lisEnd s l).cur ∧ rows8 (lisEnd s l).out := by
  unfold lisEnd
  split
  · rename_i h
    refine ⟨fun x hx => by simp at hx, fun b hb => ?_⟩
    simp only [List.mem_append, List.mem_singleton] at hb
    rcases hb with hb | rfl
    · exact ho b hb
    · exact (send_recv (b := (recvX l).2) hl (by rw [← h])).2.1
  · exact ⟨fun x hx => by simp at hx, ho⟩
theorem lis_u8s : ∀ (l : List Int) (s : LisS), u8s l → u8s s.cur → rows8 s.out → rows8 (l.foldl lisF s).out
  | [], s, _, _, h => h
  | x :: l, s, hl, hc, ho => by
    rw [List.foldl_cons]
    have hx := hl x (by simp)
    have hcx : u8s (s.cur ++ [x]) := u8s_append hc (fun y hy => by simp only [List.mem_singleton] at hy; rw [hy]; exact hx)
    have h1 : u8s (lisF s x).cur ∧ rows8 (lisF s x).out := by
      unfold lisF
      split
      · split
        · exact ⟨hc, ho⟩
        · exact ⟨fun y hy => by simp only [List.mem_singleton] at hy; rw [hy]; exact hx, ho⟩
      · split
        · exact lisEnd_u8 hcx ho
        · exact ⟨hcx, ho⟩
    exact lis_u8s l _ (fun y hy => hl y (by simp [hy])) h1.1 h1.2
theorem lis_u8 {l : List Int} (h : u8s l) : rows8 (lisL l).1 := lis_u8s l _ h (fun y hy => by simp at hy) (fun b hb => by simp at hb)
theorem nbc_drop (l : List (List Int)) (n : Nat) : (l.map nbc).drop n = (l.drop n).map nbc := by simp

/-- A known capacity is no hindrance. -/
theorem repD_cap {w : World} {F : Nat → Prop} {n : Nat} {xs : List D} {c : Option Nat} {u : Value} (h : RepD w F (.sl n xs c) u) : RepD w F (.sl n xs none) u := by
  simp only [RepD] at h ⊢
  obtain ⟨a, cap, vals, h1, h2, h3, h4, _, h5, h6⟩ := h
  exact ⟨a, cap, vals, h1, h2, h3, h4, by simp, h5, h6⟩
theorem afun_cap2 {P : Program} {f : FuncId} {n : Nat} {xs ys : List D} {c c' : Option Nat} {d : D} (h : AFun P f [.sl n xs none, .sl n ys none] d) : AFun P f [.sl n xs c, .sl n ys c'] d := by
  intro cx m us w h1 h2 h3
  refine h cx m us w h1 ?_ h3
  simp only [List.map_cons, List.map_nil, RepVs, RepV] at h2 ⊢
  obtain ⟨u1, r1, e1, k1, u2, r2, e2, k2, e3⟩ := h2
  exact ⟨u1, r1, e1, repD_cap k1, u2, r2, e2, repD_cap k2, e3⟩
def begins2_F (us : List AV) : Option (AV × List Blk) := match us with
  | [.d (.sl 1 xs _), .d (.sl 1 ys _)] => match rowsOf xs, rowsOf ys with
    | some a, some b => if a.length ≤ 100000 ∧ b.length ≤ 100000 ∧ rows8 a ∧ rows8 b then some (.d (.v (.bool (decide (b <+: a)))), []) else none
    | _, _ => none
  | _ => none
theorem begins2_t : TellOk Try.prog 41 begins2_F := by
  intro us R BS h
  unfold begins2_F at h
  split at h
  · split at h
    · rename_i a b ha hb
      split at h
      · rename_i hc
        simp only [Option.some.injEq, Prod.mk.injEq] at h
        obtain ⟨rfl, rfl⟩ := h
        exact afun_cap2 (begins_a _ _ a b ha hb hc.1 hc.2.1 hc.2.2.1 hc.2.2.2)
      · cases h
    · cases h
  · cases h
attribute [push_cast] begins2_F

def lineArg (ps : List (List Int)) (idle : List Int) (w a : Nat) (x : Int) : D := .agg [.sl 1 (ps.map nb) none, .ints .u8 idle none, .v (.int .u16 w), .v (.int .u16 a), .v (.int .u8 x)]

theorem natmod_cast (a n : Nat) : ((a : Int) % (n : Int)) = ((a % n : Nat) : Int) := by omega

set_option maxRecDepth 100000 in
set_option maxHeartbeats 16000000 in
theorem lineWalk_a (ps : List (List Int)) (idle : List Int) (wh at_ : Nat) (x : Int) (hp8 : ∀ p ∈ ps, u8s p) (hi8 : u8s idle) (hwh : wh ≤ 65535) (hat : at_ ≤ 65535) (hx8 : 0 ≤ x ∧ x < 256) (hpl : ps.length ≤ 9223372036854775807) (hil : idle.length ≤ 9223372036854775807) (hpp : ∀ p ∈ ps, p.length ≤ 9223372036854775807) :
    AFun Try.prog 13 [lineArg ps idle wh at_ x] (.v (.bool true)) := by
  have hov := tab_cons refSend_t (tab_cons lineLaw_t (tab_cons listen_t (tab_cons begins2_t (tab_cons lives_t (tab_nil (P := Try.prog))))))
  refine afun_body (n := 184) Try.func13 rfl Try.ntmps13 rfl (by simp) ?_
  unfold lineArg
  by_cases h8 : 8 < ps.length
  · (repeat (first | ((first | refine x_seqX hov ?_ | refine x_regX hov ?_ | refine x_condB ?_); intro r hr; simp (maxSteps := 2000000) (disch := omega) only [push_cast, Nat.reduceAdd, Nat.reduceSub, Nat.reduceMul, Nat.reduceMod, Nat.reduceDiv, Int.reduceToNat, Int.reduceNeg, reduceCtorEq, ↓reduceIte, ↓Int.cast_ofNat_Int, Int.reduceAdd, Int.reduceSub, Int.reduceMul, Int.reduceDiv, Int.reduceMod, ↓Nat.reduceEqDiff, ↓Nat.reduceLT, ↓Nat.reduceLeDiff, ↓Nat.reduceBEq, ↓Int.reduceLT, ↓Int.reduceLE, ↓Int.reduceEq, nb_len] at hr; subst hr; (first | refine ⟨_, by with_reducible rfl, ?_⟩ | refine .inl ⟨by with_reducible rfl, ?_⟩ | refine .inr ⟨by with_reducible rfl, ?_⟩); try simp only [xthen_n, xthen_x, xthen_r, xthen_g, xblock_n, xblock_r, xblock_g, xblock_x, xscope_n, xscope_r, xscope_x, ↓reduceIte, Nat.reduceEqDiff]) | refine awp_seq ?_ | refine awp_block ?_ | refine awp_scope ?_ | ((first | refine awp_skip ?_ | refine awp_exit ?_ | refine awp_ret ?_ | refine awp_label ?_); try simp only [xthen_n, xthen_x, xthen_r, xthen_g, xblock_n, xblock_r, xblock_g, xblock_x, xscope_n, xscope_r, xscope_x, ↓reduceIte, Nat.reduceEqDiff])))
    (refine x_ret0 (by first | exact .inl rfl | exact .inr rfl) ?_; intro r hr; simp (maxSteps := 2000000) (disch := omega) only [push_cast, Nat.reduceAdd, Nat.reduceSub, Nat.reduceMul, Nat.reduceMod, Nat.reduceDiv, Int.reduceToNat, Int.reduceNeg, reduceCtorEq, ↓reduceIte, ↓Int.cast_ofNat_Int, Int.reduceAdd, Int.reduceSub, Int.reduceMul, Int.reduceDiv, Int.reduceMod, ↓Nat.reduceEqDiff, ↓Nat.reduceLT, ↓Nat.reduceLeDiff, ↓Nat.reduceBEq, ↓Int.reduceLT, ↓Int.reduceLE, ↓Int.reduceEq, Try.results13] at hr; subst hr; refine ⟨_, by with_reducible rfl, ?_⟩; simp only [renV, renVs])
    (first | exact ⟨trivial, trivial⟩ | exact ⟨trivial, rfl⟩ | exact ⟨rfl, trivial⟩ | exact ⟨rfl, rfl⟩)
  (repeat (first | ((first | refine x_seqX hov ?_ | refine x_regX hov ?_ | refine x_condB ?_); intro r hr; simp (maxSteps := 2000000) (disch := omega) only [push_cast, Nat.reduceAdd, Nat.reduceSub, Nat.reduceMul, Nat.reduceMod, Nat.reduceDiv, Int.reduceToNat, Int.reduceNeg, reduceCtorEq, ↓reduceIte, ↓Int.cast_ofNat_Int, Int.reduceAdd, Int.reduceSub, Int.reduceMul, Int.reduceDiv, Int.reduceMod, ↓Nat.reduceEqDiff, ↓Nat.reduceLT, ↓Nat.reduceLeDiff, ↓Nat.reduceBEq, ↓Int.reduceLT, ↓Int.reduceLE, ↓Int.reduceEq, nb_len] at hr; subst hr; (first | refine ⟨_, by with_reducible rfl, ?_⟩ | refine .inl ⟨by with_reducible rfl, ?_⟩ | refine .inr ⟨by with_reducible rfl, ?_⟩); try simp only [xthen_n, xthen_x, xthen_r, xthen_g, xblock_n, xblock_r, xblock_g, xblock_x, xscope_n, xscope_r, xscope_x, ↓reduceIte, Nat.reduceEqDiff]) | refine awp_seq ?_ | refine awp_block ?_ | refine awp_scope ?_ | ((first | refine awp_skip ?_ | refine awp_exit ?_ | refine awp_ret ?_ | refine awp_label ?_); try simp only [xthen_n, xthen_x, xthen_r, xthen_g, xblock_n, xblock_r, xblock_g, xblock_x, xscope_n, xscope_r, xscope_x, ↓reduceIte, Nat.reduceEqDiff])))
  (refine x_mat 3 1000 (.ints 5 .u8 [] (some 0)) (by intro r hr; simp (maxSteps := 2000000) (disch := omega) only [push_cast, Nat.reduceAdd, Nat.reduceSub, Nat.reduceMul, Nat.reduceMod, Nat.reduceDiv, Int.reduceToNat, Int.reduceNeg, reduceCtorEq, ↓reduceIte, ↓Int.cast_ofNat_Int, Int.reduceAdd, Int.reduceSub, Int.reduceMul, Int.reduceDiv, Int.reduceMod, ↓Nat.reduceEqDiff, ↓Nat.reduceLT, ↓Nat.reduceLeDiff, ↓Nat.reduceBEq, ↓Int.reduceLT, ↓Int.reduceLE, ↓Int.reduceEq] at hr; subst hr; exact ⟨_, rfl, rfl⟩) (by omega) (by simp) (by first | exact .inl ⟨_, _, rfl⟩ | exact .inr ⟨_, _, rfl⟩) ?_; intro s' hs; simp (maxSteps := 2000000) (disch := omega) only [push_cast, Nat.reduceAdd, Nat.reduceSub, Nat.reduceMul, Nat.reduceMod, Nat.reduceDiv, Int.reduceToNat, Int.reduceNeg, reduceCtorEq, ↓reduceIte, ↓Int.cast_ofNat_Int, Int.reduceAdd, Int.reduceSub, Int.reduceMul, Int.reduceDiv, Int.reduceMod, ↓Nat.reduceEqDiff, ↓Nat.reduceLT, ↓Nat.reduceLeDiff, ↓Nat.reduceBEq, ↓Int.reduceLT, ↓Int.reduceLE, ↓Int.reduceEq, Bool.true_eq_false, St.mat] at hs; subst hs)
  (refine awp_wide 1000 ?_; intro s' hs; simp (maxSteps := 2000000) (disch := omega) only [push_cast, Nat.reduceAdd, Nat.reduceSub, Nat.reduceMul, Nat.reduceMod, Nat.reduceDiv, Int.reduceToNat, Int.reduceNeg, reduceCtorEq, ↓reduceIte, ↓Int.cast_ofNat_Int, Int.reduceAdd, Int.reduceSub, Int.reduceMul, Int.reduceDiv, Int.reduceMod, ↓Nat.reduceEqDiff, ↓Nat.reduceLT, ↓Nat.reduceLeDiff, ↓Nat.reduceBEq, ↓Int.reduceLT, ↓Int.reduceLE, ↓Int.reduceEq, Bool.true_eq_false, St.wide] at hs; subst hs)
  (refine x_mat 4 1001 (.row 33 1 [] (some 0)) (by intro r hr; simp (maxSteps := 2000000) (disch := omega) only [push_cast, Nat.reduceAdd, Nat.reduceSub, Nat.reduceMul, Nat.reduceMod, Nat.reduceDiv, Int.reduceToNat, Int.reduceNeg, reduceCtorEq, ↓reduceIte, ↓Int.cast_ofNat_Int, Int.reduceAdd, Int.reduceSub, Int.reduceMul, Int.reduceDiv, Int.reduceMod, ↓Nat.reduceEqDiff, ↓Nat.reduceLT, ↓Nat.reduceLeDiff, ↓Nat.reduceBEq, ↓Int.reduceLT, ↓Int.reduceLE, ↓Int.reduceEq] at hr; subst hr; exact ⟨_, rfl, rfl⟩) (by omega) (by simp) (by first | exact .inl ⟨_, _, rfl⟩ | exact .inr ⟨_, _, rfl⟩) ?_; intro s' hs; simp (maxSteps := 2000000) (disch := omega) only [push_cast, Nat.reduceAdd, Nat.reduceSub, Nat.reduceMul, Nat.reduceMod, Nat.reduceDiv, Int.reduceToNat, Int.reduceNeg, reduceCtorEq, ↓reduceIte, ↓Int.cast_ofNat_Int, Int.reduceAdd, Int.reduceSub, Int.reduceMul, Int.reduceDiv, Int.reduceMod, ↓Nat.reduceEqDiff, ↓Nat.reduceLT, ↓Nat.reduceLeDiff, ↓Nat.reduceBEq, ↓Int.reduceLT, ↓Int.reduceLE, ↓Int.reduceEq, Bool.true_eq_false, St.mat] at hs; subst hs)
  (refine awp_wide 1001 ?_; intro s' hs; simp (maxSteps := 2000000) (disch := omega) only [push_cast, Nat.reduceAdd, Nat.reduceSub, Nat.reduceMul, Nat.reduceMod, Nat.reduceDiv, Int.reduceToNat, Int.reduceNeg, reduceCtorEq, ↓reduceIte, ↓Int.cast_ofNat_Int, Int.reduceAdd, Int.reduceSub, Int.reduceMul, Int.reduceDiv, Int.reduceMod, ↓Nat.reduceEqDiff, ↓Nat.reduceLT, ↓Nat.reduceLeDiff, ↓Nat.reduceBEq, ↓Int.reduceLT, ↓Int.reduceLE, ↓Int.reduceEq, Bool.true_eq_false, St.wide] at hs; subst hs)
  refine awp_loop (ι := Nat × List Int × List (List Int) × Nat × Nat × Nat) (fun i => ⟨184, [(1, .ptr 17 0), (3, .own 1000), (4, .own 1001), (5, .d (.v (.int .i64 (i.2.2.2.1 : Nat)))), (6, .d (.v (.int .i64 (i.2.2.2.2.1 : Nat)))), (7, .d (.v (.int .i64 (i.2.2.2.2.2 : Nat)))), (8, .d (.v (.int .i64 i.1)))],
      [(17, .box 66 [.d (.sl 1 (ps.map nb) none), .d (.ints .u8 idle none), .d (.v (.int .u16 wh)), .d (.v (.int .u16 at_)), .d (.v (.int .u8 x))]), (1000, .ints 5 .u8 i.2.1 none), (1001, .row 33 1 (i.2.2.1.map nb) none)]⟩)
    (fun i => i.1 ≤ ps.length ∧ LineI i.2.1 i.2.2.1 i.2.2.2.1 i.2.2.2.2.1 i.2.2.2.2.2 ∧ i.2.1.length ≤ 1300 * i.1 ∧ i.2.2.1.length ≤ i.1 ∧ i.2.2.2.1 ≤ i.1 ∧ i.2.2.2.2.1 ≤ 1300 * i.1 ∧ i.2.2.2.2.2 ≤ 1300) (fun i => ps.length - i.1) (0, [], [], 0, 0, 0) ⟨by simp, lineI_nil, by simp, by simp, by simp, by simp, by simp⟩ (by refine sub_lists ?_ ?_ <;> simp (maxSteps := 2000000) (disch := omega) only [push_cast, Nat.reduceAdd, Nat.reduceSub, Nat.reduceMul, Nat.reduceMod, Nat.reduceDiv, Int.reduceToNat, Int.reduceNeg, reduceCtorEq, ↓reduceIte, ↓Int.cast_ofNat_Int, Int.reduceAdd, Int.reduceSub, Int.reduceMul, Int.reduceDiv, Int.reduceMod, ↓Nat.reduceEqDiff, ↓Nat.reduceLT, ↓Nat.reduceLeDiff, ↓Nat.reduceBEq, ↓Int.reduceLT, ↓Int.reduceLE, ↓Int.reduceEq, subT, subH, Int.natCast_zero, List.map_nil]) ?_
  rintro ⟨i, l, A, w, f, n⟩ ⟨hi, hI, hll, hAl, hwl, hfl, hnl⟩
  dsimp only at hi hI hll hAl hwl hfl hnl
  have hA0 : A.length = 0 ↔ A = [] := List.length_eq_zero_iff
  by_cases hlt : i < ps.length
  · have hc8 := hp8 ps[i] (by simp)
    have hcl := hpp ps[i] (by simp)
    obtain ⟨c, hc⟩ : ∃ c, ps[i] = c := ⟨_, rfl⟩
    rw [hc] at hc8 hcl
    have hpi : (ps.map nb)[i]? = some (D.ints .u8 c none) := by rw [List.getElem?_map, List.getElem?_eq_getElem hlt, hc]; rfl
    by_cases c0 : c.length = 0
    · (repeat (first | ((first | refine x_seqX hov ?_ | refine x_regX hov ?_ | refine x_condB ?_); intro r hr; simp (maxSteps := 2000000) (disch := omega) only [push_cast, Nat.reduceAdd, Nat.reduceSub, Nat.reduceMul, Nat.reduceMod, Nat.reduceDiv, Int.reduceToNat, Int.reduceNeg, reduceCtorEq, ↓reduceIte, ↓Int.cast_ofNat_Int, Int.reduceAdd, Int.reduceSub, Int.reduceMul, Int.reduceDiv, Int.reduceMod, ↓Nat.reduceEqDiff, ↓Nat.reduceLT, ↓Nat.reduceLeDiff, ↓Nat.reduceBEq, ↓Int.reduceLT, ↓Int.reduceLE, ↓Int.reduceEq, nb_len, hpi] at hr; subst hr; (first | refine ⟨_, by with_reducible rfl, ?_⟩ | refine .inl ⟨by with_reducible rfl, ?_⟩ | refine .inr ⟨by with_reducible rfl, ?_⟩); try simp only [xthen_n, xthen_x, xthen_r, xthen_g, xblock_n, xblock_r, xblock_g, xblock_x, xscope_n, xscope_r, xscope_x, ↓reduceIte, Nat.reduceEqDiff]) | refine awp_seq ?_ | refine awp_block ?_ | refine awp_scope ?_ | ((first | refine awp_skip ?_ | refine awp_exit ?_ | refine awp_ret ?_ | refine awp_label ?_); try simp only [xthen_n, xthen_x, xthen_r, xthen_g, xblock_n, xblock_r, xblock_g, xblock_x, xscope_n, xscope_r, xscope_x, ↓reduceIte, Nat.reduceEqDiff])))
      refine ⟨(i + 1, l, A, w, f, n), ⟨by dsimp only; omega, hI, by dsimp only; omega, by dsimp only; omega, by dsimp only; omega, by dsimp only; omega, by dsimp only; omega⟩, (by refine sub_lists ?_ ?_ <;> simp (maxSteps := 2000000) (disch := omega) only [push_cast, Nat.reduceAdd, Nat.reduceSub, Nat.reduceMul, Nat.reduceMod, Nat.reduceDiv, Int.reduceToNat, Int.reduceNeg, reduceCtorEq, ↓reduceIte, ↓Int.cast_ofNat_Int, Int.reduceAdd, Int.reduceSub, Int.reduceMul, Int.reduceDiv, Int.reduceMod, ↓Nat.reduceEqDiff, ↓Nat.reduceLT, ↓Nat.reduceLeDiff, ↓Nat.reduceBEq, ↓Int.reduceLT, ↓Int.reduceLE, ↓Int.reduceEq, subT, subH, Int.natCast_add]), by dsimp only; omega⟩
    by_cases c60 : 60 < c.length
    · (repeat (first | ((first | refine x_seqX hov ?_ | refine x_regX hov ?_ | refine x_condB ?_); intro r hr; simp (maxSteps := 2000000) (disch := omega) only [push_cast, Nat.reduceAdd, Nat.reduceSub, Nat.reduceMul, Nat.reduceMod, Nat.reduceDiv, Int.reduceToNat, Int.reduceNeg, reduceCtorEq, ↓reduceIte, ↓Int.cast_ofNat_Int, Int.reduceAdd, Int.reduceSub, Int.reduceMul, Int.reduceDiv, Int.reduceMod, ↓Nat.reduceEqDiff, ↓Nat.reduceLT, ↓Nat.reduceLeDiff, ↓Nat.reduceBEq, ↓Int.reduceLT, ↓Int.reduceLE, ↓Int.reduceEq, nb_len, hpi] at hr; subst hr; (first | refine ⟨_, by with_reducible rfl, ?_⟩ | refine .inl ⟨by with_reducible rfl, ?_⟩ | refine .inr ⟨by with_reducible rfl, ?_⟩); try simp only [xthen_n, xthen_x, xthen_r, xthen_g, xblock_n, xblock_r, xblock_g, xblock_x, xscope_n, xscope_r, xscope_x, ↓reduceIte, Nat.reduceEqDiff]) | refine awp_seq ?_ | refine awp_block ?_ | refine awp_scope ?_ | ((first | refine awp_skip ?_ | refine awp_exit ?_ | refine awp_ret ?_ | refine awp_label ?_); try simp only [xthen_n, xthen_x, xthen_r, xthen_g, xblock_n, xblock_r, xblock_g, xblock_x, xscope_n, xscope_r, xscope_x, ↓reduceIte, Nat.reduceEqDiff])))
      refine ⟨(i + 1, l, A, w, f, n), ⟨by dsimp only; omega, hI, by dsimp only; omega, by dsimp only; omega, by dsimp only; omega, by dsimp only; omega, by dsimp only; omega⟩, (by refine sub_lists ?_ ?_ <;> simp (maxSteps := 2000000) (disch := omega) only [push_cast, Nat.reduceAdd, Nat.reduceSub, Nat.reduceMul, Nat.reduceMod, Nat.reduceDiv, Int.reduceToNat, Int.reduceNeg, reduceCtorEq, ↓reduceIte, ↓Int.cast_ofNat_Int, Int.reduceAdd, Int.reduceSub, Int.reduceMul, Int.reduceDiv, Int.reduceMod, ↓Nat.reduceEqDiff, ↓Nat.reduceLT, ↓Nat.reduceLeDiff, ↓Nat.reduceBEq, ↓Int.reduceLT, ↓Int.reduceLE, ↓Int.reduceEq, subT, subH, Int.natCast_add]), by dsimp only; omega⟩
    have cne : c ≠ [] := by rintro rfl; simp at c0
    have hsl := sendL_le c
    have hci : (A.map nb ++ [D.ints .u8 c none]) = (A ++ [c]).map nb := by simp [nb]
    have hset3 : A.length = 0 ∨ (¬ A.length = 0 ∧ wh % 8 = i) ∨ (¬ A.length = 0 ∧ ¬ wh % 8 = i) := by omega
    have hwn : ((wh : Int) % 8) = ((wh % 8 : Nat) : Int) := by omega
    by_cases hid : i < idle.length
    · have hz8 := hi8 idle[i] (by simp)
      obtain ⟨z, hz⟩ : ∃ z : Nat, idle[i] = z := ⟨idle[i].toNat, by omega⟩
      rw [hz] at hz8
      rcases hset3 with hs | ⟨hs1, hs2⟩ | ⟨hs1, hs2⟩
      · have hI' := hI.take hc8 cne (by omega) z
        (repeat (first | ((first | refine x_seqX hov ?_ | refine x_regX hov ?_ | refine x_condB ?_); intro r hr; simp (maxSteps := 2000000) (disch := omega) only [push_cast, Nat.reduceAdd, Nat.reduceSub, Nat.reduceMul, Nat.reduceMod, Nat.reduceDiv, Int.reduceToNat, Int.reduceNeg, reduceCtorEq, ↓reduceIte, ↓Int.cast_ofNat_Int, Int.reduceAdd, Int.reduceSub, Int.reduceMul, Int.reduceDiv, Int.reduceMod, ↓Nat.reduceEqDiff, ↓Nat.reduceLT, ↓Nat.reduceLeDiff, ↓Nat.reduceBEq, ↓Int.reduceLT, ↓Int.reduceLE, ↓Int.reduceEq, nb_len, hpi, hc8, hci, hsl, List.length_append, List.length_replicate, hz] at hr; subst hr; (first | refine ⟨_, by with_reducible rfl, ?_⟩ | refine .inl ⟨by with_reducible rfl, ?_⟩ | refine .inr ⟨by with_reducible rfl, ?_⟩); try simp only [xthen_n, xthen_x, xthen_r, xthen_g, xblock_n, xblock_r, xblock_g, xblock_x, xscope_n, xscope_r, xscope_x, ↓reduceIte, Nat.reduceEqDiff]) | refine awp_seq ?_ | refine awp_block ?_ | refine awp_scope ?_ | ((first | refine awp_skip ?_ | refine awp_exit ?_ | refine awp_ret ?_ | refine awp_label ?_); try simp only [xthen_n, xthen_x, xthen_r, xthen_g, xblock_n, xblock_r, xblock_g, xblock_x, xscope_n, xscope_r, xscope_x, ↓reduceIte, Nat.reduceEqDiff])))
        refine ⟨(i + 1, l ++ List.replicate z 0 ++ sendL c, A ++ [c], A.length, (l ++ List.replicate z 0).length, (sendL c).length), ⟨by dsimp only; omega, hI', by first | (simp only [List.length_append, List.length_replicate, List.length_cons, List.length_nil]; omega) | (dsimp only; omega), by first | (simp only [List.length_append, List.length_replicate, List.length_cons, List.length_nil]; omega) | (dsimp only; omega), by first | (simp only [List.length_append, List.length_replicate, List.length_cons, List.length_nil]; omega) | (dsimp only; omega), by first | (simp only [List.length_append, List.length_replicate, List.length_cons, List.length_nil]; omega) | (dsimp only; omega), by first | (simp only [List.length_append, List.length_replicate, List.length_cons, List.length_nil]; omega) | (dsimp only; omega)⟩, (by refine sub_lists ?_ ?_ <;> simp (maxSteps := 2000000) (disch := omega) only [push_cast, Nat.reduceAdd, Nat.reduceSub, Nat.reduceMul, Nat.reduceMod, Nat.reduceDiv, Int.reduceToNat, Int.reduceNeg, reduceCtorEq, ↓reduceIte, ↓Int.cast_ofNat_Int, Int.reduceAdd, Int.reduceSub, Int.reduceMul, Int.reduceDiv, Int.reduceMod, ↓Nat.reduceEqDiff, ↓Nat.reduceLT, ↓Nat.reduceLeDiff, ↓Nat.reduceBEq, ↓Int.reduceLT, ↓Int.reduceLE, ↓Int.reduceEq, subT, subH, Int.natCast_add, List.map_append, List.length_append, List.length_replicate]), by dsimp only; omega⟩
      · have hI' := hI.take hc8 cne (by omega) z
        (repeat (first | ((first | refine x_seqX hov ?_ | refine x_regX hov ?_ | refine x_condB ?_); intro r hr; simp (maxSteps := 2000000) (disch := omega) only [push_cast, Nat.reduceAdd, Nat.reduceSub, Nat.reduceMul, Nat.reduceMod, Nat.reduceDiv, Int.reduceToNat, Int.reduceNeg, reduceCtorEq, ↓reduceIte, ↓Int.cast_ofNat_Int, Int.reduceAdd, Int.reduceSub, Int.reduceMul, Int.reduceDiv, Int.reduceMod, ↓Nat.reduceEqDiff, ↓Nat.reduceLT, ↓Nat.reduceLeDiff, ↓Nat.reduceBEq, ↓Int.reduceLT, ↓Int.reduceLE, ↓Int.reduceEq, nb_len, hpi, hc8, hci, hsl, List.length_append, List.length_replicate, hz, hwn, hs2] at hr; subst hr; (first | refine ⟨_, by with_reducible rfl, ?_⟩ | refine .inl ⟨by with_reducible rfl, ?_⟩ | refine .inr ⟨by with_reducible rfl, ?_⟩); try simp only [xthen_n, xthen_x, xthen_r, xthen_g, xblock_n, xblock_r, xblock_g, xblock_x, xscope_n, xscope_r, xscope_x, ↓reduceIte, Nat.reduceEqDiff]) | refine awp_seq ?_ | refine awp_block ?_ | refine awp_scope ?_ | ((first | refine awp_skip ?_ | refine awp_exit ?_ | refine awp_ret ?_ | refine awp_label ?_); try simp only [xthen_n, xthen_x, xthen_r, xthen_g, xblock_n, xblock_r, xblock_g, xblock_x, xscope_n, xscope_r, xscope_x, ↓reduceIte, Nat.reduceEqDiff])))
        refine ⟨(i + 1, l ++ List.replicate z 0 ++ sendL c, A ++ [c], A.length, (l ++ List.replicate z 0).length, (sendL c).length), ⟨by dsimp only; omega, hI', by first | (simp only [List.length_append, List.length_replicate, List.length_cons, List.length_nil]; omega) | (dsimp only; omega), by first | (simp only [List.length_append, List.length_replicate, List.length_cons, List.length_nil]; omega) | (dsimp only; omega), by first | (simp only [List.length_append, List.length_replicate, List.length_cons, List.length_nil]; omega) | (dsimp only; omega), by first | (simp only [List.length_append, List.length_replicate, List.length_cons, List.length_nil]; omega) | (dsimp only; omega), by first | (simp only [List.length_append, List.length_replicate, List.length_cons, List.length_nil]; omega) | (dsimp only; omega)⟩, (by refine sub_lists ?_ ?_ <;> simp (maxSteps := 2000000) (disch := omega) only [push_cast, Nat.reduceAdd, Nat.reduceSub, Nat.reduceMul, Nat.reduceMod, Nat.reduceDiv, Int.reduceToNat, Int.reduceNeg, reduceCtorEq, ↓reduceIte, ↓Int.cast_ofNat_Int, Int.reduceAdd, Int.reduceSub, Int.reduceMul, Int.reduceDiv, Int.reduceMod, ↓Nat.reduceEqDiff, ↓Nat.reduceLT, ↓Nat.reduceLeDiff, ↓Nat.reduceBEq, ↓Int.reduceLT, ↓Int.reduceLE, ↓Int.reduceEq, subT, subH, Int.natCast_add, List.map_append, List.length_append, List.length_replicate]), by dsimp only; omega⟩
      · have hI' := hI.keep (by intro h; subst h; exact hs1 rfl) hc8 cne (by omega) z
        (repeat (first | ((first | refine x_seqX hov ?_ | refine x_regX hov ?_ | refine x_condB ?_); intro r hr; simp (maxSteps := 2000000) (disch := omega) only [push_cast, Nat.reduceAdd, Nat.reduceSub, Nat.reduceMul, Nat.reduceMod, Nat.reduceDiv, Int.reduceToNat, Int.reduceNeg, reduceCtorEq, ↓reduceIte, ↓Int.cast_ofNat_Int, Int.reduceAdd, Int.reduceSub, Int.reduceMul, Int.reduceDiv, Int.reduceMod, ↓Nat.reduceEqDiff, ↓Nat.reduceLT, ↓Nat.reduceLeDiff, ↓Nat.reduceBEq, ↓Int.reduceLT, ↓Int.reduceLE, ↓Int.reduceEq, nb_len, hpi, hc8, hci, hsl, List.length_append, List.length_replicate, hz] at hr; subst hr; (first | refine ⟨_, by with_reducible rfl, ?_⟩ | refine .inl ⟨by with_reducible rfl, ?_⟩ | refine .inr ⟨by with_reducible rfl, ?_⟩); try simp only [xthen_n, xthen_x, xthen_r, xthen_g, xblock_n, xblock_r, xblock_g, xblock_x, xscope_n, xscope_r, xscope_x, ↓reduceIte, Nat.reduceEqDiff]) | refine awp_seq ?_ | refine awp_block ?_ | refine awp_scope ?_ | ((first | refine awp_skip ?_ | refine awp_exit ?_ | refine awp_ret ?_ | refine awp_label ?_); try simp only [xthen_n, xthen_x, xthen_r, xthen_g, xblock_n, xblock_r, xblock_g, xblock_x, xscope_n, xscope_r, xscope_x, ↓reduceIte, Nat.reduceEqDiff])))
        refine ⟨(i + 1, l ++ List.replicate z 0 ++ sendL c, A ++ [c], w, f, n), ⟨by dsimp only; omega, hI', by first | (simp only [List.length_append, List.length_replicate, List.length_cons, List.length_nil]; omega) | (dsimp only; omega), by first | (simp only [List.length_append, List.length_replicate, List.length_cons, List.length_nil]; omega) | (dsimp only; omega), by first | (simp only [List.length_append, List.length_replicate, List.length_cons, List.length_nil]; omega) | (dsimp only; omega), by first | (simp only [List.length_append, List.length_replicate, List.length_cons, List.length_nil]; omega) | (dsimp only; omega), by first | (simp only [List.length_append, List.length_replicate, List.length_cons, List.length_nil]; omega) | (dsimp only; omega)⟩, (by refine sub_lists ?_ ?_ <;> simp (maxSteps := 2000000) (disch := omega) only [push_cast, Nat.reduceAdd, Nat.reduceSub, Nat.reduceMul, Nat.reduceMod, Nat.reduceDiv, Int.reduceToNat, Int.reduceNeg, reduceCtorEq, ↓reduceIte, ↓Int.cast_ofNat_Int, Int.reduceAdd, Int.reduceSub, Int.reduceMul, Int.reduceDiv, Int.reduceMod, ↓Nat.reduceEqDiff, ↓Nat.reduceLT, ↓Nat.reduceLeDiff, ↓Nat.reduceBEq, ↓Int.reduceLT, ↓Int.reduceLE, ↓Int.reduceEq, subT, subH, Int.natCast_add, List.map_append, List.length_append, List.length_replicate]), by dsimp only; omega⟩
    · rcases hset3 with hs | ⟨hs1, hs2⟩ | ⟨hs1, hs2⟩
      · have hI' := hI.take hc8 cne (by omega) 0
        simp only [List.replicate_zero, List.append_nil] at hI'
        (repeat (first | ((first | refine x_seqX hov ?_ | refine x_regX hov ?_ | refine x_condB ?_); intro r hr; simp (maxSteps := 2000000) (disch := omega) only [push_cast, Nat.reduceAdd, Nat.reduceSub, Nat.reduceMul, Nat.reduceMod, Nat.reduceDiv, Int.reduceToNat, Int.reduceNeg, reduceCtorEq, ↓reduceIte, ↓Int.cast_ofNat_Int, Int.reduceAdd, Int.reduceSub, Int.reduceMul, Int.reduceDiv, Int.reduceMod, ↓Nat.reduceEqDiff, ↓Nat.reduceLT, ↓Nat.reduceLeDiff, ↓Nat.reduceBEq, ↓Int.reduceLT, ↓Int.reduceLE, ↓Int.reduceEq, nb_len, hpi, hc8, hci, hsl] at hr; subst hr; (first | refine ⟨_, by with_reducible rfl, ?_⟩ | refine .inl ⟨by with_reducible rfl, ?_⟩ | refine .inr ⟨by with_reducible rfl, ?_⟩); try simp only [xthen_n, xthen_x, xthen_r, xthen_g, xblock_n, xblock_r, xblock_g, xblock_x, xscope_n, xscope_r, xscope_x, ↓reduceIte, Nat.reduceEqDiff]) | refine awp_seq ?_ | refine awp_block ?_ | refine awp_scope ?_ | ((first | refine awp_skip ?_ | refine awp_exit ?_ | refine awp_ret ?_ | refine awp_label ?_); try simp only [xthen_n, xthen_x, xthen_r, xthen_g, xblock_n, xblock_r, xblock_g, xblock_x, xscope_n, xscope_r, xscope_x, ↓reduceIte, Nat.reduceEqDiff])))
        refine ⟨(i + 1, l ++ sendL c, A ++ [c], A.length, l.length, (sendL c).length), ⟨by dsimp only; omega, hI', by first | (simp only [List.length_append, List.length_replicate, List.length_cons, List.length_nil]; omega) | (dsimp only; omega), by first | (simp only [List.length_append, List.length_replicate, List.length_cons, List.length_nil]; omega) | (dsimp only; omega), by first | (simp only [List.length_append, List.length_replicate, List.length_cons, List.length_nil]; omega) | (dsimp only; omega), by first | (simp only [List.length_append, List.length_replicate, List.length_cons, List.length_nil]; omega) | (dsimp only; omega), by first | (simp only [List.length_append, List.length_replicate, List.length_cons, List.length_nil]; omega) | (dsimp only; omega)⟩, (by refine sub_lists ?_ ?_ <;> simp (maxSteps := 2000000) (disch := omega) only [push_cast, Nat.reduceAdd, Nat.reduceSub, Nat.reduceMul, Nat.reduceMod, Nat.reduceDiv, Int.reduceToNat, Int.reduceNeg, reduceCtorEq, ↓reduceIte, ↓Int.cast_ofNat_Int, Int.reduceAdd, Int.reduceSub, Int.reduceMul, Int.reduceDiv, Int.reduceMod, ↓Nat.reduceEqDiff, ↓Nat.reduceLT, ↓Nat.reduceLeDiff, ↓Nat.reduceBEq, ↓Int.reduceLT, ↓Int.reduceLE, ↓Int.reduceEq, subT, subH, Int.natCast_add, List.map_append, List.length_append, List.length_replicate]), by dsimp only; omega⟩
      · have hI' := hI.take hc8 cne (by omega) 0
        simp only [List.replicate_zero, List.append_nil] at hI'
        (repeat (first | ((first | refine x_seqX hov ?_ | refine x_regX hov ?_ | refine x_condB ?_); intro r hr; simp (maxSteps := 2000000) (disch := omega) only [push_cast, Nat.reduceAdd, Nat.reduceSub, Nat.reduceMul, Nat.reduceMod, Nat.reduceDiv, Int.reduceToNat, Int.reduceNeg, reduceCtorEq, ↓reduceIte, ↓Int.cast_ofNat_Int, Int.reduceAdd, Int.reduceSub, Int.reduceMul, Int.reduceDiv, Int.reduceMod, ↓Nat.reduceEqDiff, ↓Nat.reduceLT, ↓Nat.reduceLeDiff, ↓Nat.reduceBEq, ↓Int.reduceLT, ↓Int.reduceLE, ↓Int.reduceEq, nb_len, hpi, hc8, hci, hsl, hwn, hs2] at hr; subst hr; (first | refine ⟨_, by with_reducible rfl, ?_⟩ | refine .inl ⟨by with_reducible rfl, ?_⟩ | refine .inr ⟨by with_reducible rfl, ?_⟩); try simp only [xthen_n, xthen_x, xthen_r, xthen_g, xblock_n, xblock_r, xblock_g, xblock_x, xscope_n, xscope_r, xscope_x, ↓reduceIte, Nat.reduceEqDiff]) | refine awp_seq ?_ | refine awp_block ?_ | refine awp_scope ?_ | ((first | refine awp_skip ?_ | refine awp_exit ?_ | refine awp_ret ?_ | refine awp_label ?_); try simp only [xthen_n, xthen_x, xthen_r, xthen_g, xblock_n, xblock_r, xblock_g, xblock_x, xscope_n, xscope_r, xscope_x, ↓reduceIte, Nat.reduceEqDiff])))
        refine ⟨(i + 1, l ++ sendL c, A ++ [c], A.length, l.length, (sendL c).length), ⟨by dsimp only; omega, hI', by first | (simp only [List.length_append, List.length_replicate, List.length_cons, List.length_nil]; omega) | (dsimp only; omega), by first | (simp only [List.length_append, List.length_replicate, List.length_cons, List.length_nil]; omega) | (dsimp only; omega), by first | (simp only [List.length_append, List.length_replicate, List.length_cons, List.length_nil]; omega) | (dsimp only; omega), by first | (simp only [List.length_append, List.length_replicate, List.length_cons, List.length_nil]; omega) | (dsimp only; omega), by first | (simp only [List.length_append, List.length_replicate, List.length_cons, List.length_nil]; omega) | (dsimp only; omega)⟩, (by refine sub_lists ?_ ?_ <;> simp (maxSteps := 2000000) (disch := omega) only [push_cast, Nat.reduceAdd, Nat.reduceSub, Nat.reduceMul, Nat.reduceMod, Nat.reduceDiv, Int.reduceToNat, Int.reduceNeg, reduceCtorEq, ↓reduceIte, ↓Int.cast_ofNat_Int, Int.reduceAdd, Int.reduceSub, Int.reduceMul, Int.reduceDiv, Int.reduceMod, ↓Nat.reduceEqDiff, ↓Nat.reduceLT, ↓Nat.reduceLeDiff, ↓Nat.reduceBEq, ↓Int.reduceLT, ↓Int.reduceLE, ↓Int.reduceEq, subT, subH, Int.natCast_add, List.map_append, List.length_append, List.length_replicate]), by dsimp only; omega⟩
      · have hI' := hI.keep (by intro h; subst h; exact hs1 rfl) hc8 cne (by omega) 0
        simp only [List.replicate_zero, List.append_nil] at hI'
        (repeat (first | ((first | refine x_seqX hov ?_ | refine x_regX hov ?_ | refine x_condB ?_); intro r hr; simp (maxSteps := 2000000) (disch := omega) only [push_cast, Nat.reduceAdd, Nat.reduceSub, Nat.reduceMul, Nat.reduceMod, Nat.reduceDiv, Int.reduceToNat, Int.reduceNeg, reduceCtorEq, ↓reduceIte, ↓Int.cast_ofNat_Int, Int.reduceAdd, Int.reduceSub, Int.reduceMul, Int.reduceDiv, Int.reduceMod, ↓Nat.reduceEqDiff, ↓Nat.reduceLT, ↓Nat.reduceLeDiff, ↓Nat.reduceBEq, ↓Int.reduceLT, ↓Int.reduceLE, ↓Int.reduceEq, nb_len, hpi, hc8, hci, hsl] at hr; subst hr; (first | refine ⟨_, by with_reducible rfl, ?_⟩ | refine .inl ⟨by with_reducible rfl, ?_⟩ | refine .inr ⟨by with_reducible rfl, ?_⟩); try simp only [xthen_n, xthen_x, xthen_r, xthen_g, xblock_n, xblock_r, xblock_g, xblock_x, xscope_n, xscope_r, xscope_x, ↓reduceIte, Nat.reduceEqDiff]) | refine awp_seq ?_ | refine awp_block ?_ | refine awp_scope ?_ | ((first | refine awp_skip ?_ | refine awp_exit ?_ | refine awp_ret ?_ | refine awp_label ?_); try simp only [xthen_n, xthen_x, xthen_r, xthen_g, xblock_n, xblock_r, xblock_g, xblock_x, xscope_n, xscope_r, xscope_x, ↓reduceIte, Nat.reduceEqDiff])))
        refine ⟨(i + 1, l ++ sendL c, A ++ [c], w, f, n), ⟨by dsimp only; omega, hI', by first | (simp only [List.length_append, List.length_replicate, List.length_cons, List.length_nil]; omega) | (dsimp only; omega), by first | (simp only [List.length_append, List.length_replicate, List.length_cons, List.length_nil]; omega) | (dsimp only; omega), by first | (simp only [List.length_append, List.length_replicate, List.length_cons, List.length_nil]; omega) | (dsimp only; omega), by first | (simp only [List.length_append, List.length_replicate, List.length_cons, List.length_nil]; omega) | (dsimp only; omega), by first | (simp only [List.length_append, List.length_replicate, List.length_cons, List.length_nil]; omega) | (dsimp only; omega)⟩, (by refine sub_lists ?_ ?_ <;> simp (maxSteps := 2000000) (disch := omega) only [push_cast, Nat.reduceAdd, Nat.reduceSub, Nat.reduceMul, Nat.reduceMod, Nat.reduceDiv, Int.reduceToNat, Int.reduceNeg, reduceCtorEq, ↓reduceIte, ↓Int.cast_ofNat_Int, Int.reduceAdd, Int.reduceSub, Int.reduceMul, Int.reduceDiv, Int.reduceMod, ↓Nat.reduceEqDiff, ↓Nat.reduceLT, ↓Nat.reduceLeDiff, ↓Nat.reduceBEq, ↓Int.reduceLT, ↓Int.reduceLE, ↓Int.reduceEq, subT, subH, Int.natCast_add, List.map_append, List.length_append, List.length_replicate]), by dsimp only; omega⟩
  · have hall := hI.all
    have hlu := hI.u8
    have hA8 : rows8 A := by have := lis_u8 hlu; rw [hall] at this; exact this
    have hself : (A <+: A) = True := by simp
    (refine x_frz [1001] ?_; intro r hr; simp (maxSteps := 2000000) (disch := omega) only [push_cast, Nat.reduceAdd, Nat.reduceSub, Nat.reduceMul, Nat.reduceMod, Nat.reduceDiv, Int.reduceToNat, Int.reduceNeg, reduceCtorEq, ↓reduceIte, ↓Int.cast_ofNat_Int, Int.reduceAdd, Int.reduceSub, Int.reduceMul, Int.reduceDiv, Int.reduceMod, ↓Nat.reduceEqDiff, ↓Nat.reduceLT, ↓Nat.reduceLeDiff, ↓Nat.reduceBEq, ↓Int.reduceLT, ↓Int.reduceLE, ↓Int.reduceEq] at hr; subst hr; refine ⟨_, by with_reducible rfl, ?_⟩)
    (repeat (first | ((first | refine x_seqX hov ?_ | refine x_regX hov ?_ | refine x_condB ?_); intro r hr; simp (maxSteps := 2000000) (disch := omega) only [push_cast, Nat.reduceAdd, Nat.reduceSub, Nat.reduceMul, Nat.reduceMod, Nat.reduceDiv, Int.reduceToNat, Int.reduceNeg, reduceCtorEq, ↓reduceIte, ↓Int.cast_ofNat_Int, Int.reduceAdd, Int.reduceSub, Int.reduceMul, Int.reduceDiv, Int.reduceMod, ↓Nat.reduceEqDiff, ↓Nat.reduceLT, ↓Nat.reduceLeDiff, ↓Nat.reduceBEq, ↓Int.reduceLT, ↓Int.reduceLE, ↓Int.reduceEq, hall, hlu, hA8, hself, nb_len, nbc_len] at hr; subst hr; (first | refine ⟨_, by with_reducible rfl, ?_⟩ | refine .inl ⟨by with_reducible rfl, ?_⟩ | refine .inr ⟨by with_reducible rfl, ?_⟩); try simp only [xthen_n, xthen_x, xthen_r, xthen_g, xblock_n, xblock_r, xblock_g, xblock_x, xscope_n, xscope_r, xscope_x, ↓reduceIte, Nat.reduceEqDiff]) | refine awp_seq ?_ | refine awp_block ?_ | refine awp_scope ?_ | ((first | refine awp_skip ?_ | refine awp_exit ?_ | refine awp_ret ?_ | refine awp_label ?_); try simp only [xthen_n, xthen_x, xthen_r, xthen_g, xblock_n, xblock_r, xblock_g, xblock_x, xscope_n, xscope_r, xscope_x, ↓reduceIte, Nat.reduceEqDiff])))
    by_cases hA0' : A.length = 0
    · (refine x_drawX ty_mixed hov 16 (by kernel_rfl) ?_; intro r hr; simp (maxSteps := 2000000) (disch := omega) only [push_cast, Nat.reduceAdd, Nat.reduceSub, Nat.reduceMul, Nat.reduceMod, Nat.reduceDiv, Int.reduceToNat, Int.reduceNeg, reduceCtorEq, ↓reduceIte, ↓Int.cast_ofNat_Int, Int.reduceAdd, Int.reduceSub, Int.reduceMul, Int.reduceDiv, Int.reduceMod, ↓Nat.reduceEqDiff, ↓Nat.reduceLT, ↓Nat.reduceLeDiff, ↓Nat.reduceBEq, ↓Int.reduceLT, ↓Int.reduceLE, ↓Int.reduceEq, nb_len] at hr; subst hr; refine ⟨_, _, by with_reducible rfl, ?_⟩; intro r hr; simp (maxSteps := 2000000) (disch := omega) only [push_cast, Nat.reduceAdd, Nat.reduceSub, Nat.reduceMul, Nat.reduceMod, Nat.reduceDiv, Int.reduceToNat, Int.reduceNeg, reduceCtorEq, ↓reduceIte, ↓Int.cast_ofNat_Int, Int.reduceAdd, Int.reduceSub, Int.reduceMul, Int.reduceDiv, Int.reduceMod, ↓Nat.reduceEqDiff, ↓Nat.reduceLT, ↓Nat.reduceLeDiff, ↓Nat.reduceBEq, ↓Int.reduceLT, ↓Int.reduceLE, ↓Int.reduceEq, nb_len] at hr; subst hr; refine ⟨_, by with_reducible rfl, ?_⟩; try simp only [xthen_n, xthen_x, xthen_r, xthen_g, xblock_n, xblock_r, xblock_g, xblock_x, xscope_n, xscope_r, xscope_x, ↓reduceIte, Nat.reduceEqDiff])
      (repeat (first | ((first | refine x_seqX hov ?_ | refine x_regX hov ?_ | refine x_condB ?_); intro r hr; simp (maxSteps := 2000000) (disch := omega) only [push_cast, Nat.reduceAdd, Nat.reduceSub, Nat.reduceMul, Nat.reduceMod, Nat.reduceDiv, Int.reduceToNat, Int.reduceNeg, reduceCtorEq, ↓reduceIte, ↓Int.cast_ofNat_Int, Int.reduceAdd, Int.reduceSub, Int.reduceMul, Int.reduceDiv, Int.reduceMod, ↓Nat.reduceEqDiff, ↓Nat.reduceLT, ↓Nat.reduceLeDiff, ↓Nat.reduceBEq, ↓Int.reduceLT, ↓Int.reduceLE, ↓Int.reduceEq] at hr; subst hr; (first | refine ⟨_, by with_reducible rfl, ?_⟩ | refine .inl ⟨by with_reducible rfl, ?_⟩ | refine .inr ⟨by with_reducible rfl, ?_⟩); try simp only [xthen_n, xthen_x, xthen_r, xthen_g, xblock_n, xblock_r, xblock_g, xblock_x, xscope_n, xscope_r, xscope_x, ↓reduceIte, Nat.reduceEqDiff]) | refine awp_seq ?_ | refine awp_block ?_ | refine awp_scope ?_ | ((first | refine awp_skip ?_ | refine awp_exit ?_ | refine awp_ret ?_ | refine awp_label ?_); try simp only [xthen_n, xthen_x, xthen_r, xthen_g, xblock_n, xblock_r, xblock_g, xblock_x, xscope_n, xscope_r, xscope_x, ↓reduceIte, Nat.reduceEqDiff])))
      (refine x_ret0 (by first | exact .inl rfl | exact .inr rfl) ?_; intro r hr; simp (maxSteps := 2000000) (disch := omega) only [push_cast, Nat.reduceAdd, Nat.reduceSub, Nat.reduceMul, Nat.reduceMod, Nat.reduceDiv, Int.reduceToNat, Int.reduceNeg, reduceCtorEq, ↓reduceIte, ↓Int.cast_ofNat_Int, Int.reduceAdd, Int.reduceSub, Int.reduceMul, Int.reduceDiv, Int.reduceMod, ↓Nat.reduceEqDiff, ↓Nat.reduceLT, ↓Nat.reduceLeDiff, ↓Nat.reduceBEq, ↓Int.reduceLT, ↓Int.reduceLE, ↓Int.reduceEq, Try.results13] at hr; subst hr; refine ⟨_, by with_reducible rfl, ?_⟩; simp only [renV, renVs])
      (first | exact ⟨trivial, trivial⟩ | exact ⟨trivial, rfl⟩ | exact ⟨rfl, trivial⟩ | exact ⟨rfl, rfl⟩)
    have hAne : A ≠ [] := by intro h; subst h; exact hA0' rfl
    have hpart := hI.part hAne
    obtain ⟨front, b, rest, pre, post, e1, e2, e3, e4, e5, _⟩ := hpart
    have hn0 : 0 < n := by
      obtain ⟨m, hm, _⟩ := sendL_shape b
      rw [e5, hm]; simp
    have hjn : at_ % n < n := Nat.mod_lt _ hn0
    have hfn : f + n ≤ l.length := by
      have := congrArg List.length e2
      simp only [List.length_append] at this
      omega
    have hwA : w < A.length := by
      have := congrArg List.length e1
      simp only [List.length_append, List.length_cons] at this
      omega
    clear e1 e2 e3 e4 e5
    obtain ⟨j, hj⟩ : ∃ j, at_ % n = j := ⟨_, rfl⟩
    rw [hj] at hjn
    have hmod : (at_ : Int) % (n : Int) = (j : Int) := by rw [← hj]; exact (Int.natCast_emod _ _).symm
    have hfj : f + j < l.length := by omega
    have hsum : ((f : Int) + (j : Int)).toNat = f + j := by omega
    obtain ⟨y, hy⟩ : ∃ y, l[f + j] = y := ⟨_, rfl⟩
    have hyl : l[f + j]? = some y := by rw [List.getElem?_eq_getElem hfj, hy]
    by_cases hxy : y = x
    · subst hxy
      (refine x_drawX ty_mixed hov 16 (by kernel_rfl) ?_; intro r hr; simp (maxSteps := 2000000) (disch := omega) only [push_cast, Nat.reduceAdd, Nat.reduceSub, Nat.reduceMul, Nat.reduceMod, Nat.reduceDiv, Int.reduceToNat, Int.reduceNeg, reduceCtorEq, ↓reduceIte, ↓Int.cast_ofNat_Int, Int.reduceAdd, Int.reduceSub, Int.reduceMul, Int.reduceDiv, Int.reduceMod, ↓Nat.reduceEqDiff, ↓Nat.reduceLT, ↓Nat.reduceLeDiff, ↓Nat.reduceBEq, ↓Int.reduceLT, ↓Int.reduceLE, ↓Int.reduceEq, nb_len, hmod, hsum, hyl] at hr; subst hr; refine ⟨_, _, by with_reducible rfl, ?_⟩; intro r hr; simp (maxSteps := 2000000) (disch := omega) only [push_cast, Nat.reduceAdd, Nat.reduceSub, Nat.reduceMul, Nat.reduceMod, Nat.reduceDiv, Int.reduceToNat, Int.reduceNeg, reduceCtorEq, ↓reduceIte, ↓Int.cast_ofNat_Int, Int.reduceAdd, Int.reduceSub, Int.reduceMul, Int.reduceDiv, Int.reduceMod, ↓Nat.reduceEqDiff, ↓Nat.reduceLT, ↓Nat.reduceLeDiff, ↓Nat.reduceBEq, ↓Int.reduceLT, ↓Int.reduceLE, ↓Int.reduceEq, nb_len, hmod, hsum, hyl] at hr; subst hr; refine ⟨_, by with_reducible rfl, ?_⟩; try simp only [xthen_n, xthen_x, xthen_r, xthen_g, xblock_n, xblock_r, xblock_g, xblock_x, xscope_n, xscope_r, xscope_x, ↓reduceIte, Nat.reduceEqDiff])
      (repeat (first | ((first | refine x_seqX hov ?_ | refine x_regX hov ?_ | refine x_condB ?_); intro r hr; simp (maxSteps := 2000000) (disch := omega) only [push_cast, Nat.reduceAdd, Nat.reduceSub, Nat.reduceMul, Nat.reduceMod, Nat.reduceDiv, Int.reduceToNat, Int.reduceNeg, reduceCtorEq, ↓reduceIte, ↓Int.cast_ofNat_Int, Int.reduceAdd, Int.reduceSub, Int.reduceMul, Int.reduceDiv, Int.reduceMod, ↓Nat.reduceEqDiff, ↓Nat.reduceLT, ↓Nat.reduceLeDiff, ↓Nat.reduceBEq, ↓Int.reduceLT, ↓Int.reduceLE, ↓Int.reduceEq] at hr; subst hr; (first | refine ⟨_, by with_reducible rfl, ?_⟩ | refine .inl ⟨by with_reducible rfl, ?_⟩ | refine .inr ⟨by with_reducible rfl, ?_⟩); try simp only [xthen_n, xthen_x, xthen_r, xthen_g, xblock_n, xblock_r, xblock_g, xblock_x, xscope_n, xscope_r, xscope_x, ↓reduceIte, Nat.reduceEqDiff]) | refine awp_seq ?_ | refine awp_block ?_ | refine awp_scope ?_ | ((first | refine awp_skip ?_ | refine awp_exit ?_ | refine awp_ret ?_ | refine awp_label ?_); try simp only [xthen_n, xthen_x, xthen_r, xthen_g, xblock_n, xblock_r, xblock_g, xblock_x, xscope_n, xscope_r, xscope_x, ↓reduceIte, Nat.reduceEqDiff])))
      (refine x_ret0 (by first | exact .inl rfl | exact .inr rfl) ?_; intro r hr; simp (maxSteps := 2000000) (disch := omega) only [push_cast, Nat.reduceAdd, Nat.reduceSub, Nat.reduceMul, Nat.reduceMod, Nat.reduceDiv, Int.reduceToNat, Int.reduceNeg, reduceCtorEq, ↓reduceIte, ↓Int.cast_ofNat_Int, Int.reduceAdd, Int.reduceSub, Int.reduceMul, Int.reduceDiv, Int.reduceMod, ↓Nat.reduceEqDiff, ↓Nat.reduceLT, ↓Nat.reduceLeDiff, ↓Nat.reduceBEq, ↓Int.reduceLT, ↓Int.reduceLE, ↓Int.reduceEq, Try.results13] at hr; subst hr; refine ⟨_, by with_reducible rfl, ?_⟩; simp only [renV, renVs])
      (first | exact ⟨trivial, trivial⟩ | exact ⟨trivial, rfl⟩ | exact ⟨rfl, trivial⟩ | exact ⟨rfl, rfl⟩)
    (refine x_drawX ty_mixed hov 16 (by kernel_rfl) ?_; intro r hr; simp (maxSteps := 2000000) (disch := omega) only [push_cast, Nat.reduceAdd, Nat.reduceSub, Nat.reduceMul, Nat.reduceMod, Nat.reduceDiv, Int.reduceToNat, Int.reduceNeg, reduceCtorEq, ↓reduceIte, ↓Int.cast_ofNat_Int, Int.reduceAdd, Int.reduceSub, Int.reduceMul, Int.reduceDiv, Int.reduceMod, ↓Nat.reduceEqDiff, ↓Nat.reduceLT, ↓Nat.reduceLeDiff, ↓Nat.reduceBEq, ↓Int.reduceLT, ↓Int.reduceLE, ↓Int.reduceEq, nb_len, hmod, hsum, hyl, hxy] at hr; subst hr; refine ⟨_, _, by with_reducible rfl, ?_⟩; intro r hr; simp (maxSteps := 2000000) (disch := omega) only [push_cast, Nat.reduceAdd, Nat.reduceSub, Nat.reduceMul, Nat.reduceMod, Nat.reduceDiv, Int.reduceToNat, Int.reduceNeg, reduceCtorEq, ↓reduceIte, ↓Int.cast_ofNat_Int, Int.reduceAdd, Int.reduceSub, Int.reduceMul, Int.reduceDiv, Int.reduceMod, ↓Nat.reduceEqDiff, ↓Nat.reduceLT, ↓Nat.reduceLeDiff, ↓Nat.reduceBEq, ↓Int.reduceLT, ↓Int.reduceLE, ↓Int.reduceEq, nb_len, hmod, hsum, hyl, hxy] at hr; subst hr; refine ⟨_, by with_reducible rfl, ?_⟩; try simp only [xthen_n, xthen_x, xthen_r, xthen_g, xblock_n, xblock_r, xblock_g, xblock_x, xscope_n, xscope_r, xscope_x, ↓reduceIte, Nat.reduceEqDiff])
    (repeat (first | ((first | refine x_seqX hov ?_ | refine x_regX hov ?_ | refine x_condB ?_); intro r hr; simp (maxSteps := 2000000) (disch := omega) only [push_cast, Nat.reduceAdd, Nat.reduceSub, Nat.reduceMul, Nat.reduceMod, Nat.reduceDiv, Int.reduceToNat, Int.reduceNeg, reduceCtorEq, ↓reduceIte, ↓Int.cast_ofNat_Int, Int.reduceAdd, Int.reduceSub, Int.reduceMul, Int.reduceDiv, Int.reduceMod, ↓Nat.reduceEqDiff, ↓Nat.reduceLT, ↓Nat.reduceLeDiff, ↓Nat.reduceBEq, ↓Int.reduceLT, ↓Int.reduceLE, ↓Int.reduceEq] at hr; subst hr; (first | refine ⟨_, by with_reducible rfl, ?_⟩ | refine .inl ⟨by with_reducible rfl, ?_⟩ | refine .inr ⟨by with_reducible rfl, ?_⟩); try simp only [xthen_n, xthen_x, xthen_r, xthen_g, xblock_n, xblock_r, xblock_g, xblock_x, xscope_n, xscope_r, xscope_x, ↓reduceIte, Nat.reduceEqDiff]) | refine awp_seq ?_ | refine awp_block ?_ | refine awp_scope ?_ | ((first | refine awp_skip ?_ | refine awp_exit ?_ | refine awp_ret ?_ | refine awp_label ?_); try simp only [xthen_n, xthen_x, xthen_r, xthen_g, xblock_n, xblock_r, xblock_g, xblock_x, xscope_n, xscope_r, xscope_x, ↓reduceIte, Nat.reduceEqDiff])))
    (refine x_drawX ty_mixed hov 10 (by kernel_rfl) ?_; intro r hr; simp (maxSteps := 2000000) (disch := omega) only [push_cast, Nat.reduceAdd, Nat.reduceSub, Nat.reduceMul, Nat.reduceMod, Nat.reduceDiv, Int.reduceToNat, Int.reduceNeg, reduceCtorEq, ↓reduceIte, ↓Int.cast_ofNat_Int, Int.reduceAdd, Int.reduceSub, Int.reduceMul, Int.reduceDiv, Int.reduceMod, ↓Nat.reduceEqDiff, ↓Nat.reduceLT, ↓Nat.reduceLeDiff, ↓Nat.reduceBEq, ↓Int.reduceLT, ↓Int.reduceLE, ↓Int.reduceEq, nb_len, hmod, hsum, hyl] at hr; subst hr; refine ⟨_, _, by with_reducible rfl, ?_⟩; intro r hr; simp (maxSteps := 2000000) (disch := omega) only [push_cast, Nat.reduceAdd, Nat.reduceSub, Nat.reduceMul, Nat.reduceMod, Nat.reduceDiv, Int.reduceToNat, Int.reduceNeg, reduceCtorEq, ↓reduceIte, ↓Int.cast_ofNat_Int, Int.reduceAdd, Int.reduceSub, Int.reduceMul, Int.reduceDiv, Int.reduceMod, ↓Nat.reduceEqDiff, ↓Nat.reduceLT, ↓Nat.reduceLeDiff, ↓Nat.reduceBEq, ↓Int.reduceLT, ↓Int.reduceLE, ↓Int.reduceEq, nb_len, hmod, hsum, hyl] at hr; subst hr; refine ⟨_, by with_reducible rfl, ?_⟩; try simp only [xthen_n, xthen_x, xthen_r, xthen_g, xblock_n, xblock_r, xblock_g, xblock_x, xscope_n, xscope_r, xscope_x, ↓reduceIte, Nat.reduceEqDiff])
    have hs8 : u8s (l.set (f + j) x) := fun z hz => by
      rcases List.mem_or_eq_of_mem_set hz with h | h
      · exact hlu z h
      · rw [h]; exact hx8
    have hch := hI.change hAne hjn x
    have hbl := (lisS_bound (l.set (f + j) x)).1
    have hB8 := lis_u8 hs8
    rw [List.length_set] at hbl
    obtain ⟨B, d, hlis⟩ : ∃ B d, lisL (l.set (f + j) x) = (B, d) := ⟨_, _, rfl⟩
    have hbl' : B.length ≤ l.length := by
      have : (lisL (l.set (f + j) x)).1.length ≤ l.length := hbl
      rw [hlis] at this; exact this
    rw [hlis] at hB8 hch
    dsimp only at hB8 hch
    obtain ⟨hch1, hch2⟩ := hch
    have hT8 : rows8 (A.take w) := fun b hb => hA8 b (List.mem_of_mem_take hb)
    have hD8 : rows8 (A.drop (w + 2)) := fun b hb => hA8 b (List.mem_of_mem_drop hb)
    have htl : (A.take w).length ≤ A.length := by rw [List.length_take]; omega
    have hdl : (A.drop (w + 2)).length = A.length - (w + 2) := List.length_drop
    have hslen : (l.set (f + j) x).length = l.length := List.length_set
    by_cases hw2 : w + 2 < A.length
    · obtain ⟨hc1, hc2⟩ := hch2 hw2
      have hw2n : ((w : Int) + 2).toNat = w + 2 := by omega
      obtain ⟨E, hE⟩ : ∃ E, A.drop (w + 2) = E := ⟨_, rfl⟩
      rw [hE] at hc1 hc2 hdl hD8
      obtain ⟨k, hk⟩ : ∃ k, B.length - E.length = k := ⟨_, rfl⟩
      rw [hk] at hc2
      have hkn : ((B.length : Int) - (E.length : Int)).toNat = k := by omega
      have hE8 : rows8 (B.drop k) := fun b hb => hB8 b (List.mem_of_mem_drop hb)
      have hBt : (B.map nbc).take B.length = B.map nbc := List.take_of_length_le (by simp)
      have hel : (B.drop k).length = B.length - k := List.length_drop
      (repeat (first | ((first | refine x_seqX hov ?_ | refine x_regX hov ?_ | refine x_condB ?_); intro r hr; simp (maxSteps := 2000000) (disch := omega) only [push_cast, Nat.reduceAdd, Nat.reduceSub, Nat.reduceMul, Nat.reduceMod, Nat.reduceDiv, Int.reduceToNat, Int.reduceNeg, reduceCtorEq, ↓reduceIte, ↓Int.cast_ofNat_Int, Int.reduceAdd, Int.reduceSub, Int.reduceMul, Int.reduceDiv, Int.reduceMod, ↓Nat.reduceEqDiff, ↓Nat.reduceLT, ↓Nat.reduceLeDiff, ↓Nat.reduceBEq, ↓Int.reduceLT, ↓Int.reduceLE, ↓Int.reduceEq, hlis, hs8, hslen, nb_len, nbc_len, nb_take, nb_drop, nbc_drop, rowsOf_map, rowsOf_mapc, hB8, hT8, hD8, hE8, hA8, hch1, hw2n, hE, hkn, hel, hc2, hBt] at hr; subst hr; (first | refine ⟨_, by with_reducible rfl, ?_⟩ | refine .inl ⟨by with_reducible rfl, ?_⟩ | refine .inr ⟨by with_reducible rfl, ?_⟩); try simp only [xthen_n, xthen_x, xthen_r, xthen_g, xblock_n, xblock_r, xblock_g, xblock_x, xscope_n, xscope_r, xscope_x, ↓reduceIte, Nat.reduceEqDiff]) | refine awp_seq ?_ | refine awp_block ?_ | refine awp_scope ?_ | ((first | refine awp_skip ?_ | refine awp_exit ?_ | refine awp_ret ?_ | refine awp_label ?_); try simp only [xthen_n, xthen_x, xthen_r, xthen_g, xblock_n, xblock_r, xblock_g, xblock_x, xscope_n, xscope_r, xscope_x, ↓reduceIte, Nat.reduceEqDiff])))
      (refine x_ret0 (by first | exact .inl rfl | exact .inr rfl) ?_; intro r hr; simp (maxSteps := 2000000) (disch := omega) only [push_cast, Nat.reduceAdd, Nat.reduceSub, Nat.reduceMul, Nat.reduceMod, Nat.reduceDiv, Int.reduceToNat, Int.reduceNeg, reduceCtorEq, ↓reduceIte, ↓Int.cast_ofNat_Int, Int.reduceAdd, Int.reduceSub, Int.reduceMul, Int.reduceDiv, Int.reduceMod, ↓Nat.reduceEqDiff, ↓Nat.reduceLT, ↓Nat.reduceLeDiff, ↓Nat.reduceBEq, ↓Int.reduceLT, ↓Int.reduceLE, ↓Int.reduceEq, Try.results13] at hr; subst hr; refine ⟨_, by with_reducible rfl, ?_⟩; simp only [renV, renVs])
      (first | exact ⟨trivial, trivial⟩ | exact ⟨trivial, rfl⟩ | exact ⟨rfl, trivial⟩ | exact ⟨rfl, rfl⟩)
    · (repeat (first | ((first | refine x_seqX hov ?_ | refine x_regX hov ?_ | refine x_condB ?_); intro r hr; simp (maxSteps := 2000000) (disch := omega) only [push_cast, Nat.reduceAdd, Nat.reduceSub, Nat.reduceMul, Nat.reduceMod, Nat.reduceDiv, Int.reduceToNat, Int.reduceNeg, reduceCtorEq, ↓reduceIte, ↓Int.cast_ofNat_Int, Int.reduceAdd, Int.reduceSub, Int.reduceMul, Int.reduceDiv, Int.reduceMod, ↓Nat.reduceEqDiff, ↓Nat.reduceLT, ↓Nat.reduceLeDiff, ↓Nat.reduceBEq, ↓Int.reduceLT, ↓Int.reduceLE, ↓Int.reduceEq, hlis, hs8, hslen, nb_len, nbc_len, nb_take, nb_drop, nbc_drop, rowsOf_map, rowsOf_mapc, hB8, hT8, hD8, hA8, hch1, hdl] at hr; subst hr; (first | refine ⟨_, by with_reducible rfl, ?_⟩ | refine .inl ⟨by with_reducible rfl, ?_⟩ | refine .inr ⟨by with_reducible rfl, ?_⟩); try simp only [xthen_n, xthen_x, xthen_r, xthen_g, xblock_n, xblock_r, xblock_g, xblock_x, xscope_n, xscope_r, xscope_x, ↓reduceIte, Nat.reduceEqDiff]) | refine awp_seq ?_ | refine awp_block ?_ | refine awp_scope ?_ | ((first | refine awp_skip ?_ | refine awp_exit ?_ | refine awp_ret ?_ | refine awp_label ?_); try simp only [xthen_n, xthen_x, xthen_r, xthen_g, xblock_n, xblock_r, xblock_g, xblock_x, xscope_n, xscope_r, xscope_x, ↓reduceIte, Nat.reduceEqDiff])))
      (refine x_ret0 (by first | exact .inl rfl | exact .inr rfl) ?_; intro r hr; simp (maxSteps := 2000000) (disch := omega) only [push_cast, Nat.reduceAdd, Nat.reduceSub, Nat.reduceMul, Nat.reduceMod, Nat.reduceDiv, Int.reduceToNat, Int.reduceNeg, reduceCtorEq, ↓reduceIte, ↓Int.cast_ofNat_Int, Int.reduceAdd, Int.reduceSub, Int.reduceMul, Int.reduceDiv, Int.reduceMod, ↓Nat.reduceEqDiff, ↓Nat.reduceLT, ↓Nat.reduceLeDiff, ↓Nat.reduceBEq, ↓Int.reduceLT, ↓Int.reduceLE, ↓Int.reduceEq, Try.results13] at hr; subst hr; refine ⟨_, by with_reducible rfl, ?_⟩; simp only [renV, renVs])
      (first | exact ⟨trivial, trivial⟩ | exact ⟨trivial, rfl⟩ | exact ⟨rfl, trivial⟩ | exact ⟨rfl, rfl⟩)
end Go.Proofs.Ytolmhlikmjkkfaa
