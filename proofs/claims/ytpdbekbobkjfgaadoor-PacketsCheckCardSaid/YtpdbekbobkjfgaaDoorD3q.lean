/-
  The statement PacketsText: texts of packets, shape by shape, of the program and of the reference; the law's plain function is true.
  Conditions: none.
-/
import Derived.Test.YtpdbekbobkjfgaaDoorD3u
import Derived.Test.YtpdbekbobkjfgaaDoorD3B2
import Derived.Lib.ItoaNum
namespace Go.Proofs.YtpdbekbobkjfgaaDoor
set_option linter.unusedVariables false
set_option linter.unusedSimpArgs false
set_option maxRecDepth 100000
set_option maxHeartbeats 4000000

def hexd (n : Nat) : UInt8 := UInt8.ofNat (if n < 10 then 48 + n else 87 + n)
def hexl : List Nat → List UInt8
  | [] => []
  | x :: l => hexd (x / 16) :: hexd (x % 16) :: hexl l

theorem bt_app (a b : List UInt8) : (⟨⟨a⟩⟩ : ByteArray) ++ (⟨⟨b⟩⟩ : ByteArray) = ⟨⟨a ++ b⟩⟩ := by
  apply ByteArray.ext
  rw [ByteArray.data_append]
  simp
theorem bt_size (a : List UInt8) : ByteArray.size (⟨⟨a⟩⟩ : ByteArray) = a.length := rfl
theorem bt_list (a : List UInt8) : ByteArray.toList (⟨⟨a⟩⟩ : ByteArray) = a := by simp
theorem bt_strs (l : List UInt8) : Go.strOfNums (l.map fun b => ((b.toNat : Nat) : Int)) = ⟨⟨l⟩⟩ := by
  apply ByteArray.ext
  unfold Go.strOfNums
  simp [List.map_map, Function.comp_def]
theorem hx1 : ∀ f : Fin 256, inB (Int.fdiv ((f.val : Nat) : Int) ((2 : Int) ^ Min.min (Int.toNat (4 : Int)) (Go.IntKind.bits .u8))) (ByteArray.size HXS) = true ∧ inB (Go.bits .and .u8 ((f.val : Nat) : Int) (15 : Int)) (ByteArray.size HXS) = true ∧
    [(↑(UInt8.toNat (Option.getD HXS[Int.toNat (Int.fdiv ((f.val : Nat) : Int) ((2 : Int) ^ Min.min (Int.toNat (4 : Int)) (Go.IntKind.bits .u8)))]? (0 : UInt8))) : Int), (↑(UInt8.toNat (Option.getD HXS[Int.toNat (Go.bits .and .u8 ((f.val : Nat) : Int) (15 : Int))]? (0 : UInt8))) : Int)] = [(((hexd (f.val / 16)).toNat : Nat) : Int), (((hexd (f.val % 16)).toNat : Nat) : Int)] := by decide +kernel
theorem hexl_app : ∀ a b : List Nat, hexl (a ++ b) = hexl a ++ hexl b
  | [], b => rfl
  | x :: a, b => by simp only [List.cons_append, hexl, hexl_app a b]
theorem hexl_len : ∀ a : List Nat, (hexl a).length = 2 * a.length
  | [] => rfl
  | x :: a => by simp only [hexl, List.length_cons, hexl_len a]; omega
theorem hexl_take {l : List Nat} {i : Nat} (h : i < l.length) : hexl (l.take (i + 1)) = hexl (l.take i) ++ [hexd (l.getD i 0 / 16), hexd (l.getD i 0 % 16)] := by
  rw [List.take_add_one, List.getElem?_eq_getElem h, getD_lt h, hexl_app]
  rfl
theorem szF {n : Nat} (h : n ≤ 1000000) : decide (((n : Nat) : Int) > Go.IntKind.max Go.IntKind.i64) = false := dF (by
  have : Go.IntKind.max Go.IntKind.i64 = 9223372036854775807 := by decide
  rw [this]; omega)
theorem hex3_L0_eq (m : Nat) (l : List Nat) (hl : ∀ x ∈ l, x < 256) (hn : l.length ≤ 100000) : ∀ (f i : Nat), i ≤ l.length → l.length - i < f → hex3_L0 m f (nI l) (l.length : Int) (i : Int) ((hexl (l.take i)).map fun b => ((b.toNat : Nat) : Int)) = some ((), ((hexl l).map fun b => ((b.toNat : Nat) : Int)), ()) := by
  intro f
  induction f with
  | zero => intro i _ h; omega
  | succ f ih =>
    intro i hi hf
    rw [hex3_L0]
    by_cases hlt : i < l.length
    · have hx : l.getD i 0 < 256 := by rw [getD_lt hlt]; exact hl _ (List.getElem_mem _)
      obtain ⟨h1, h2, h3⟩ := hx1 ⟨l.getD i 0, hx⟩
      have et := hexl_take hlt
      rw [nI_len, dT (show (i : Int) < (l.length : Int) by omega), cond_true, inT (by omega) (by omega), cond_true, Int.toNat_natCast, nI_get, h1, cond_true, h2, cond_true, h3]
      rw [gr1 _ (by simp only [List.length_map, hexl_len, List.length_cons, List.length_nil, List.length_take]; omega), cond_true, wi64 (by omega) (by omega), show ((i : Int) + 1) = ((i + 1 : Nat) : Int) by omega]
      have e2 : (hexl (l.take i)).map (fun b => ((b.toNat : Nat) : Int)) ++ [(((hexd (l.getD i 0 / 16)).toNat : Nat) : Int), (((hexd (l.getD i 0 % 16)).toNat : Nat) : Int)] = (hexl (l.take (i + 1))).map fun b => ((b.toNat : Nat) : Int) := by
        rw [et, List.map_append]; rfl
      rw [e2]
      exact ih (i + 1) (by omega) (by omega)
    · have : i = l.length := by omega
      subst this
      rw [dF (show ¬ ((l.length : Nat) : Int) < (l.length : Int) by omega), cond_false, List.take_length]
theorem hex3_eq (m : Nat) (l : List Nat) (hl : ∀ x ∈ l, x < 256) (hn : l.length ≤ 2000) (hm : l.length < m) : hex3_D m (nI l) = some (⟨⟨hexl l⟩⟩, ()) := by
  have h := hex3_L0_eq m l hl (by omega) m 0 (by omega) (by omega)
  unfold hex3_D
  rw [nI_len, mk0 _ (by rw [wi64 (by omega) (by omega)]; omega) (by rw [wi64 (by omega) (by omega)]; omega), cond_true]
  have e0 : List.replicate (Int.toNat (0 : Int)) (0 : Int) = (hexl (l.take 0)).map fun b => ((b.toNat : Nat) : Int) := rfl
  rw [e0, show ((0 : Int)) = ((0 : Nat) : Int) from rfl, h, bnd_some, bt_strs]
theorem itoa_eq (m a : Nat) (ha : a ≤ 1000000) : itoa_D m (a : Int) = some (⟨⟨Go.Lib.decDigits a⟩⟩, ()) := by
  unfold itoa_D
  rw [dT (by omega), dT (by omega), Bool.and_true, cond_true]
  unfold Go.Lib.itoa
  rw [if_neg (by omega), Int.toNat_natCast]
theorem dd_len : ∀ (k a : Nat), a < 10 ^ (k + 1) → (Go.Lib.decDigits a).length ≤ k + 1
  | 0, a, h => by rw [Go.Lib.decDigits, dif_pos (by simpa using h)]; simp
  | k + 1, a, h => by
    rw [Go.Lib.decDigits]
    split
    · simp
    · have := dd_len k (a / 10) (by rw [Nat.pow_succ] at h; omega)
      simp only [List.length_append, List.length_singleton]; omega

def nmL : List (List UInt8) := [[], [111, 117, 116], [97, 99, 107], [100, 97, 116, 97, 48], [], [115, 111, 102], [110, 121, 101, 116], [], [115, 112, 108, 105, 116], [105, 110], [110, 97, 107], [100, 97, 116, 97, 49], [], [115, 101, 116, 117, 112], [115, 116, 97, 108, 108], []]
def nmP (p : Nat) : List UInt8 := nmL.getD p []
def kdL : List (List UInt8) := [[99, 111, 110, 116, 114, 111, 108], [105, 115, 111, 99, 104, 114, 111, 110, 111, 117, 115], [98, 117, 108, 107], [105, 110, 116, 101, 114, 114, 117, 112, 116]]
def kd (k : Nat) : List UInt8 := kdL.getD k []
theorem nm_len (p : Nat) (h : p < 16) : (nmP p).length ≤ 5 := by
  rcases lt16 h with rfl | rfl | rfl | rfl | rfl | rfl | rfl | rfl | rfl | rfl | rfl | rfl | rfl | rfl | rfl | rfl <;> decide
theorem lt4 {k : Nat} (h : k < 4) : k = 0 ∨ k = 1 ∨ k = 2 ∨ k = 3 := by omega
theorem kd_len (k : Nat) (h : k < 4) : (kd k).length ≤ 11 := by
  rcases lt4 h with rfl | rfl | rfl | rfl <;> decide
theorem nm16 (p : Nat) (h : p < 16) : List.getD N16 (nat_lit 0 + Int.toNat (p : Int)) ByteArray.empty = ⟨⟨nmP p⟩⟩ := by
  rcases lt16 h with rfl | rfl | rfl | rfl | rfl | rfl | rfl | rfl | rfl | rfl | rfl | rfl | rfl | rfl | rfl | rfl <;> rfl
theorem ln16 (p : Nat) (h : p < 16) : decide (nat_lit 0 + Int.toNat (p : Int) < List.length N16) = true := by
  rcases lt16 h with rfl | rfl | rfl | rfl | rfl | rfl | rfl | rfl | rfl | rfl | rfl | rfl | rfl | rfl | rfl | rfl <;> rfl
theorem kd4 (k : Nat) (h : k < 4) : List.getD KDS (nat_lit 0 + Int.toNat (k : Int)) ByteArray.empty = ⟨⟨kd k⟩⟩ := by
  rcases lt4 h with rfl | rfl | rfl | rfl <;> rfl
theorem ln4 (k : Nat) (h : k < 4) : decide (nat_lit 0 + Int.toNat (k : Int) < List.length KDS) = true := by
  rcases lt4 h with rfl | rfl | rfl | rfl <;> rfl
theorem wiN (a : Nat) (h : a ≤ 1000000) : Go.IntKind.wrap .i64 (a : Int) = (a : Int) := wi64 (by omega) (by omega)

def txT (p a e : Nat) : List UInt8 := nmP p ++ 32 :: (Go.Lib.decDigits a ++ 46 :: Go.Lib.decDigits e)
def txF (p f : Nat) : List UInt8 := nmP p ++ 32 :: Go.Lib.decDigits f
def txS (p h q k : Nat) (c l : Bool) : List UInt8 := nmP p ++ ((if c then [32, 99, 111, 109, 112, 108, 101, 116, 101] else [32, 115, 116, 97, 114, 116]) ++ 32 :: (Go.Lib.decDigits h ++ 46 :: (Go.Lib.decDigits q ++ 32 :: (kd k ++ if l then [32, 108, 111, 119] else []))))
def txD (p : Nat) (d : List Nat) : List UInt8 := nmP p ++ if d = [] then [] else 32 :: hexl d

theorem text_T (m p : Nat) (hp : p < 16) (hs : shv p = 2) (a e : Nat) (ha : a < 128) (he : e < 16) : text3_D m ((p : Int), (a : Int), (e : Int), 0, 0, 0, false, false, 0, [], ()) = some (⟨⟨txT p a e⟩⟩, ()) := by
  have l0 := nm_len p hp
  have l1 := dd_len 6 a (by omega)
  have l2 := dd_len 6 e (by omega)
  unfold text3_D
  rw [pkOk0 m p hp (by omega) (a : Int) (e : Int) 0 0 0 0 false false [] (.inl hs) (by omega) (by omega) (by omega) (by omega) (.inr rfl) (by omega) (by omega) (.inr ⟨rfl, rfl, rfl, rfl, rfl⟩) (by omega) (by omega) (by omega) (by omega) (by omega) (by omega) (.inr rfl) (by simp), bnd_some]
  simp only [decide_true, Bool.not_true, cond_false, inT (show (0 : Int) ≤ (p : Int) by omega) (show (p : Int) < (16 : Nat) by omega), nm16 p hp, ln16 p hp, cond_true, shape_eq m p hp, hs, bnd_some, show decide (((2 : Nat) : Int) = 2) = true from rfl, wiN a (by omega), wiN e (by omega), itoa_eq m a (by omega), itoa_eq m e (by omega), bt_app, bt_size]
  simp (disch := (simp only [List.length_append, List.length_cons, List.length_nil]; omega)) only [szF, Bool.not_false, cond_true]
  simp only [txT, List.append_assoc, List.cons_append, List.nil_append]
theorem text_F (m p : Nat) (hp : p < 16) (hs : shv p = 3) (f : Nat) (hf : f < 2048) : text3_D m ((p : Int), 0, 0, (f : Int), 0, 0, false, false, 0, [], ()) = some (⟨⟨txF p f⟩⟩, ()) := by
  have l0 := nm_len p hp
  have l1 := dd_len 6 f (by omega)
  unfold text3_D
  rw [pkOk0 m p hp (by omega) 0 0 (f : Int) 0 0 0 false false [] (.inr ⟨rfl, rfl⟩) (by omega) (by omega) (by omega) (by omega) (.inl hs) (by omega) (by omega) (.inr ⟨rfl, rfl, rfl, rfl, rfl⟩) (by omega) (by omega) (by omega) (by omega) (by omega) (by omega) (.inr rfl) (by simp), bnd_some]
  simp only [decide_true, Bool.not_true, cond_false, inT (show (0 : Int) ≤ (p : Int) by omega) (show (p : Int) < (16 : Nat) by omega), nm16 p hp, ln16 p hp, cond_true, shape_eq m p hp, hs, bnd_some, show decide (((3 : Nat) : Int) = 2) = false from rfl, show decide (((3 : Nat) : Int) = 3) = true from rfl, wiN f (by omega), itoa_eq m f (by omega), bt_app, bt_size]
  simp (disch := (simp only [List.length_append, List.length_cons, List.length_nil]; omega)) only [szF, Bool.not_false, cond_true]
  simp only [txF, List.append_assoc, List.cons_append, List.nil_append]
theorem text_S (m p : Nat) (hp : p < 16) (hs : shv p = 4) (h q k : Nat) (c l : Bool) (hh : h < 128) (hq : q < 128) (hk : k < 4) : text3_D m ((p : Int), 0, 0, 0, (h : Int), (q : Int), c, l, (k : Int), [], ()) = some (⟨⟨txS p h q k c l⟩⟩, ()) := by
  have l0 := nm_len p hp
  have l1 := dd_len 6 h (by omega)
  have l2 := dd_len 6 q (by omega)
  have l3 := kd_len k hk
  unfold text3_D
  rw [pkOk0 m p hp (by omega) 0 0 0 (h : Int) (q : Int) (k : Int) c l [] (.inr ⟨rfl, rfl⟩) (by omega) (by omega) (by omega) (by omega) (.inr rfl) (by omega) (by omega) (.inl hs) (by omega) (by omega) (by omega) (by omega) (by omega) (by omega) (.inr rfl) (by simp), bnd_some]
  simp only [decide_true, Bool.not_true, cond_false, inT (show (0 : Int) ≤ (p : Int) by omega) (show (p : Int) < (16 : Nat) by omega), nm16 p hp, ln16 p hp, cond_true, shape_eq m p hp, hs, bnd_some, show decide (((4 : Nat) : Int) = 2) = false from rfl, show decide (((4 : Nat) : Int) = 3) = false from rfl, show decide (((4 : Nat) : Int) = 4) = true from rfl,
    wiN h (by omega), wiN q (by omega), itoa_eq m h (by omega), itoa_eq m q (by omega), inT (show (0 : Int) ≤ (k : Int) by omega) (show (k : Int) < (4 : Nat) by omega), kd4 k hk, ln4 k hk, bt_app, bt_size]
  cases c <;> cases l <;> simp only [cond_true, cond_false] <;>
    simp (disch := (simp only [List.length_append, List.length_cons, List.length_nil]; omega)) only [szF, Bool.not_false, cond_true] <;>
    simp only [txS, List.append_assoc, List.cons_append, List.nil_append, List.append_nil, if_true, if_false, Bool.false_eq_true]
theorem text_P (m p : Nat) (hp : p < 16) (hs : shv p = 1) : text3_D m ((p : Int), 0, 0, 0, 0, 0, false, false, 0, [], ()) = some (⟨⟨nmP p⟩⟩, ()) := by
  unfold text3_D
  rw [pkOk0 m p hp (by omega) 0 0 0 0 0 0 false false [] (.inr ⟨rfl, rfl⟩) (by omega) (by omega) (by omega) (by omega) (.inr rfl) (by omega) (by omega) (.inr ⟨rfl, rfl, rfl, rfl, rfl⟩) (by omega) (by omega) (by omega) (by omega) (by omega) (by omega) (.inr rfl) (by simp), bnd_some]
  simp only [decide_true, Bool.not_true, cond_false, inT (show (0 : Int) ≤ (p : Int) by omega) (show (p : Int) < (16 : Nat) by omega), nm16 p hp, ln16 p hp, cond_true, shape_eq m p hp, hs, bnd_some, show decide (((1 : Nat) : Int) = 2) = false from rfl, show decide (((1 : Nat) : Int) = 3) = false from rfl, show decide (((1 : Nat) : Int) = 4) = false from rfl, show decide (((1 : Nat) : Int) = 5) = false from rfl]
theorem text_D (m p : Nat) (hp : p < 16) (hs : shv p = 5) (d : List Nat) (hd : ∀ x ∈ d, x < 256) (hn : d.length ≤ 1024) (hm : 2000 < m) : text3_D m ((p : Int), 0, 0, 0, 0, 0, false, false, 0, nI d, ()) = some (⟨⟨txD p d⟩⟩, ()) := by
  have l0 := nm_len p hp
  have l1 := hexl_len d
  unfold text3_D
  rw [pkOk0 m p hp (by omega) 0 0 0 0 0 0 false false (nI d) (.inr ⟨rfl, rfl⟩) (by omega) (by omega) (by omega) (by omega) (.inr rfl) (by omega) (by omega) (.inr ⟨rfl, rfl, rfl, rfl, rfl⟩) (by omega) (by omega) (by omega) (by omega) (by omega) (by omega) (.inl hs) (by rw [nI_len]; omega), bnd_some]
  simp only [decide_true, Bool.not_true, cond_false, inT (show (0 : Int) ≤ (p : Int) by omega) (show (p : Int) < (16 : Nat) by omega), nm16 p hp, ln16 p hp, cond_true, shape_eq m p hp, hs, bnd_some, show decide (((5 : Nat) : Int) = 2) = false from rfl, show decide (((5 : Nat) : Int) = 3) = false from rfl, show decide (((5 : Nat) : Int) = 4) = false from rfl, show decide (((5 : Nat) : Int) = 5) = true from rfl, nI_len, hex3_eq m d hd (by omega) (by omega), bt_app, bt_size]
  by_cases h0 : d = []
  · subst h0
    simp [txD]
  · have : 0 < d.length := List.length_pos_iff.2 h0
    rw [dT (show (0 : Int) < (d.length : Int) by omega), cond_true]
    simp (disch := (simp only [List.length_append, List.length_cons, List.length_nil]; omega)) only [szF, Bool.not_false, cond_true]
    simp only [txD, if_neg h0, List.append_assoc, List.cons_append, List.nil_append]


inductive Vp where
  | t (p a e : Nat)
  | f (p v : Nat)
  | s (p h q k : Nat) (c l : Bool)
  | n (p : Nat)
  | d (p : Nat) (ds : List Nat)
def Vp.p : Vp → Nat
  | .t p _ _ => p
  | .f p _ => p
  | .s p _ _ _ _ _ => p
  | .n p => p
  | .d p _ => p
def Vp.ok : Vp → Prop
  | .t p a e => p < 16 ∧ shv p = 2 ∧ a < 128 ∧ e < 16
  | .f p v => p < 16 ∧ shv p = 3 ∧ v < 2048
  | .s p h q k _ _ => p < 16 ∧ shv p = 4 ∧ h < 128 ∧ q < 128 ∧ k < 4
  | .n p => p < 16 ∧ shv p = 1
  | .d p ds => p < 16 ∧ shv p = 5 ∧ (∀ x ∈ ds, x < 256) ∧ ds.length ≤ 1024
def Vp.pk : Vp → Pkt
  | .t p a e => ((p : Int), (a : Int), (e : Int), 0, 0, 0, false, false, 0, [], ())
  | .f p v => ((p : Int), 0, 0, (v : Int), 0, 0, false, false, 0, [], ())
  | .s p h q k c l => ((p : Int), 0, 0, 0, (h : Int), (q : Int), c, l, (k : Int), [], ())
  | .n p => ((p : Int), 0, 0, 0, 0, 0, false, false, 0, [], ())
  | .d p ds => ((p : Int), 0, 0, 0, 0, 0, false, false, 0, nI ds, ())
def Vp.re : Vp → List UInt8
  | .t p a e => 32 :: (Go.Lib.decDigits a ++ 46 :: Go.Lib.decDigits e)
  | .f p v => 32 :: Go.Lib.decDigits v
  | .s p h q k c l => (if c then [32, 99, 111, 109, 112, 108, 101, 116, 101] else [32, 115, 116, 97, 114, 116]) ++ 32 :: (Go.Lib.decDigits h ++ 46 :: (Go.Lib.decDigits q ++ 32 :: (kd k ++ if l then [32, 108, 111, 119] else [])))
  | .n p => []
  | .d p ds => if ds = [] then [] else 32 :: hexl ds
theorem text_vp (m : Nat) (hm : 2000 < m) (v : Vp) (h : v.ok) : text3_D m v.pk = some (⟨⟨nmP v.p ++ v.re⟩⟩, ()) := by
  cases v with
  | t p a e => obtain ⟨h1, h2, h3, h4⟩ := h; exact text_T m p h1 h2 a e h3 h4
  | f p v => obtain ⟨h1, h2, h3⟩ := h; exact text_F m p h1 h2 v h3
  | s p x q k c l => obtain ⟨h1, h2, h3, h4, h5⟩ := h; exact text_S m p h1 h2 x q k c l h3 h4 h5
  | n p => obtain ⟨h1, h2⟩ := h; simp only [Vp.re, List.append_nil]; exact text_P m p h1 h2
  | d p d => obtain ⟨h1, h2, h3, h4⟩ := h; exact text_D m p h1 h2 d h3 h4 hm
theorem ok_p (v : Vp) (h : v.ok) : v.p < 16 ∧ shv v.p ≠ 0 := by
  cases v with
  | t p a e => exact ⟨h.1, by have := h.2.1; simp only [Vp.p]; omega⟩
  | f p v => exact ⟨h.1, by have := h.2.1; simp only [Vp.p]; omega⟩
  | s p x q k c l => exact ⟨h.1, by have := h.2.1; simp only [Vp.p]; omega⟩
  | n p => exact ⟨h.1, by have := h.2; simp only [Vp.p]; omega⟩
  | d p d => exact ⟨h.1, by have := h.2.1; simp only [Vp.p]; omega⟩

end Go.Proofs.YtpdbekbobkjfgaaDoor

