/-
  The statement PacketsText: texts of packets, shape by shape, of the program and of the reference; the law's plain function is true.
  Conditions: none.
-/
import Derived.Test.YtpdbekbobkjfgaaDoorD3u
import Derived.Test.YtpdbekbobkjfgaaDoorD3B2
import Derived.Lib.ItoaNum
namespace Go.Proofs.YtpdbekbobkjfgaaDoor
set_option linter.unusedVariables false
set_option linter.unusedSimpArgs false
set_option maxRecDepth 100000
set_option maxHeartbeats 4000000

theorem ofN {n : Nat} (h : n < 256) : (UInt8.ofNat n).toNat = n := by rw [UInt8.toNat_ofNat']; omega
theorem dd_digit (u : Nat) : ∀ x ∈ Go.Lib.decDigits u, 48 ≤ x.toNat ∧ x.toNat ≤ 57 := by
  induction u using Nat.strongRecOn with
  | _ u ih =>
    intro x hx
    rw [Go.Lib.decDigits] at hx
    split at hx
    · rename_i h
      simp only [List.mem_singleton] at hx
      subst hx
      rw [ofN (show 48 + u < 256 by omega)]
      omega
    · rename_i h
      rcases List.mem_append.1 hx with h1 | h1
      · exact ih (u / 10) (by omega) x h1
      · simp only [List.mem_singleton] at h1
        subst h1
        rw [ofN (show 48 + u % 10 < 256 by omega)]
        omega
def undec (l : List UInt8) : Nat := l.foldl (fun a x => a * 10 + (x.toNat - 48)) 0
theorem undec_dd (u : Nat) : undec (Go.Lib.decDigits u) = u := by
  induction u using Nat.strongRecOn with
  | _ u ih =>
    rw [Go.Lib.decDigits]
    split
    · rename_i h
      simp only [undec, List.foldl_cons, List.foldl_nil]
      rw [ofN (show 48 + u < 256 by omega)]
      omega
    · rename_i h
      have h1 := ih (u / 10) (by omega)
      unfold undec at h1 ⊢
      rw [List.foldl_append, h1]
      simp only [List.foldl_cons, List.foldl_nil]
      rw [ofN (show 48 + u % 10 < 256 by omega)]
      omega
theorem dd_inj {u v : Nat} (h : Go.Lib.decDigits u = Go.Lib.decDigits v) : u = v := by
  rw [← undec_dd u, ← undec_dd v, h]
theorem sep_inj {α : Type} {c : α} : ∀ {l1 l2 r1 r2 : List α}, c ∉ l1 → c ∉ l2 → l1 ++ c :: r1 = l2 ++ c :: r2 → l1 = l2 ∧ r1 = r2
  | [], [], r1, r2, _, _, h => by simpa using h
  | [], y :: l2, r1, r2, _, h2, h => by
    simp only [List.nil_append, List.cons_append, List.cons.injEq] at h
    exact absurd (h.1 ▸ List.mem_cons_self) h2
  | x :: l1, [], r1, r2, h1, _, h => by
    simp only [List.nil_append, List.cons_append, List.cons.injEq] at h
    exact absurd (h.1 ▸ List.mem_cons_self) h1
  | x :: l1, y :: l2, r1, r2, h1, h2, h => by
    simp only [List.cons_append, List.cons.injEq] at h
    obtain ⟨rfl, h⟩ := h
    obtain ⟨rfl, h4⟩ := sep_inj (fun h' => h1 (List.mem_cons_of_mem _ h')) (fun h' => h2 (List.mem_cons_of_mem _ h')) h
    exact ⟨rfl, h4⟩
theorem dd_no (u : Nat) {c : UInt8} (hc : c.toNat < 48) : c ∉ Go.Lib.decDigits u := fun h => by
  have := (dd_digit u c h).1
  omega
theorem pair_inj {a b c d : Nat} (h : Go.Lib.decDigits a ++ 46 :: Go.Lib.decDigits b = Go.Lib.decDigits c ++ 46 :: Go.Lib.decDigits d) : a = c ∧ b = d := by
  obtain ⟨h1, h2⟩ := sep_inj (dd_no a (by decide)) (dd_no c (by decide)) h
  exact ⟨dd_inj h1, dd_inj h2⟩
theorem pair_inj' {a b c d : Nat} {r s : List UInt8} (h : Go.Lib.decDigits a ++ 46 :: (Go.Lib.decDigits b ++ 32 :: r) = Go.Lib.decDigits c ++ 46 :: (Go.Lib.decDigits d ++ 32 :: s)) : a = c ∧ b = d ∧ r = s := by
  obtain ⟨h1, h2⟩ := sep_inj (dd_no a (by decide)) (dd_no c (by decide)) h
  obtain ⟨h3, h4⟩ := sep_inj (dd_no b (by decide)) (dd_no d (by decide)) h2
  exact ⟨dd_inj h1, dd_inj h3, h4⟩
def hexd (n : Nat) : UInt8 := UInt8.ofNat (if n < 10 then 48 + n else 87 + n)
def hexl : List Nat → List UInt8
  | [] => []
  | x :: l => hexd (x / 16) :: hexd (x % 16) :: hexl l
theorem hexd_inj {a b : Nat} (ha : a < 16) (hb : b < 16) (h : hexd a = hexd b) : a = b := by
  have h1 := congrArg UInt8.toNat h
  unfold hexd at h1
  rw [ofN (n := if a < 10 then 48 + a else 87 + a) (by split <;> omega), ofN (n := if b < 10 then 48 + b else 87 + b) (by split <;> omega)] at h1
  split at h1 <;> split at h1 <;> omega
theorem hexl_inj : ∀ {l k : List Nat}, (∀ x ∈ l, x < 256) → (∀ x ∈ k, x < 256) → hexl l = hexl k → l = k
  | [], [], _, _, _ => rfl
  | [], _ :: _, _, _, h => by simp [hexl] at h
  | _ :: _, [], _, _, h => by simp [hexl] at h
  | x :: l, y :: k, h1, h2, h => by
    simp only [hexl, List.cons.injEq] at h
    have hx := h1 x List.mem_cons_self
    have hy := h2 y List.mem_cons_self
    have e1 := hexd_inj (by omega) (by omega) h.1
    have e2 := hexd_inj (by omega) (by omega) h.2.1
    rw [hexl_inj (fun z hz => h1 z (List.mem_cons_of_mem _ hz)) (fun z hz => h2 z (List.mem_cons_of_mem _ hz)) h.2.2]
    congr 1
    omega

theorem bt_app (a b : List UInt8) : (⟨⟨a⟩⟩ : ByteArray) ++ (⟨⟨b⟩⟩ : ByteArray) = ⟨⟨a ++ b⟩⟩ := by
  apply ByteArray.ext
  rw [ByteArray.data_append]
  simp
theorem bt_size (a : List UInt8) : ByteArray.size (⟨⟨a⟩⟩ : ByteArray) = a.length := rfl
theorem bt_list (a : List UInt8) : ByteArray.toList (⟨⟨a⟩⟩ : ByteArray) = a := by simp
theorem bt_strs (l : List UInt8) : Go.strOfNums (l.map fun b => ((b.toNat : Nat) : Int)) = ⟨⟨l⟩⟩ := by
  apply ByteArray.ext
  unfold Go.strOfNums
  simp [List.map_map, Function.comp_def]
theorem hx1 : ∀ f : Fin 256, inB (Int.fdiv ((f.val : Nat) : Int) ((2 : Int) ^ Min.min (Int.toNat (4 : Int)) (Go.IntKind.bits .u8))) (ByteArray.size (⟨⟨[48, 49, 50, 51, 52, 53, 54, 55, 56, 57, 97, 98, 99, 100, 101, 102]⟩⟩ : ByteArray)) = true ∧ inB (Go.bits .and .u8 ((f.val : Nat) : Int) (15 : Int)) (ByteArray.size (⟨⟨[48, 49, 50, 51, 52, 53, 54, 55, 56, 57, 97, 98, 99, 100, 101, 102]⟩⟩ : ByteArray)) = true ∧
    [(↑(UInt8.toNat (Option.getD (⟨⟨[48, 49, 50, 51, 52, 53, 54, 55, 56, 57, 97, 98, 99, 100, 101, 102]⟩⟩ : ByteArray)[Int.toNat (Int.fdiv ((f.val : Nat) : Int) ((2 : Int) ^ Min.min (Int.toNat (4 : Int)) (Go.IntKind.bits .u8)))]? (0 : UInt8))) : Int), (↑(UInt8.toNat (Option.getD (⟨⟨[48, 49, 50, 51, 52, 53, 54, 55, 56, 57, 97, 98, 99, 100, 101, 102]⟩⟩ : ByteArray)[Int.toNat (Go.bits .and .u8 ((f.val : Nat) : Int) (15 : Int))]? (0 : UInt8))) : Int)] = [(((hexd (f.val / 16)).toNat : Nat) : Int), (((hexd (f.val % 16)).toNat : Nat) : Int)] := by decide +kernel
theorem hx2 : ∀ f : Fin 256, (decide ((0 : Int) ≤ Go.IntKind.wrap .u8 (Int.tdiv ((f.val : Nat) : Int) (16 : Int))) && (decide (Go.IntKind.wrap .u8 (Int.tdiv ((f.val : Nat) : Int) (16 : Int)) ≤ Go.IntKind.wrap .u8 (Go.IntKind.wrap .u8 (Int.tdiv ((f.val : Nat) : Int) (16 : Int)) + (1 : Int))) && decide (Int.toNat (Go.IntKind.wrap .u8 (Go.IntKind.wrap .u8 (Int.tdiv ((f.val : Nat) : Int) (16 : Int)) + (1 : Int))) ≤ ByteArray.size (⟨⟨[48, 49, 50, 51, 52, 53, 54, 55, 56, 57, 97, 98, 99, 100, 101, 102]⟩⟩ : ByteArray)))) = true ∧
    (decide ((0 : Int) ≤ Int.tmod ((f.val : Nat) : Int) (16 : Int)) && (decide (Int.tmod ((f.val : Nat) : Int) (16 : Int) ≤ Go.IntKind.wrap .u8 (Int.tmod ((f.val : Nat) : Int) (16 : Int) + (1 : Int))) && decide (Int.toNat (Go.IntKind.wrap .u8 (Int.tmod ((f.val : Nat) : Int) (16 : Int) + (1 : Int))) ≤ ByteArray.size (⟨⟨[48, 49, 50, 51, 52, 53, 54, 55, 56, 57, 97, 98, 99, 100, 101, 102]⟩⟩ : ByteArray)))) = true := by decide +kernel
theorem hx3 : ∀ f : Fin 256, (ByteArray.extract (⟨⟨[48, 49, 50, 51, 52, 53, 54, 55, 56, 57, 97, 98, 99, 100, 101, 102]⟩⟩ : ByteArray) (Int.toNat (Go.IntKind.wrap .u8 (Int.tdiv ((f.val : Nat) : Int) (16 : Int)))) (Int.toNat (Go.IntKind.wrap .u8 (Go.IntKind.wrap .u8 (Int.tdiv ((f.val : Nat) : Int) (16 : Int)) + (1 : Int))))).data.toList = [hexd (f.val / 16)] ∧
    (ByteArray.extract (⟨⟨[48, 49, 50, 51, 52, 53, 54, 55, 56, 57, 97, 98, 99, 100, 101, 102]⟩⟩ : ByteArray) (Int.toNat (Int.tmod ((f.val : Nat) : Int) (16 : Int))) (Int.toNat (Go.IntKind.wrap .u8 (Int.tmod ((f.val : Nat) : Int) (16 : Int) + (1 : Int))))).data.toList = [hexd (f.val % 16)] := by decide +kernel
theorem bt_of {b : ByteArray} {l : List UInt8} (h : b.data.toList = l) : b = ⟨⟨l⟩⟩ := by subst h; rfl
theorem hexl_app : ∀ a b : List Nat, hexl (a ++ b) = hexl a ++ hexl b
  | [], b => rfl
  | x :: a, b => by simp only [List.cons_append, hexl, hexl_app a b]
theorem hexl_len : ∀ a : List Nat, (hexl a).length = 2 * a.length
  | [] => rfl
  | x :: a => by simp only [hexl, List.length_cons, hexl_len a]; omega
theorem hexl_take {l : List Nat} {i : Nat} (h : i < l.length) : hexl (l.take (i + 1)) = hexl (l.take i) ++ [hexd (l.getD i 0 / 16), hexd (l.getD i 0 % 16)] := by
  rw [List.take_add_one, List.getElem?_eq_getElem h, getD_lt h, hexl_app]
  rfl
theorem szF {n : Nat} (h : n ≤ 1000000) : decide (((n : Nat) : Int) > Go.IntKind.max Go.IntKind.i64) = false := dF (by
  have : Go.IntKind.max Go.IntKind.i64 = 9223372036854775807 := by decide
  rw [this]; omega)
theorem hex3_L0_eq (m : Nat) (l : List Nat) (hl : ∀ x ∈ l, x < 256) (hn : l.length ≤ 100000) : ∀ (f i : Nat), i ≤ l.length → l.length - i < f → hex3_L0 m f (nI l) (l.length : Int) (i : Int) ((hexl (l.take i)).map fun b => ((b.toNat : Nat) : Int)) = some ((), ((hexl l).map fun b => ((b.toNat : Nat) : Int)), ()) := by
  intro f
  induction f with
  | zero => intro i _ h; omega
  | succ f ih =>
    intro i hi hf
    rw [hex3_L0]
    by_cases hlt : i < l.length
    · have hx : l.getD i 0 < 256 := by rw [getD_lt hlt]; exact hl _ (List.getElem_mem _)
      obtain ⟨h1, h2, h3⟩ := hx1 ⟨l.getD i 0, hx⟩
      have et := hexl_take hlt
      rw [nI_len, dT (show (i : Int) < (l.length : Int) by omega), cond_true, inT (by omega) (by omega), cond_true, Int.toNat_natCast, nI_get, h1, cond_true, h2, cond_true, h3]
      rw [gr1 _ (by simp only [List.length_map, hexl_len, List.length_cons, List.length_nil, List.length_take]; omega), cond_true, wi64 (by omega) (by omega), show ((i : Int) + 1) = ((i + 1 : Nat) : Int) by omega]
      have e2 : (hexl (l.take i)).map (fun b => ((b.toNat : Nat) : Int)) ++ [(((hexd (l.getD i 0 / 16)).toNat : Nat) : Int), (((hexd (l.getD i 0 % 16)).toNat : Nat) : Int)] = (hexl (l.take (i + 1))).map fun b => ((b.toNat : Nat) : Int) := by
        rw [et, List.map_append]; rfl
      rw [e2]
      exact ih (i + 1) (by omega) (by omega)
    · have : i = l.length := by omega
      subst this
      rw [dF (show ¬ ((l.length : Nat) : Int) < (l.length : Int) by omega), cond_false, List.take_length]
theorem hex3_eq (m : Nat) (l : List Nat) (hl : ∀ x ∈ l, x < 256) (hn : l.length ≤ 2000) (hm : l.length < m) : hex3_D m (nI l) = some (⟨⟨hexl l⟩⟩, ()) := by
  have h := hex3_L0_eq m l hl (by omega) m 0 (by omega) (by omega)
  unfold hex3_D
  rw [nI_len, mk0 _ (by rw [wi64 (by omega) (by omega)]; omega) (by rw [wi64 (by omega) (by omega)]; omega), cond_true]
  have e0 : List.replicate (Int.toNat (0 : Int)) (0 : Int) = (hexl (l.take 0)).map fun b => ((b.toNat : Nat) : Int) := rfl
  rw [e0, show ((0 : Int)) = ((0 : Nat) : Int) from rfl, h, bnd_some, bt_strs]
theorem rhex_L0_eq (m : Nat) (l : List Nat) (hl : ∀ x ∈ l, x < 256) (hn : l.length ≤ 100000) : ∀ (f i : Nat), i ≤ l.length → l.length - i < f → rhex_L0 m f (nI l) (⟨⟨hexl (l.take i)⟩⟩) (i : Int) = some (((⟨⟨hexl l⟩⟩ : ByteArray), ()), ()) := by
  intro f
  induction f with
  | zero => intro i _ h; omega
  | succ f ih =>
    intro i hi hf
    rw [rhex_L0]
    by_cases hlt : i < l.length
    · have hx : l.getD i 0 < 256 := by rw [getD_lt hlt]; exact hl _ (List.getElem_mem _)
      obtain ⟨h1, h2⟩ := hx2 ⟨l.getD i 0, hx⟩
      obtain ⟨h3, h4⟩ := hx3 ⟨l.getD i 0, hx⟩
      replace h3 := bt_of h3
      replace h4 := bt_of h4
      have et := hexl_take hlt
      rw [nI_len, dT (show (i : Int) < (l.length : Int) by omega), cond_true, inT (by omega) (by omega), cond_true, cond_true, Int.toNat_natCast, nI_get, h1, cond_true, cond_true, cond_true, h2, cond_true, h3, h4]
      simp only [bt_app, bt_size]
      rw [szF (by simp), Bool.not_false, cond_true, szF (by simp only [List.length_append, hexl_len, List.length_cons, List.length_nil, List.length_take]; omega), Bool.not_false, cond_true, wi64 (by omega) (by omega), show ((i : Int) + 1) = ((i + 1 : Nat) : Int) by omega, List.singleton_append, ← et]
      exact ih (i + 1) (by omega) (by omega)
    · have : i = l.length := by omega
      subst this
      rw [nI_len, dF (show ¬ ((l.length : Nat) : Int) < (l.length : Int) by omega), cond_false, List.take_length]
theorem rhex_eq (m : Nat) (l : List Nat) (hl : ∀ x ∈ l, x < 256) (hn : l.length ≤ 2000) (hm : l.length < m) : rhex_D m (nI l) = some (⟨⟨hexl l⟩⟩, ()) := by
  have h := rhex_L0_eq m l hl (by omega) m 0 (by omega) (by omega)
  unfold rhex_D
  have e0 : (⟨⟨[]⟩⟩ : ByteArray) = ⟨⟨hexl (l.take 0)⟩⟩ := rfl
  rw [e0, show ((0 : Int)) = ((0 : Nat) : Int) from rfl, h, bnd_some]
theorem itoa_eq (m a : Nat) (ha : a ≤ 1000000) : itoa_D m (a : Int) = some (⟨⟨Go.Lib.decDigits a⟩⟩, ()) := by
  unfold itoa_D
  rw [dT (by omega), dT (by omega), Bool.and_true, cond_true]
  unfold Go.Lib.itoa
  rw [if_neg (by omega), Int.toNat_natCast]
theorem dd_len : ∀ (k a : Nat), a < 10 ^ (k + 1) → (Go.Lib.decDigits a).length ≤ k + 1
  | 0, a, h => by rw [Go.Lib.decDigits, dif_pos (by simpa using h)]; simp
  | k + 1, a, h => by
    rw [Go.Lib.decDigits]
    split
    · simp
    · have := dd_len k (a / 10) (by rw [Nat.pow_succ] at h; omega)
      simp only [List.length_append, List.length_singleton]; omega
theorem dg1 : ∀ f : Fin 10, (decide ((0 : Int) ≤ ((f.val : Nat) : Int)) && (decide (((f.val : Nat) : Int) ≤ Go.IntKind.wrap .i64 (((f.val : Nat) : Int) + (1 : Int))) && decide (Int.toNat (Go.IntKind.wrap .i64 (((f.val : Nat) : Int) + (1 : Int))) ≤ ByteArray.size (⟨⟨[48, 49, 50, 51, 52, 53, 54, 55, 56, 57]⟩⟩ : ByteArray)))) = true ∧
    (ByteArray.extract (⟨⟨[48, 49, 50, 51, 52, 53, 54, 55, 56, 57]⟩⟩ : ByteArray) (Int.toNat ((f.val : Nat) : Int)) (Int.toNat (Go.IntKind.wrap .i64 (((f.val : Nat) : Int) + (1 : Int))))).data.toList = [UInt8.ofNat (48 + f.val)] := by decide +kernel
theorem dec_dig (m a : Nat) (ha : a < 10) : dec_D (m + 1) (a : Int) = some (⟨⟨Go.Lib.decDigits a⟩⟩, ()) := by
  obtain ⟨h1, h2⟩ := dg1 ⟨a, ha⟩
  rw [dec_D, dT (show (a : Int) < 10 by omega), cond_true]
  simp only at h1 h2
  rw [h1, cond_true, bt_of h2, Go.Lib.decDigits, dif_pos ha]
theorem dec_eq : ∀ (m a : Nat), a < 10 ^ (m + 1) → a ≤ 1000000 → dec_D (m + 1) (a : Int) = some (⟨⟨Go.Lib.decDigits a⟩⟩, ())
  | 0, a, h, _ => dec_dig 0 a (by simpa using h)
  | m + 1, a, h, h2 => by
    by_cases ha : a < 10
    · exact dec_dig (m + 1) a ha
    · have e1 : Go.IntKind.wrap .i64 (Int.tdiv (a : Int) (10 : Int)) = ((a / 10 : Nat) : Int) := by
        rw [Int.tdiv_eq_ediv_of_nonneg (by omega), show ((a : Int) / 10) = ((a / 10 : Nat) : Int) by omega, wi64 (by omega) (by omega)]
      have l1 := dd_len 6 (a / 10) (by omega)
      rw [dec_D, dF (show ¬ (a : Int) < 10 by omega), cond_false, e1, show (10 : Int) = ((10 : Nat) : Int) from rfl, tmN, dec_eq m (a / 10) (by rw [Nat.pow_succ] at h; omega) (by omega), bnd_some, dec_dig m (a % 10) (by omega), bnd_some]
      simp only [bt_app, bt_size]
      have e2 : Go.Lib.decDigits (a % 10) = [UInt8.ofNat (48 + a % 10)] := by rw [Go.Lib.decDigits, dif_pos (by omega)]
      rw [szF (by rw [e2]; simp only [List.length_singleton]; omega), Bool.not_false, cond_true]
      rw [Go.Lib.decDigits.eq_def a, dif_neg ha, e2]

def nmL : List (List UInt8) := [[], [111, 117, 116], [97, 99, 107], [100, 97, 116, 97, 48], [], [115, 111, 102], [110, 121, 101, 116], [], [115, 112, 108, 105, 116], [105, 110], [110, 97, 107], [100, 97, 116, 97, 49], [], [115, 101, 116, 117, 112], [115, 116, 97, 108, 108], []]
def nmP (p : Nat) : List UInt8 := nmL.getD p []
def kdL : List (List UInt8) := [[99, 111, 110, 116, 114, 111, 108], [105, 115, 111, 99, 104, 114, 111, 110, 111, 117, 115], [98, 117, 108, 107], [105, 110, 116, 101, 114, 114, 117, 112, 116]]
def kd (k : Nat) : List UInt8 := kdL.getD k []
theorem nm_len (p : Nat) (h : p < 16) : (nmP p).length ≤ 5 := by
  rcases lt16 h with rfl | rfl | rfl | rfl | rfl | rfl | rfl | rfl | rfl | rfl | rfl | rfl | rfl | rfl | rfl | rfl <;> decide
theorem lt4 {k : Nat} (h : k < 4) : k = 0 ∨ k = 1 ∨ k = 2 ∨ k = 3 := by omega
theorem kd_len (k : Nat) (h : k < 4) : (kd k).length ≤ 11 := by
  rcases lt4 h with rfl | rfl | rfl | rfl <;> decide
theorem nm16 (p : Nat) (h : p < 16) : List.getD [(⟨⟨[]⟩⟩ : ByteArray), (⟨⟨[111, 117, 116]⟩⟩ : ByteArray), (⟨⟨[97, 99, 107]⟩⟩ : ByteArray), (⟨⟨[100, 97, 116, 97, 48]⟩⟩ : ByteArray), (⟨⟨[]⟩⟩ : ByteArray), (⟨⟨[115, 111, 102]⟩⟩ : ByteArray), (⟨⟨[110, 121, 101, 116]⟩⟩ : ByteArray), (⟨⟨[]⟩⟩ : ByteArray), (⟨⟨[115, 112, 108, 105, 116]⟩⟩ : ByteArray), (⟨⟨[105, 110]⟩⟩ : ByteArray), (⟨⟨[110, 97, 107]⟩⟩ : ByteArray), (⟨⟨[100, 97, 116, 97, 49]⟩⟩ : ByteArray), (⟨⟨[]⟩⟩ : ByteArray), (⟨⟨[115, 101, 116, 117, 112]⟩⟩ : ByteArray), (⟨⟨[115, 116, 97, 108, 108]⟩⟩ : ByteArray), (⟨⟨[]⟩⟩ : ByteArray)] (nat_lit 0 + Int.toNat (p : Int)) ByteArray.empty = ⟨⟨nmP p⟩⟩ := by
  rcases lt16 h with rfl | rfl | rfl | rfl | rfl | rfl | rfl | rfl | rfl | rfl | rfl | rfl | rfl | rfl | rfl | rfl <;> rfl
theorem ln16 (p : Nat) (h : p < 16) : decide (nat_lit 0 + Int.toNat (p : Int) < List.length [(⟨⟨[]⟩⟩ : ByteArray), (⟨⟨[111, 117, 116]⟩⟩ : ByteArray), (⟨⟨[97, 99, 107]⟩⟩ : ByteArray), (⟨⟨[100, 97, 116, 97, 48]⟩⟩ : ByteArray), (⟨⟨[]⟩⟩ : ByteArray), (⟨⟨[115, 111, 102]⟩⟩ : ByteArray), (⟨⟨[110, 121, 101, 116]⟩⟩ : ByteArray), (⟨⟨[]⟩⟩ : ByteArray), (⟨⟨[115, 112, 108, 105, 116]⟩⟩ : ByteArray), (⟨⟨[105, 110]⟩⟩ : ByteArray), (⟨⟨[110, 97, 107]⟩⟩ : ByteArray), (⟨⟨[100, 97, 116, 97, 49]⟩⟩ : ByteArray), (⟨⟨[]⟩⟩ : ByteArray), (⟨⟨[115, 101, 116, 117, 112]⟩⟩ : ByteArray), (⟨⟨[115, 116, 97, 108, 108]⟩⟩ : ByteArray), (⟨⟨[]⟩⟩ : ByteArray)]) = true := by
  rcases lt16 h with rfl | rfl | rfl | rfl | rfl | rfl | rfl | rfl | rfl | rfl | rfl | rfl | rfl | rfl | rfl | rfl <;> rfl
theorem kd4 (k : Nat) (h : k < 4) : List.getD [(⟨⟨[99, 111, 110, 116, 114, 111, 108]⟩⟩ : ByteArray), (⟨⟨[105, 115, 111, 99, 104, 114, 111, 110, 111, 117, 115]⟩⟩ : ByteArray), (⟨⟨[98, 117, 108, 107]⟩⟩ : ByteArray), (⟨⟨[105, 110, 116, 101, 114, 114, 117, 112, 116]⟩⟩ : ByteArray)] (nat_lit 0 + Int.toNat (k : Int)) ByteArray.empty = ⟨⟨kd k⟩⟩ := by
  rcases lt4 h with rfl | rfl | rfl | rfl <;> rfl
theorem kd4' (k : Nat) (h : k < 4) : List.getD [(⟨⟨[99, 111, 110, 116, 114, 111, 108]⟩⟩ : ByteArray), (⟨⟨[105, 115, 111, 99, 104, 114, 111, 110, 111, 117, 115]⟩⟩ : ByteArray), (⟨⟨[98, 117, 108, 107]⟩⟩ : ByteArray), (⟨⟨[105, 110, 116, 101, 114, 114, 117, 112, 116]⟩⟩ : ByteArray)] (Int.toNat (k : Int)) ByteArray.empty = ⟨⟨kd k⟩⟩ := by
  rcases lt4 h with rfl | rfl | rfl | rfl <;> rfl
theorem ln4 (k : Nat) (h : k < 4) : decide (nat_lit 0 + Int.toNat (k : Int) < List.length [(⟨⟨[99, 111, 110, 116, 114, 111, 108]⟩⟩ : ByteArray), (⟨⟨[105, 115, 111, 99, 104, 114, 111, 110, 111, 117, 115]⟩⟩ : ByteArray), (⟨⟨[98, 117, 108, 107]⟩⟩ : ByteArray), (⟨⟨[105, 110, 116, 101, 114, 114, 117, 112, 116]⟩⟩ : ByteArray)]) = true := by
  rcases lt4 h with rfl | rfl | rfl | rfl <;> rfl
theorem ln4' (k : Nat) (h : k < 4) : decide (Int.toNat (k : Int) < List.length [(⟨⟨[99, 111, 110, 116, 114, 111, 108]⟩⟩ : ByteArray), (⟨⟨[105, 115, 111, 99, 104, 114, 111, 110, 111, 117, 115]⟩⟩ : ByteArray), (⟨⟨[98, 117, 108, 107]⟩⟩ : ByteArray), (⟨⟨[105, 110, 116, 101, 114, 114, 117, 112, 116]⟩⟩ : ByteArray)]) = true := by
  rcases lt4 h with rfl | rfl | rfl | rfl <;> rfl
theorem in4' (k : Nat) (h : k < 4) : inB (k : Int) (List.length [(⟨⟨[99, 111, 110, 116, 114, 111, 108]⟩⟩ : ByteArray), (⟨⟨[105, 115, 111, 99, 104, 114, 111, 110, 111, 117, 115]⟩⟩ : ByteArray), (⟨⟨[98, 117, 108, 107]⟩⟩ : ByteArray), (⟨⟨[105, 110, 116, 101, 114, 114, 117, 112, 116]⟩⟩ : ByteArray)]) = true := by
  rcases lt4 h with rfl | rfl | rfl | rfl <;> rfl
theorem rname_eq (m p : Nat) (h : p < 16) : rname_D m (p : Int) = some (⟨⟨nmP p⟩⟩, ()) := by
  rcases lt16 h with rfl | rfl | rfl | rfl | rfl | rfl | rfl | rfl | rfl | rfl | rfl | rfl | rfl | rfl | rfl | rfl <;> rfl
theorem wiN (a : Nat) (h : a ≤ 1000000) : Go.IntKind.wrap .i64 (a : Int) = (a : Int) := wi64 (by omega) (by omega)

def txT (p a e : Nat) : List UInt8 := nmP p ++ 32 :: (Go.Lib.decDigits a ++ 46 :: Go.Lib.decDigits e)
def txF (p f : Nat) : List UInt8 := nmP p ++ 32 :: Go.Lib.decDigits f
def txS (p h q k : Nat) (c l : Bool) : List UInt8 := nmP p ++ ((if c then [32, 99, 111, 109, 112, 108, 101, 116, 101] else [32, 115, 116, 97, 114, 116]) ++ 32 :: (Go.Lib.decDigits h ++ 46 :: (Go.Lib.decDigits q ++ 32 :: (kd k ++ if l then [32, 108, 111, 119] else []))))
def txD (p : Nat) (d : List Nat) : List UInt8 := nmP p ++ if d = [] then [] else 32 :: hexl d

theorem text_T (m p : Nat) (hp : p < 16) (hs : shv p = 2) (a e : Nat) (ha : a < 128) (he : e < 16) : text3_D m ((p : Int), (a : Int), (e : Int), 0, 0, 0, false, false, 0, [], ()) = some (⟨⟨txT p a e⟩⟩, ()) := by
  have l0 := nm_len p hp
  have l1 := dd_len 6 a (by omega)
  have l2 := dd_len 6 e (by omega)
  unfold text3_D
  rw [pkOk0 m p hp (by omega) (a : Int) (e : Int) 0 0 0 0 false false [] (.inl hs) (by omega) (by omega) (by omega) (by omega) (.inr rfl) (by omega) (by omega) (.inr ⟨rfl, rfl, rfl, rfl, rfl⟩) (by omega) (by omega) (by omega) (by omega) (by omega) (by omega) (.inr rfl) (by simp), bnd_some]
  simp only [decide_true, Bool.not_true, cond_false, inT (show (0 : Int) ≤ (p : Int) by omega) (show (p : Int) < (16 : Nat) by omega), nm16 p hp, ln16 p hp, cond_true, shape_eq m p hp, hs, bnd_some, show decide (((2 : Nat) : Int) = 2) = true from rfl, wiN a (by omega), wiN e (by omega), itoa_eq m a (by omega), itoa_eq m e (by omega), bt_app, bt_size]
  simp (disch := (simp only [List.length_append, List.length_cons, List.length_nil]; omega)) only [szF, Bool.not_false, cond_true]
  simp only [txT, List.append_assoc, List.cons_append, List.nil_append]
theorem text_F (m p : Nat) (hp : p < 16) (hs : shv p = 3) (f : Nat) (hf : f < 2048) : text3_D m ((p : Int), 0, 0, (f : Int), 0, 0, false, false, 0, [], ()) = some (⟨⟨txF p f⟩⟩, ()) := by
  have l0 := nm_len p hp
  have l1 := dd_len 6 f (by omega)
  unfold text3_D
  rw [pkOk0 m p hp (by omega) 0 0 (f : Int) 0 0 0 false false [] (.inr ⟨rfl, rfl⟩) (by omega) (by omega) (by omega) (by omega) (.inl hs) (by omega) (by omega) (.inr ⟨rfl, rfl, rfl, rfl, rfl⟩) (by omega) (by omega) (by omega) (by omega) (by omega) (by omega) (.inr rfl) (by simp), bnd_some]
  simp only [decide_true, Bool.not_true, cond_false, inT (show (0 : Int) ≤ (p : Int) by omega) (show (p : Int) < (16 : Nat) by omega), nm16 p hp, ln16 p hp, cond_true, shape_eq m p hp, hs, bnd_some, show decide (((3 : Nat) : Int) = 2) = false from rfl, show decide (((3 : Nat) : Int) = 3) = true from rfl, wiN f (by omega), itoa_eq m f (by omega), bt_app, bt_size]
  simp (disch := (simp only [List.length_append, List.length_cons, List.length_nil]; omega)) only [szF, Bool.not_false, cond_true]
  simp only [txF, List.append_assoc, List.cons_append, List.nil_append]
theorem text_S (m p : Nat) (hp : p < 16) (hs : shv p = 4) (h q k : Nat) (c l : Bool) (hh : h < 128) (hq : q < 128) (hk : k < 4) : text3_D m ((p : Int), 0, 0, 0, (h : Int), (q : Int), c, l, (k : Int), [], ()) = some (⟨⟨txS p h q k c l⟩⟩, ()) := by
  have l0 := nm_len p hp
  have l1 := dd_len 6 h (by omega)
  have l2 := dd_len 6 q (by omega)
  have l3 := kd_len k hk
  unfold text3_D
  rw [pkOk0 m p hp (by omega) 0 0 0 (h : Int) (q : Int) (k : Int) c l [] (.inr ⟨rfl, rfl⟩) (by omega) (by omega) (by omega) (by omega) (.inr rfl) (by omega) (by omega) (.inl hs) (by omega) (by omega) (by omega) (by omega) (by omega) (by omega) (.inr rfl) (by simp), bnd_some]
  simp only [decide_true, Bool.not_true, cond_false, inT (show (0 : Int) ≤ (p : Int) by omega) (show (p : Int) < (16 : Nat) by omega), nm16 p hp, ln16 p hp, cond_true, shape_eq m p hp, hs, bnd_some, show decide (((4 : Nat) : Int) = 2) = false from rfl, show decide (((4 : Nat) : Int) = 3) = false from rfl, show decide (((4 : Nat) : Int) = 4) = true from rfl,
    wiN h (by omega), wiN q (by omega), itoa_eq m h (by omega), itoa_eq m q (by omega), inT (show (0 : Int) ≤ (k : Int) by omega) (show (k : Int) < (4 : Nat) by omega), kd4 k hk, ln4 k hk, bt_app, bt_size]
  cases c <;> cases l <;> simp only [cond_true, cond_false] <;>
    simp (disch := (simp only [List.length_append, List.length_cons, List.length_nil]; omega)) only [szF, Bool.not_false, cond_true] <;>
    simp only [txS, List.append_assoc, List.cons_append, List.nil_append, List.append_nil, if_true, if_false, Bool.false_eq_true]
theorem text_P (m p : Nat) (hp : p < 16) (hs : shv p = 1) : text3_D m ((p : Int), 0, 0, 0, 0, 0, false, false, 0, [], ()) = some (⟨⟨nmP p⟩⟩, ()) := by
  unfold text3_D
  rw [pkOk0 m p hp (by omega) 0 0 0 0 0 0 false false [] (.inr ⟨rfl, rfl⟩) (by omega) (by omega) (by omega) (by omega) (.inr rfl) (by omega) (by omega) (.inr ⟨rfl, rfl, rfl, rfl, rfl⟩) (by omega) (by omega) (by omega) (by omega) (by omega) (by omega) (.inr rfl) (by simp), bnd_some]
  simp only [decide_true, Bool.not_true, cond_false, inT (show (0 : Int) ≤ (p : Int) by omega) (show (p : Int) < (16 : Nat) by omega), nm16 p hp, ln16 p hp, cond_true, shape_eq m p hp, hs, bnd_some, show decide (((1 : Nat) : Int) = 2) = false from rfl, show decide (((1 : Nat) : Int) = 3) = false from rfl, show decide (((1 : Nat) : Int) = 4) = false from rfl, show decide (((1 : Nat) : Int) = 5) = false from rfl]
theorem text_D (m p : Nat) (hp : p < 16) (hs : shv p = 5) (d : List Nat) (hd : ∀ x ∈ d, x < 256) (hn : d.length ≤ 1024) (hm : 2000 < m) : text3_D m ((p : Int), 0, 0, 0, 0, 0, false, false, 0, nI d, ()) = some (⟨⟨txD p d⟩⟩, ()) := by
  have l0 := nm_len p hp
  have l1 := hexl_len d
  unfold text3_D
  rw [pkOk0 m p hp (by omega) 0 0 0 0 0 0 false false (nI d) (.inr ⟨rfl, rfl⟩) (by omega) (by omega) (by omega) (by omega) (.inr rfl) (by omega) (by omega) (.inr ⟨rfl, rfl, rfl, rfl, rfl⟩) (by omega) (by omega) (by omega) (by omega) (by omega) (by omega) (.inl hs) (by rw [nI_len]; omega), bnd_some]
  simp only [decide_true, Bool.not_true, cond_false, inT (show (0 : Int) ≤ (p : Int) by omega) (show (p : Int) < (16 : Nat) by omega), nm16 p hp, ln16 p hp, cond_true, shape_eq m p hp, hs, bnd_some, show decide (((5 : Nat) : Int) = 2) = false from rfl, show decide (((5 : Nat) : Int) = 3) = false from rfl, show decide (((5 : Nat) : Int) = 4) = false from rfl, show decide (((5 : Nat) : Int) = 5) = true from rfl, nI_len, hex3_eq m d hd (by omega) (by omega), bt_app, bt_size]
  by_cases h0 : d = []
  · subst h0
    simp [txD]
  · have : 0 < d.length := List.length_pos_iff.2 h0
    rw [dT (show (0 : Int) < (d.length : Int) by omega), cond_true]
    simp (disch := (simp only [List.length_append, List.length_cons, List.length_nil]; omega)) only [szF, Bool.not_false, cond_true]
    simp only [txD, if_neg h0, List.append_assoc, List.cons_append, List.nil_append]

theorem rtext_T (m p : Nat) (hp : p < 16) (hs : shv p = 2) (hm : 10 < m) (a e : Nat) (ha : a < 128) (he : e < 16) : rtext_D m ((p : Int), (a : Int), (e : Int), 0, 0, 0, false, false, 0, [], ()) = some (⟨⟨txT p a e⟩⟩, ()) := by
  obtain ⟨m, rfl⟩ : ∃ k, m = k + 11 := ⟨m - 11, by omega⟩
  have hpow : 10 ^ 11 ≤ 10 ^ (m + 10 + 1) := Nat.pow_le_pow_right (by omega) (by omega)
  have l0 := nm_len p hp
  have l1 := dd_len 6 a (by omega)
  have l2 := dd_len 6 e (by omega)
  unfold rtext_D
  simp only [rname_eq _ p hp, token_lit _ p hp, hs, bnd_some, decide_true, cond_true, wiN a (by omega), wiN e (by omega), dec_eq (m + 10) a (by omega) (by omega), dec_eq (m + 10) e (by omega) (by omega), bt_app, bt_size]
  simp (disch := (simp only [List.length_append, List.length_cons, List.length_nil]; omega)) only [szF, Bool.not_false, cond_true]
  simp only [txT, List.append_assoc, List.cons_append, List.nil_append]
theorem rtext_F (m p : Nat) (hp : p < 16) (hs : shv p = 3) (hm : 10 < m) (f : Nat) (hf : f < 2048) : rtext_D m ((p : Int), 0, 0, (f : Int), 0, 0, false, false, 0, [], ()) = some (⟨⟨txF p f⟩⟩, ()) := by
  obtain ⟨m, rfl⟩ : ∃ k, m = k + 11 := ⟨m - 11, by omega⟩
  have hpow : 10 ^ 11 ≤ 10 ^ (m + 10 + 1) := Nat.pow_le_pow_right (by omega) (by omega)
  have l0 := nm_len p hp
  have l1 := dd_len 6 f (by omega)
  unfold rtext_D
  simp only [rname_eq _ p hp, token_lit _ p hp, is5 p hp, is8 p hp, hs, bnd_some, show decide (3 = 2) = false from rfl, decide_true, cond_true, cond_false, wiN f (by omega), dec_eq (m + 10) f (by omega) (by omega), bt_app, bt_size]
  simp (disch := (simp only [List.length_append, List.length_cons, List.length_nil]; omega)) only [szF, Bool.not_false, cond_true]
  simp only [txF, List.append_assoc, List.cons_append, List.nil_append]
theorem rtext_S (m p : Nat) (hp : p < 16) (hs : shv p = 4) (hm : 10 < m) (h q k : Nat) (c l : Bool) (hh : h < 128) (hq : q < 128) (hk : k < 4) : rtext_D m ((p : Int), 0, 0, 0, (h : Int), (q : Int), c, l, (k : Int), [], ()) = some (⟨⟨txS p h q k c l⟩⟩, ()) := by
  obtain ⟨m, rfl⟩ : ∃ k, m = k + 11 := ⟨m - 11, by omega⟩
  have hpow : 10 ^ 11 ≤ 10 ^ (m + 10 + 1) := Nat.pow_le_pow_right (by omega) (by omega)
  have l0 := nm_len p hp
  have l1 := dd_len 6 h (by omega)
  have l2 := dd_len 6 q (by omega)
  have l3 := kd_len k hk
  unfold rtext_D
  simp only [rname_eq _ p hp, token_lit _ p hp, is5 p hp, is8 p hp, hs, bnd_some, show decide (4 = 2) = false from rfl, show decide (4 = 3) = false from rfl, decide_true, cond_true, cond_false, wiN h (by omega), wiN q (by omega), dec_eq (m + 10) h (by omega) (by omega), dec_eq (m + 10) q (by omega) (by omega), in4' k hk, kd4' k hk, ln4' k hk, bt_app, bt_size]
  cases c <;> cases l <;> simp only [cond_true, cond_false] <;>
    simp (disch := (simp only [List.length_append, List.length_cons, List.length_nil]; omega)) only [szF, Bool.not_false, cond_true] <;>
    simp only [txS, List.append_assoc, List.cons_append, List.nil_append, List.append_nil, if_true, if_false, Bool.false_eq_true]
theorem rtext_P (m p : Nat) (hp : p < 16) (hs : shv p = 1) : rtext_D m ((p : Int), 0, 0, 0, 0, 0, false, false, 0, [], ()) = some (⟨⟨nmP p⟩⟩, ()) := by
  unfold rtext_D
  simp [rname_eq _ p hp, token_lit _ p hp, is5 p hp, is8 p hp, hs, bnd_some]
theorem rtext_Dt (m p : Nat) (hp : p < 16) (hs : shv p = 5) (d : List Nat) (hd : ∀ x ∈ d, x < 256) (hn : d.length ≤ 1024) (hm : 2000 < m) : rtext_D m ((p : Int), 0, 0, 0, 0, 0, false, false, 0, nI d, ()) = some (⟨⟨txD p d⟩⟩, ()) := by
  have l0 := nm_len p hp
  have l1 := hexl_len d
  unfold rtext_D
  simp only [rname_eq _ p hp, token_lit _ p hp, is5 p hp, is8 p hp, hs, bnd_some, show decide (5 = 2) = false from rfl, show decide (5 = 3) = false from rfl, show decide (5 = 4) = false from rfl, cond_false, nI_len, rhex_eq m d hd (by omega) (by omega), bt_app, bt_size]
  by_cases h0 : d = []
  · subst h0
    simp [txD]
  · have : 0 < d.length := List.length_pos_iff.2 h0
    rw [dT (show (0 : Int) < (d.length : Int) by omega), cond_true]
    simp (disch := (simp only [List.length_append, List.length_cons, List.length_nil]; omega)) only [szF, Bool.not_false, cond_true]
    simp only [txD, if_neg h0, List.append_assoc, List.cons_append, List.nil_append]

inductive Vp where
  | t (p a e : Nat)
  | f (p v : Nat)
  | s (p h q k : Nat) (c l : Bool)
  | n (p : Nat)
  | d (p : Nat) (ds : List Nat)
def Vp.p : Vp → Nat
  | .t p _ _ => p
  | .f p _ => p
  | .s p _ _ _ _ _ => p
  | .n p => p
  | .d p _ => p
def Vp.ok : Vp → Prop
  | .t p a e => p < 16 ∧ shv p = 2 ∧ a < 128 ∧ e < 16
  | .f p v => p < 16 ∧ shv p = 3 ∧ v < 2048
  | .s p h q k _ _ => p < 16 ∧ shv p = 4 ∧ h < 128 ∧ q < 128 ∧ k < 4
  | .n p => p < 16 ∧ shv p = 1
  | .d p ds => p < 16 ∧ shv p = 5 ∧ (∀ x ∈ ds, x < 256) ∧ ds.length ≤ 1024
def Vp.pk : Vp → Pkt
  | .t p a e => ((p : Int), (a : Int), (e : Int), 0, 0, 0, false, false, 0, [], ())
  | .f p v => ((p : Int), 0, 0, (v : Int), 0, 0, false, false, 0, [], ())
  | .s p h q k c l => ((p : Int), 0, 0, 0, (h : Int), (q : Int), c, l, (k : Int), [], ())
  | .n p => ((p : Int), 0, 0, 0, 0, 0, false, false, 0, [], ())
  | .d p ds => ((p : Int), 0, 0, 0, 0, 0, false, false, 0, nI ds, ())
def Vp.re : Vp → List UInt8
  | .t p a e => 32 :: (Go.Lib.decDigits a ++ 46 :: Go.Lib.decDigits e)
  | .f p v => 32 :: Go.Lib.decDigits v
  | .s p h q k c l => (if c then [32, 99, 111, 109, 112, 108, 101, 116, 101] else [32, 115, 116, 97, 114, 116]) ++ 32 :: (Go.Lib.decDigits h ++ 46 :: (Go.Lib.decDigits q ++ 32 :: (kd k ++ if l then [32, 108, 111, 119] else [])))
  | .n p => []
  | .d p ds => if ds = [] then [] else 32 :: hexl ds
theorem text_vp (m : Nat) (hm : 2000 < m) (v : Vp) (h : v.ok) : text3_D m v.pk = some (⟨⟨nmP v.p ++ v.re⟩⟩, ()) := by
  cases v with
  | t p a e => obtain ⟨h1, h2, h3, h4⟩ := h; exact text_T m p h1 h2 a e h3 h4
  | f p v => obtain ⟨h1, h2, h3⟩ := h; exact text_F m p h1 h2 v h3
  | s p x q k c l => obtain ⟨h1, h2, h3, h4, h5⟩ := h; exact text_S m p h1 h2 x q k c l h3 h4 h5
  | n p => obtain ⟨h1, h2⟩ := h; simp only [Vp.re, List.append_nil]; exact text_P m p h1 h2
  | d p d => obtain ⟨h1, h2, h3, h4⟩ := h; exact text_D m p h1 h2 d h3 h4 hm
theorem rtext_vp (m : Nat) (hm : 2000 < m) (v : Vp) (h : v.ok) : rtext_D m v.pk = some (⟨⟨nmP v.p ++ v.re⟩⟩, ()) := by
  cases v with
  | t p a e => obtain ⟨h1, h2, h3, h4⟩ := h; exact rtext_T m p h1 h2 (by omega) a e h3 h4
  | f p v => obtain ⟨h1, h2, h3⟩ := h; exact rtext_F m p h1 h2 (by omega) v h3
  | s p x q k c l => obtain ⟨h1, h2, h3, h4, h5⟩ := h; exact rtext_S m p h1 h2 (by omega) x q k c l h3 h4 h5
  | n p => obtain ⟨h1, h2⟩ := h; simp only [Vp.re, List.append_nil]; exact rtext_P m p h1 h2
  | d p d => obtain ⟨h1, h2, h3, h4⟩ := h; exact rtext_Dt m p h1 h2 d h3 h4 hm
theorem pkt_vp (m k a b F fl : Nat) (hk : k < 256) (hfl : fl < 256) (l : List Nat) (hl : ∀ x ∈ l, x < 256) (hn : l.length ≤ 300) : ∃ v : Vp, v.ok ∧ pkt_D m ((k : Int), (a : Int), (b : Int), (F : Int), (fl : Int), nI l, ()) = some (v.pk, ()) := by
  obtain ⟨u1, u2, u3⟩ := u8and' fl hfl
  have ha := tmN a 128
  have hb := tmN b 128
  have hb16 := tmN b 16
  have hF := tmN F 2048
  have hj : k % 11 = 0 ∨ k % 11 = 1 ∨ k % 11 = 2 ∨ k % 11 = 3 ∨ k % 11 = 4 ∨ k % 11 = 5 ∨ k % 11 = 6 ∨ k % 11 = 7 ∨ k % 11 = 8 ∨ k % 11 = 9 ∨ k % 11 = 10 := by omega
  rcases hj with h | h | h | h | h | h | h | h | h | h | h
  · have h0 := pkt_0 m k a b F fl hk hfl l hn h
    exact ⟨.t 1 (a % 128) (b % 16), ⟨by omega, rfl, by omega, by omega⟩, by simp only [Vp.pk]; rw [← ha, ← hb16]; exact h0⟩
  · exact ⟨.n 2, ⟨by omega, rfl⟩, pkt_1 m k a b F fl hk hfl l hn h⟩
  · exact ⟨.d 3 l, ⟨by omega, rfl, hl, by omega⟩, pkt_2 m k a b F fl hk hfl l hn h⟩
  · have h0 := pkt_3 m k a b F fl hk hfl l hn h
    exact ⟨.f 5 (F % 2048), ⟨by omega, rfl, by omega⟩, by simp only [Vp.pk]; rw [← hF]; exact h0⟩
  · exact ⟨.n 6, ⟨by omega, rfl⟩, pkt_4 m k a b F fl hk hfl l hn h⟩
  · have h0 := pkt_5 m k a b F fl hk hfl l hn h
    rw [u1, u2, u3] at h0
    exact ⟨.s 8 (a % 128) (b % 128) (fl / 4 % 4) (decide (fl % 2 = 1)) (decide (fl / 2 % 2 = 1)), ⟨by omega, rfl, by omega, by omega, by omega⟩, by simp only [Vp.pk]; rw [← ha, ← hb]; exact h0⟩
  · have h0 := pkt_6 m k a b F fl hk hfl l hn h
    exact ⟨.t 9 (a % 128) (b % 16), ⟨by omega, rfl, by omega, by omega⟩, by simp only [Vp.pk]; rw [← ha, ← hb16]; exact h0⟩
  · exact ⟨.n 10, ⟨by omega, rfl⟩, pkt_7 m k a b F fl hk hfl l hn h⟩
  · exact ⟨.d 11 l, ⟨by omega, rfl, hl, by omega⟩, pkt_8 m k a b F fl hk hfl l hn h⟩
  · have h0 := pkt_9 m k a b F fl hk hfl l hn h
    exact ⟨.t 13 (a % 128) (b % 16), ⟨by omega, rfl, by omega, by omega⟩, by simp only [Vp.pk]; rw [← ha, ← hb16]; exact h0⟩
  · exact ⟨.n 14, ⟨by omega, rfl⟩, pkt_10 m k a b F fl hk hfl l hn h⟩
theorem nm_inj : ∀ p q : Fin 16, shv p.val ≠ 0 → shv q.val ≠ 0 → nmP p.val = nmP q.val → p = q := by decide +kernel
theorem nm_no : ∀ p : Fin 16, (32 : UInt8) ∉ nmP p.val := by decide +kernel
def lowL (l : Bool) : List UInt8 := if l then [32, 108, 111, 119] else []
theorem kd_inj : ∀ k k' : Fin 4, ∀ l l' : Bool, kd k.val ++ lowL l = kd k'.val ++ lowL l' → k = k' ∧ l = l' := by decide +kernel
def Beg (r : List UInt8) : Prop := r = [] ∨ ∃ t, r = 32 :: t
theorem beg_re (v : Vp) : Beg v.re := by
  cases v with
  | t p a e => exact .inr ⟨_, rfl⟩
  | f p v => exact .inr ⟨_, rfl⟩
  | s p h q k c l => cases c <;> exact .inr ⟨_, rfl⟩
  | n p => exact .inl rfl
  | d p d =>
    by_cases h : d = []
    · exact .inl (by simp only [Vp.re, if_pos h])
    · exact .inr ⟨_, by simp only [Vp.re, if_neg h]; rfl⟩
theorem beg_inj : ∀ {l1 l2 r1 r2 : List UInt8}, (32 : UInt8) ∉ l1 → (32 : UInt8) ∉ l2 → Beg r1 → Beg r2 → l1 ++ r1 = l2 ++ r2 → l1 = l2 ∧ r1 = r2
  | [], [], r1, r2, _, _, _, _, h => ⟨rfl, by simpa using h⟩
  | [], y :: l2, r1, r2, _, h2, b1, _, h => by
    rcases b1 with rfl | ⟨t, rfl⟩
    · simp at h
    · simp only [List.nil_append, List.cons_append, List.cons.injEq] at h
      exact absurd (h.1 ▸ List.mem_cons_self) h2
  | x :: l1, [], r1, r2, h1, _, _, b2, h => by
    rcases b2 with rfl | ⟨t, rfl⟩
    · simp at h
    · simp only [List.nil_append, List.cons_append, List.cons.injEq] at h
      exact absurd (h.1 ▸ List.mem_cons_self) h1
  | x :: l1, y :: l2, r1, r2, h1, h2, b1, b2, h => by
    simp only [List.cons_append, List.cons.injEq] at h
    obtain ⟨rfl, h⟩ := h
    obtain ⟨rfl, h4⟩ := beg_inj (fun h' => h1 (List.mem_cons_of_mem _ h')) (fun h' => h2 (List.mem_cons_of_mem _ h')) b1 b2 h
    exact ⟨rfl, h4⟩
theorem ok_p (v : Vp) (h : v.ok) : v.p < 16 ∧ shv v.p ≠ 0 := by
  cases v with
  | t p a e => exact ⟨h.1, by have := h.2.1; simp only [Vp.p]; omega⟩
  | f p v => exact ⟨h.1, by have := h.2.1; simp only [Vp.p]; omega⟩
  | s p x q k c l => exact ⟨h.1, by have := h.2.1; simp only [Vp.p]; omega⟩
  | n p => exact ⟨h.1, by have := h.2; simp only [Vp.p]; omega⟩
  | d p d => exact ⟨h.1, by have := h.2.1; simp only [Vp.p]; omega⟩
theorem re_inj (v w : Vp) (h : v.ok) (h' : w.ok) (hp : v.p = w.p) (hr : v.re = w.re) : v.pk = w.pk := by
  cases v with
  | t p a e =>
    cases w with
    | t p' a' e' =>
      simp only [Vp.p] at hp; subst hp
      simp only [Vp.re, List.cons.injEq, true_and] at hr
      obtain ⟨rfl, rfl⟩ := pair_inj hr
      rfl
    | _ => exfalso; simp only [Vp.p] at hp; subst hp; simp only [Vp.ok] at h h'; omega
  | f p v =>
    cases w with
    | f p' v' =>
      simp only [Vp.p] at hp; subst hp
      simp only [Vp.re, List.cons.injEq, true_and] at hr
      rw [dd_inj hr]
    | _ => exfalso; simp only [Vp.p] at hp; subst hp; simp only [Vp.ok] at h h'; omega
  | s p x q k c l =>
    cases w with
    | s p' x' q' k' c' l' =>
      simp only [Vp.p] at hp; subst hp
      have key : ∀ {r r' : List UInt8}, r = r' → Go.Lib.decDigits x ++ 46 :: (Go.Lib.decDigits q ++ 32 :: (kd k ++ lowL l)) = r → Go.Lib.decDigits x' ++ 46 :: (Go.Lib.decDigits q' ++ 32 :: (kd k' ++ lowL l')) = r' → x = x' ∧ q = q' ∧ k = k' ∧ l = l' := by
        intro r r' e1 e2 e3
        subst e1; subst e2
        obtain ⟨h1, h2, h3⟩ := pair_inj' e3.symm
        obtain ⟨h4, h5⟩ := kd_inj ⟨k, h.2.2.2.2⟩ ⟨k', h'.2.2.2.2⟩ l l' h3
        exact ⟨h1, h2, congrArg Fin.val h4, h5⟩
      have : c = c' ∧ Go.Lib.decDigits x ++ 46 :: (Go.Lib.decDigits q ++ 32 :: (kd k ++ lowL l)) = Go.Lib.decDigits x' ++ 46 :: (Go.Lib.decDigits q' ++ 32 :: (kd k' ++ lowL l')) := by
        cases c <;> cases c' <;> simp only [Vp.re, if_true, if_false, Bool.false_eq_true, List.cons_append, List.nil_append, List.cons.injEq] at hr
        · exact ⟨rfl, by simpa [lowL] using hr⟩
        · exact absurd hr.2.1 (by decide)
        · exact absurd hr.2.1 (by decide)
        · exact ⟨rfl, by simpa [lowL] using hr⟩
      obtain ⟨rfl, hr2⟩ := this
      obtain ⟨rfl, rfl, rfl, rfl⟩ := key hr2 rfl rfl
      rfl
    | _ => exfalso; simp only [Vp.p] at hp; subst hp; simp only [Vp.ok] at h h'; omega
  | n p =>
    cases w with
    | n p' => simp only [Vp.p] at hp; subst hp; rfl
    | _ => exfalso; simp only [Vp.p] at hp; subst hp; simp only [Vp.ok] at h h'; omega
  | d p d =>
    cases w with
    | d p' d' =>
      simp only [Vp.p] at hp; subst hp
      by_cases h0 : d = []
      · by_cases h1 : d' = []
        · subst h0 h1; rfl
        · simp only [Vp.re, if_pos h0, if_neg h1] at hr; cases hr
      · by_cases h1 : d' = []
        · simp only [Vp.re, if_neg h0, if_pos h1] at hr; cases hr
        · simp only [Vp.re, if_neg h0, if_neg h1, List.cons.injEq, true_and] at hr
          rw [hexl_inj h.2.2.1 h'.2.2.1 hr]
    | _ => exfalso; simp only [Vp.p] at hp; subst hp; simp only [Vp.ok] at h h'; omega
theorem pk_inj (v w : Vp) (h : v.ok) (h' : w.ok) (ht : nmP v.p ++ v.re = nmP w.p ++ w.re) : v.pk = w.pk := by
  obtain ⟨h1, h2⟩ := ok_p v h
  obtain ⟨h3, h4⟩ := ok_p w h'
  obtain ⟨e1, e2⟩ := beg_inj (nm_no ⟨v.p, h1⟩) (nm_no ⟨w.p, h3⟩) (beg_re v) (beg_re w) ht
  exact re_inj v w h h' (congrArg Fin.val (nm_inj ⟨v.p, h1⟩ ⟨w.p, h3⟩ h2 h4 e1)) e2
theorem pk_tx (v w : Vp) (h : v.ok) (h' : w.ok) (hp : v.pk = w.pk) : nmP v.p ++ v.re = nmP w.p ++ w.re := by
  have e1 := text_vp 3000 (by omega) v h
  have e2 := text_vp 3000 (by omega) w h'
  rw [hp, e2] at e1
  have := congrArg (fun x => (x.map fun y => y.1.data.toList).getD []) e1
  simpa using this.symm
theorem df3_self (m : Nat) (p a e f h q : Int) (c l : Bool) (k : Int) (d : List Nat) (hd : ∀ x ∈ d, x < 256) :
    df3_D m (p, a, e, f, h, q, c, l, k, nI d, ()) (p, a, e, f, h, q, c, l, k, nI d, ()) = some (0, ()) := by
  unfold df3_D df3_J0
  simp
theorem df3_ne (m : Nat) (d d' : List Nat) (p a e f h q : Int) (c l : Bool) (k : Int) (p' a' e' f' h' q' : Int) (c' l' : Bool) (k' : Int) (hd : ∀ x ∈ d, x < 256) (hd' : ∀ x ∈ d', x < 256) (hne : ¬ ((p, a, e, f, h, q, c, l, k, nI d, ()) : Pkt) = (p', a', e', f', h', q', c', l', k', nI d', ())) :
    df3_D m (p, a, e, f, h, q, c, l, k, nI d, ()) (p', a', e', f', h', q', c', l', k', nI d', ()) = some (1, ()) := by
  unfold df3_D df3_J0
  simp only [strs_eq d d' hd hd']
  by_cases h1 : p = p'
  case neg => simp [h1]
  by_cases h2 : a = a'
  case neg => simp [h1, h2]
  by_cases h3 : e = e'
  case neg => simp [h1, h2, h3]
  by_cases h4 : f = f'
  case neg => simp [h1, h2, h3, h4]
  by_cases h5 : h = h'
  case neg => simp [h1, h2, h3, h4, h5]
  by_cases h6 : q = q'
  case neg => simp [h1, h2, h3, h4, h5, h6]
  by_cases h7 : c = c'
  case neg => simp [h1, h2, h3, h4, h5, h6, h7]
  by_cases h8 : l = l'
  case neg => simp [h1, h2, h3, h4, h5, h6, h7, h8]
  by_cases h9 : k = k'
  case neg => simp [h1, h2, h3, h4, h5, h6, h7, h8, h9]
  by_cases h10 : d = d'
  case neg => simp [h1, h2, h3, h4, h5, h6, h7, h8, h9, h10]
  subst h1 h2 h3 h4 h5 h6 h7 h8 h9 h10
  exact absurd rfl hne
theorem pk_form (v : Vp) (h : v.ok) : ∃ (p a e f x q : Int) (c l : Bool) (k : Int) (d : List Nat), v.pk = (p, a, e, f, x, q, c, l, k, nI d, ()) ∧ ∀ y ∈ d, y < 256 := by
  cases v with
  | t p a e => exact ⟨_, _, _, _, _, _, _, _, _, [], rfl, by simp⟩
  | f p v => exact ⟨_, _, _, _, _, _, _, _, _, [], rfl, by simp⟩
  | s p x q k c l => exact ⟨_, _, _, _, _, _, _, _, _, [], rfl, by simp⟩
  | n p => exact ⟨_, _, _, _, _, _, _, _, _, [], rfl, by simp⟩
  | d p d => exact ⟨_, _, _, _, _, _, _, _, _, d, rfl, h.2.2.1⟩
theorem txtL_true (m : Nat) (hm : 2000 < m) (k a b F fl : Nat) (hk : k < 256) (hfl : fl < 256) (l : List Nat) (hl : ∀ x ∈ l, x < 256) (k' a' b' F' fl' : Nat) (hk' : k' < 256) (hfl' : fl' < 256) (l' : List Nat) (hl' : ∀ x ∈ l', x < 256) :
    txtL_D m ((k : Int), (a : Int), (b : Int), (F : Int), (fl : Int), nI l, ()) ((k' : Int), (a' : Int), (b' : Int), (F' : Int), (fl' : Int), nI l', ()) = some (true, ()) := by
  unfold txtL_D txtL_J0
  simp only [nI_len]
  by_cases hn : l.length ≤ 300
  · by_cases hn' : l'.length ≤ 300
    · rw [dF (show ¬ (300 : Int) < (l.length : Int) by omega), cond_false, dF (show ¬ (300 : Int) < (l'.length : Int) by omega), cond_false]
      obtain ⟨v, hv, e1⟩ := pkt_vp m k a b F fl hk hfl l hl hn
      obtain ⟨w, hw, e2⟩ := pkt_vp m k' a' b' F' fl' hk' hfl' l' hl' hn'
      rw [e1, bnd_some, e2, bnd_some]
      unfold txtL_J1
      simp only [text_vp m hm v hv, rtext_vp m hm v hv, text_vp m hm w hw, bnd_some, decide_true, cond_true, bt_list]
      have lv : lives3_D m = some (true, ()) := rfl
      obtain ⟨p, x1, x2, x3, x4, x5, x6, x7, x8, d, e3, hd⟩ := pk_form v hv
      obtain ⟨p', y1, y2, y3, y4, y5, y6, y7, y8, d', e4, hd'⟩ := pk_form w hw
      by_cases hq : v.pk = w.pk
      · have := pk_tx v w hv hw hq
        have hdf : df3_D m v.pk w.pk = some (0, ()) := by
          rw [← hq, e3]
          exact df3_self m _ _ _ _ _ _ _ _ _ d hd
        simp [hdf, this, lv, bnd_some]
      · have : ¬ (nmP v.p ++ v.re = nmP w.p ++ w.re) := fun e => hq (pk_inj v w hv hw e)
        have hdf : df3_D m v.pk w.pk = some (1, ()) := by
          rw [e3, e4] at hq ⊢
          exact df3_ne m d d' _ _ _ _ _ _ _ _ _ _ _ _ _ _ _ _ _ _ hd hd' hq
        simp [hdf, this, lv, bnd_some]
    · rw [dF (show ¬ (300 : Int) < (l.length : Int) by omega), cond_false, dT (show (300 : Int) < (l'.length : Int) by omega), cond_true]
  · rw [dT (show (300 : Int) < (l.length : Int) by omega), cond_true, cond_true]

end Go.Proofs.YtpdbekbobkjfgaaDoor

