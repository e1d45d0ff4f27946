/-
  An abstract view of the machine, part 11: stores, makes, and one step of a region that calls nothing.
  Conditions: none; nothing here speaks of one program.
-/
import Derived.Test.YtpdbekbobkjfgaaAM29
namespace Go.Proofs.Ytpdbekbobkjfgaa
open Go.RowKit
set_option linter.unusedVariables false

/-! ### Stores -/
def storeB (P : Program) (s : St) (t : TypeId) (ad v : AV) : Option (Nat × Blk) :=
  match ad with
  | .ptr κ off => match gt κ s.hp with
    | some (.box e cs) => match v.parts, szT P t with
      | some ps, some n => if ps.length = n ∧ off + n ≤ cs.length then some (κ, .box e (cs.take off ++ ps ++ cs.drop (off + n))) else none
      | _, _ => none
    | _ => none
  | .pel κ off => match gt κ s.hp with
    | some (.ints e k xs c) => match v with
      | .d (.v (.int k' x)) => if k = k' ∧ off < xs.length ∧ szT P t = some 1 then some (κ, .ints e k (xs.set off x) c) else none
      | _ => none
    | some (.row e n xs c) => match v.toD with
      | some d => if n ≠ 0 ∧ off % n = 0 ∧ off / n < xs.length ∧ d.size = n ∧ szT P t = some n then some (κ, .row e n (xs.set (off / n) d) c) else none
      | none => none
    | _ => none
  | _ => none

theorem run_storeVar_at {P : Program} {w : World} {g off : Nat} {e t : TypeId} {cur : Array Value} {v : Value} (hg : w.heap[g]? = some (.cells cur e (0, 0))) (hs : szT P t = some v.cells.size) (hle : off + v.cells.size ≤ cur.size) (h1 : ∀ u ∈ v.cells.toList, u.oneCell' = true) :
    (storeVar t ⟨g, off, none⟩ v).run P w = .ok () (w.setRow g (cur.toList.take off ++ v.cells.toList ++ cur.toList.drop (off + v.cells.size)).toArray) := by
  unfold storeVar
  simp only [Sem.run_bind, run_sizeOf' hs, Result.andThen_ok]
  have := run_storeCells_at P g off e v.cells.toList 0 cur w hg (by simpa using hle) h1
  simp only [Nat.add_zero, Array.length_toList] at this
  simp [this]

theorem RepRow_set {w : World} {F : Nat → Prop} {n : Nat} : ∀ {ds : List D} {vals : List Value} {i : Nat} {d : D} {v : Value}, RepRow w F (fun v => v.cells.size = n) ds vals → i < ds.length → RepD w F d v → v.cells.size = n →
    RepRow w F (fun v => v.cells.size = n) (ds.set i d) (vals.take (i * n) ++ v.cells.toList ++ vals.drop (i * n + n))
  | [], vals, i, d, v, h, hi, _, _ => by simp at hi
  | x :: ds, vals, i, d, v, h, hi, hd, hv => by
    simp only [RepRow] at h
    obtain ⟨u, rest, rfl, h0, h1, h2⟩ := h
    have hl : u.cells.toList.length = n := by simpa using h0
    cases i with
    | zero =>
      simp only [List.set_cons_zero, RepRow, Nat.zero_mul, List.take_zero, List.nil_append, Nat.zero_add]
      refine ⟨v, rest, ?_, hv, hd, h2⟩
      rw [← hl, List.drop_left]
    | succ i =>
      simp only [List.set_cons_succ, RepRow]
      refine ⟨u, _, ?_, h0, h1, RepRow_set h2 (by simpa using hi) hd hv⟩
      have e1 : (i + 1) * n = u.cells.toList.length + i * n := by rw [hl, Nat.add_mul]; omega
      rw [e1, List.take_length_add_append, Nat.add_assoc, List.drop_length_add_append]
      simp

theorem upm_self (m : Nat → Value) (κ : Nat) : upm m κ (m κ) = m := by
  funext j; unfold upm; split
  · rename_i h; rw [h]
  · rfl
theorem RepVs_splice {w : World} {F : Nat → Prop} {m : Nat → Value} {cs ps : List AV} {us zs : List Value} (q1 : RepVs w F m cs us) (q2 : RepVs w F m ps zs) (off k : Nat) : RepVs w F m (cs.take off ++ ps ++ cs.drop k) (us.take off ++ zs ++ us.drop k) := by
  rw [RepVs_iff] at q1 q2 ⊢
  refine ⟨by simp [q1.1, q2.1], fun j x hj => ?_⟩
  have ht : (cs.take off).length = (us.take off).length := by simp [q1.1]
  rw [List.append_assoc] at hj ⊢
  rw [List.getElem?_append] at hj ⊢
  rw [ht] at hj
  split at hj
  · rename_i hlt
    rw [if_pos hlt]
    rw [List.getElem?_take] at hj ⊢
    split at hj
    · rename_i h5; rw [if_pos h5]; exact q1.2 j x hj
    · cases hj
  · rename_i hge
    rw [if_neg hge]
    rw [List.getElem?_append] at hj ⊢
    rw [q2.1] at hj
    split at hj
    · rename_i hlt; rw [if_pos hlt]; exact q2.2 _ x hj
    · rename_i hge2
      rw [if_neg hge2]
      rw [List.getElem?_drop] at hj ⊢
      exact q1.2 _ x hj
theorem take_splice {α : Type} (A Z : List α) (off n N : Nat) (hZ : Z.length = n) (h : off + n ≤ N) (hN : N ≤ A.length) : (A.take off ++ Z ++ A.drop (off + n)).take N = (A.take N).take off ++ Z ++ (A.take N).drop (off + n) := by
  have l1 : (A.take off).length = off := by simp; omega
  have l2 : (A.take off ++ Z).length = off + n := by simp [l1, hZ]
  rw [List.take_append, List.take_of_length_le (l := A.take off ++ Z) (by omega), List.take_take, Nat.min_eq_left (by omega), List.drop_take, l2]

theorem SRep.store {P : Program} {c : Ctx} {m : Nat → Value} {s : St} {a : Act} {w : World} (h : SRep c m s a w) {t κ : Nat} {ad v : AV} {u z : Value} {B : Blk} (ha : RepV w (Forb c m s.hp) m ad u) (hv : RepV w (Forb c m s.hp) m v z) (hB : storeB P s t ad v = some (κ, B)) :
    ∃ w', (Instr.storeAt t u z).run P w = .ok () w' ∧ SRep c (upm m κ (m κ)) (s.setB false κ B) a w' := by
  have runAt : ∀ (b off : Nat) (cur : Array Value) (e : TypeId), w.heap[b]? = some (.cells cur e (0, 0)) → szT P t = some z.cells.size → off + z.cells.size ≤ cur.size → (∀ u ∈ z.cells.toList, u.oneCell' = true) →
      (Instr.storeAt t (.pointer (some ⟨b, off, none⟩)) z).run P w = .ok () (w.setRow b (cur.toList.take off ++ z.cells.toList ++ cur.toList.drop (off + z.cells.size)).toArray) := by
    intro b off cur e hg hs hle h1
    unfold Instr.storeAt
    simp only [Instr.sureAddr, Sem.run_bind, Sem.run_pure, Result.andThen_ok, run_storeVar_at hg hs hle h1]
  have frAt : ∀ (b : Nat) (cs : Array Value) (B0 : Blk), gt κ s.hp = some B0 → blkOf (m κ) = some b → Fr (fun b => ∃ B0, gt κ s.hp = some B0 ∧ blkOf (m κ) = some b) w (w.setRow b cs) := by
    intro b cs B0 h1 h2
    exact ⟨rfl, rfl, rfl, by simp, fun k _ hk => setRow_other w b k _ (fun e => hk ⟨B0, h1, by rw [e]; exact h2⟩)⟩
  unfold storeB at hB
  split at hB
  · rename_i κ' off
    simp only [RepV] at ha
    obtain ⟨b, hm, hu⟩ := ha
    split at hB
    · rename_i e cs hcs
      split at hB
      · rename_i ps n hps hn
        split at hB
        · rename_i hle
          simp only [Option.some.injEq, Prod.mk.injEq] at hB
          obtain ⟨rfl, rfl⟩ := hB
          obtain ⟨b', cells, h1, h2, h3, h4⟩ := h.heap κ' _ hcs
          rw [hm] at h1; simp at h1; subst h1
          obtain ⟨p1, p2⟩ := parts_rep hv hps
          have hpl := (RepVs_iff.1 p1).1
          have hcl := (RepVs_iff.1 h3).1
          have hzs : z.cells.size = n := by have : z.cells.toList.length = n := by omega
                                            simpa using this
          have hcs' : cells.size = cs.length := by rw [hcl]; simp
          have hblk : blkOf (m κ') = some b := by rw [hm]; rfl
          have hfr := frAt b (cells.toList.take off ++ z.cells.toList ++ cells.toList.drop (off + z.cells.size)).toArray _ hcs hblk
          have hkb : ∀ b', blkOf (m κ') = some b' → (∃ B0, gt κ' s.hp = some B0 ∧ blkOf (m κ') = some b') ∨ w.heap.size ≤ b' := fun b' hb' => .inl ⟨_, hcs, hb'⟩
          refine ⟨_, by rw [hu]; exact runAt b off cells e h2 (by rw [hzs]; exact hn) (by omega) p2, ?_⟩
          have hk := h.setB_kept false κ' (.box e (cs.take off ++ ps ++ cs.drop (off + n))) (m κ') hfr hkb
          have hupm := upm_self m κ'
          refine (h.setB false κ' _ (m κ') (.inr rfl) (.inr rfl) hfr hkb ?_).1
          rw [hupm] at hk ⊢
          refine ⟨b, _, hm, setRow_heap w b cells _ e _ h2, ?_, ?_⟩
          · subst hzs
            have q1 := RepVs.kept hk hfr.size _ _ h3
            have q2 := RepVs.kept hk hfr.size _ _ p1
            simpa using RepVs_splice q1 q2 off (off + z.cells.size)
          · intro q hq
            have hq' : q ∈ cells.toList.take off ++ z.cells.toList ++ cells.toList.drop (off + z.cells.size) := by simpa using hq
            rcases List.mem_append.1 hq' with hq' | hq'
            · rcases List.mem_append.1 hq' with hq' | hq'
              · exact h4 q (by simpa using List.mem_of_mem_take hq')
              · exact p2 q hq'
            · exact h4 q (by simpa using List.mem_of_mem_drop hq')
        · cases hB
      · cases hB
    · cases hB
  · rename_i κ' off
    simp only [RepV] at ha
    obtain ⟨b, l, cap, hm, hu⟩ := ha
    split at hB
    · rename_i e k xs cc hcs
      split at hB
      · rename_i k' x
        split at hB
        · rename_i hcond
          obtain ⟨rfl, hlt, hsz⟩ := hcond
          simp only [Option.some.injEq, Prod.mk.injEq] at hB
          obtain ⟨rfl, rfl⟩ := hB
          rw [repV_v] at hv
          obtain ⟨rfl, _⟩ := hv
          obtain ⟨hown, hcap⟩ := h.heap κ' _ hcs
          have hl1 := hown.1
          rcases hown.2 with ⟨h0, _⟩ | ⟨g, cap', cur, hv', h0, hg, hn, hmx, hsz', htk⟩
          · rw [h0] at hlt; simp at hlt
          · rw [hm] at hv'; simp at hv'
            obtain ⟨rfl, rfl, rfl⟩ := hv'
            have hc0 : cap ≠ 0 := by omega
            have hblk : blkOf (m κ') = some b := by rw [hm]; simp [blkOf, hc0]
            have hfr := frAt b (cur.toList.take off ++ (Value.int k x).cells.toList ++ cur.toList.drop (off + (Value.int k x).cells.size)).toArray _ hcs hblk
            have hkb : ∀ b', blkOf (m κ') = some b' → (∃ B0, gt κ' s.hp = some B0 ∧ blkOf (m κ') = some b') ∨ w.heap.size ≤ b' := fun b' hb' => .inl ⟨_, hcs, hb'⟩
            have hle1 : off + (Value.int k x).cells.size ≤ cur.size := by simp [Value.cells]; omega
            refine ⟨_, by rw [hu]; exact runAt b off cur e hg hsz hle1 (by simp [Value.cells, Value.oneCell']), ?_⟩
            have hupm := upm_self m κ'
            refine (h.setB false κ' _ (m κ') (.inr rfl) (.inr rfl) hfr hkb ?_).1
            rw [hupm]
            refine ⟨⟨by simp, .inr ⟨b, cap, _, by rw [hm]; simp, h0, setRow_heap w b cur _ e _ hg, by simpa using hn, hmx, ?_, ?_⟩⟩, hcap⟩
            · simp [Value.cells]; omega
            · simp only [Value.cells, List.length_set, Nat.mul_one] at htk ⊢
              have e0 : (xs.set off x).map (Value.int k) = (xs.map (Value.int k)).set off (.int k x) := by rw [List.map_set]
              rw [e0, ← htk]
              have hoff : off < cur.toList.length := by simp; omega
              have e1 : cur.toList.take off ++ #[Value.int k x].toList ++ cur.toList.drop (off + #[Value.int k x].size) = cur.toList.set off (.int k x) := by
                rw [List.set_eq_take_append_cons_drop, if_pos hoff]; simp
              simp only [e1]
              rw [List.take_set]
        · cases hB
      · cases hB
    · rename_i e n xs cc hcs
      split at hB
      · rename_i d hd
        split at hB
        · rename_i hcond
          obtain ⟨hn0, hoff, hlt, hds, hsz⟩ := hcond
          simp only [Option.some.injEq, Prod.mk.injEq] at hB
          obtain ⟨rfl, rfl⟩ := hB
          have hD := toD_rep hv hd
          obtain ⟨vals, hown, hcap, hr⟩ := h.heap κ' _ hcs
          have hzs : z.cells.size = n := by
            rw [← hds]
            cases hxa : d.isAgg with
            | true =>
              obtain ⟨us', rfl, hl⟩ := repD_agg hD hxa
              simpa [Value.cells] using hl
            | false =>
              rw [cells_one (repD_notAgg hD hxa)]
              cases d <;> first | rfl | simp [D.isAgg] at hxa
          have e1 : off / n * n = off := by
            have := Nat.div_add_mod' off n
            omega
          rcases hown.2 with ⟨h0, _⟩ | ⟨g, cap', cur, hv', h0, hg, hn, hmx, hsz', htk⟩
          · rw [h0] at hlt; simp at hlt
          · rw [hm] at hv'; simp at hv'
            obtain ⟨rfl, rfl, rfl⟩ := hv'
            have hc0 : cap ≠ 0 := by omega
            have hblk : blkOf (m κ') = some b := by rw [hm]; simp [blkOf, hc0]
            have hfr := frAt b (cur.toList.take off ++ z.cells.toList ++ cur.toList.drop (off + z.cells.size)).toArray _ hcs hblk
            have hkb : ∀ b', blkOf (m κ') = some b' → (∃ B0, gt κ' s.hp = some B0 ∧ blkOf (m κ') = some b') ∨ w.heap.size ≤ b' := fun b' hb' => .inl ⟨_, hcs, hb'⟩
            have hle0 : off + n ≤ xs.length * n := by
              have : (off / n + 1) * n ≤ xs.length * n := Nat.mul_le_mul_right _ hlt
              rw [Nat.add_mul, e1] at this; omega
            have hle2 : xs.length * n ≤ cap * n := Nat.mul_le_mul_right _ hn
            have hle1 : off + z.cells.size ≤ cur.size := by rw [hzs, hsz']; omega
            refine ⟨_, by rw [hu]; exact runAt b off cur e hg (by rw [hzs]; exact hsz) hle1 (repD_cells_one hD), ?_⟩
            have hk := h.setB_kept false κ' (.row e n (xs.set (off / n) d) cc) (m κ') hfr hkb
            have hupm := upm_self m κ'
            refine (h.setB false κ' _ (m κ') (.inr rfl) (.inr rfl) hfr hkb ?_).1
            rw [hupm] at hk ⊢
            have hset := RepRow_set (RepRow.kept hk _ _ hr) hlt (RepD.kept hk _ _ hD) hzs
            rw [e1] at hset
            refine ⟨_, ⟨(RepRow_get hset).1, .inr ⟨b, cap, _, by rw [hm]; simp, h0, setRow_heap w b cur _ e _ hg, by simpa using hn, hmx, ?_, ?_⟩⟩, hcap, hset⟩
            · simp only [List.size_toArray, List.length_append, List.length_take, List.length_drop, Array.length_toList, hzs]
              rw [hzs] at hle1
              omega
            · simp only [List.length_set, hzs]
              rw [← htk]
              exact take_splice _ _ _ _ _ (by simpa using hzs) hle0 (by simp [hsz']; exact hle2)
        · cases hB
      · cases hB
    · cases hB
  · cases hB

/-! ### makes -/
/-- The zero value of a type, as data. -/
def zeroD (P : Program) (t : TypeId) : Option D :=
  match zeroT P t, aggT P t with
  | some zs, some true => some (.agg (zs.map D.v))
  | some [z], some false => some (.v z)
  | _, _ => none
def makeB (P : Program) (t : TypeId) (l c : Int) : Option Blk :=
  match appT P t with
  | some (e, n, by') => if 0 ≤ c ∧ (by' : Int) * c ≤ 281474976710656 ∧ c ≤ 9223372036854775807 ∧ (l = 0 ∨ (l = c ∧ n = 1)) then
      match zeroT P e with
      | some [.int k z] => match intT P e with
        | some k' => if n = 1 ∧ k = k' ∧ z = 0 then some (.ints e k (List.replicate l.toNat 0) (some c.toNat)) else none
        | none => none
      | some zs => match intT P e with
        | some _ => none
        | none => match zeroD P e with
          | some d => if d.size = n ∧ zs.length = n then some (.row e n (List.replicate l.toNat d) (some c.toNat)) else none
          | none => none
      | none => none
    else none
  | none => none

theorem CapIs_mk {n : Nat} {a : Option Addr} {l : Nat} : CapIs (some n) (.slice a l n) := fun q hq => by cases hq; exact ⟨_, _, rfl⟩

theorem SRep.make {P : Program} {c : Ctx} {m : Nat → Value} {s : St} {a : Act} {w : World} (h : SRep c m s a w) {t κ : Nat} (h16 : 16 ≤ κ) {kl kc : IntKind} {l cp : Int} {B : Blk} (hB : makeB P t l cp = some B) :
    ∃ v w', (Instr.makeSlice t (.int kl l) (.int kc cp)).run P w = .ok v w' ∧ SRep c (upm m κ v) (s.setB true κ B) a w' ∧ v.oneCell' = true := by
  unfold makeB at hB
  split at hB
  · rename_i e n by' hT
    obtain ⟨i, z, hu, hi, hz, hzs, hs, hby, hn0⟩ := appT_parts hT
    split at hB
    · rename_i hcond
      obtain ⟨h0, hb1, hm, hl⟩ := hcond
      have hcn : ((cp.toNat : Nat) : Int) = cp := Int.toNat_of_nonneg h0
      have hb2 : i.bytes * cp.toNat ≤ 281474976710656 := by
        have : ((i.bytes * cp.toNat : Nat) : Int) ≤ 281474976710656 := by rw [Int.natCast_mul, hcn, hby]; exact hb1
        omega
      have hm2 : cp.toNat ≤ maxLen := by unfold maxLen; omega
      have hblk : ∀ l' : Nat, ∀ b, blkOf (.slice (some ⟨w.heap.size, 0, none⟩) l' cp.toNat) = some b → w.heap.size ≤ b := fun l' b hb => by simp only [blkOf] at hb; split at hb <;> simp at hb; omega
      -- the zero value's cells
      have hzt : ∀ zs, zeroT P e = some zs → z.cells.toList = zs := by
        intro zs hzz
        unfold zeroT at hzz
        simp only [hi, Option.bind_some, hz] at hzz
        split at hzz
        · cases hzz; rfl
        · cases hzz
      have run0 : l = 0 → ∃ w', (Instr.makeSlice t (.int kl l) (.int kc cp)).run P w = .ok (.slice (some ⟨w.heap.size, 0, none⟩) 0 cp.toNat) w' ∧ OwnRow w' e n (.slice (some ⟨w.heap.size, 0, none⟩) 0 cp.toNat) 0 [] ∧ Fr (fun _ => False) w w' := by
        rintro rfl
        obtain ⟨w', r1, r2, r3⟩ := run_make_own (P := P) w 0 t e i z n hu hi hz hs kl kc cp.toNat hb2 hm2 (Nat.zero_le _)
        rw [hcn] at r1
        exact ⟨w', r1, ownRow_of r2, Fr.ofGrown r3 (fun k hk => by cases hk)⟩
      have run1 : l = cp → n = 1 → ∃ w' z0, z.cells = #[z0] ∧ (Instr.makeSlice t (.int kl l) (.int kc cp)).run P w = .ok (.slice (some ⟨w.heap.size, 0, none⟩) cp.toNat cp.toNat) w' ∧ OwnRow w' e n (.slice (some ⟨w.heap.size, 0, none⟩) cp.toNat cp.toNat) cp.toNat (List.replicate cp.toNat z0) ∧ Fr (fun _ => False) w w' := by
        rintro rfl rfl
        obtain ⟨w', r1, r2, r3⟩ := run_make_full (P := P) w 0 t e i z 1 hu hi hz hs kl kc l.toNat hb2 hm2 (Nat.zero_le _)
        rw [hcn] at r1
        obtain ⟨z0, hz0⟩ : ∃ z0, z.cells = #[z0] := by
          have : z.cells.toList.length = 1 := by simpa using hzs
          obtain ⟨z0, hz0⟩ := List.length_eq_one_iff.1 this
          exact ⟨z0, by apply Array.ext'; simpa using hz0⟩
        rw [hz0, Nat.mul_one, toList_madeCells_one] at r2
        exact ⟨w', z0, hz0, r1, ownRow_of r2, Fr.ofGrown r3 (fun k hk => by cases hk)⟩
      split at hB
      · rename_i k zz hzz
        have hz1 := hzt _ hzz
        split at hB
        · rename_i k' hk'
          split at hB
          · rename_i hc2
            obtain ⟨rfl, rfl, rfl⟩ := hc2
            cases hB
            rcases hl with rfl | ⟨rfl, _⟩
            · obtain ⟨w', r1, r2, r3⟩ := run0 rfl
              exact ⟨_, w', r1, h.newRow κ h16 _ _ r3 (hblk 0) (.inl ⟨e, k, _, _, rfl, by simpa using r2, CapIs_mk⟩), rfl⟩
            · obtain ⟨w', z0, r0, r1, r2, r3⟩ := run1 rfl rfl
              have hz0 : z0 = .int k 0 := by rw [r0] at hz1; simpa using hz1
              subst hz0
              exact ⟨_, w', r1, h.newRow κ h16 _ _ r3 (hblk _) (.inl ⟨e, k, _, _, rfl, by simpa using r2, CapIs_mk⟩), rfl⟩
          · cases hB
        · cases hB
      · rename_i zs _ hzz
        have hz1 := hzt _ hzz
        split at hB
        · cases hB
        · split at hB
          · rename_i d hd
            split at hB
            · rename_i hc2
              obtain ⟨hc2, hc3⟩ := hc2
              cases hB
              rcases hl with rfl | ⟨rfl, rfl⟩
              · obtain ⟨w', r1, r2, r3⟩ := run0 rfl
                exact ⟨_, w', r1, h.newRow κ h16 _ _ r3 (hblk 0) (.inr ⟨e, n, _, _, [], rfl, by simpa using r2, CapIs_mk, by simp [RepRow]⟩), rfl⟩
              · obtain ⟨w', z0, r0, r1, r2, r3⟩ := run1 rfl rfl
                refine ⟨_, w', r1, h.newRow κ h16 _ _ r3 (hblk _) (.inr ⟨e, 1, _, _, _, rfl, by simpa using r2, CapIs_mk, ?_⟩), rfl⟩
                have hzz2 : zs = [z0] := by rw [← hz1, r0]
                subst hzz2
                unfold zeroD at hd
                rw [hzz] at hd
                have hone : z0.oneCell' = true := (zeroT_run hzz w).choose_spec.2.2 z0 (by simp)
                have rd : RepD w (Forb c m s.hp) d z0 ∨ (∃ q : Nat, d = .agg [.v z0]) := by
                  split at hd
                  · rename_i zs' h1 h2
                    cases h1; cases hd
                    exact .inr ⟨0, rfl⟩
                  · rename_i z' h1 h2
                    cases h1; cases hd
                    exact .inl (by simp only [RepD]; exact ⟨trivial, hone⟩)
                  · cases hd
                have key : ∀ q, RepRow w (Forb c m s.hp) (fun v => v.cells.size = 1) (List.replicate q d) (List.replicate q z0) := by
                  intro q
                  induction q with
                  | zero => simp [RepRow]
                  | succ q ih =>
                    rw [List.replicate_succ, List.replicate_succ]
                    simp only [RepRow]
                    rcases rd with rd | ⟨_, rfl⟩
                    · exact ⟨z0, _, by rw [cells_one hone]; rfl, by rw [cells_one hone]; rfl, rd, ih⟩
                    · refine ⟨.agg #[z0], _, rfl, rfl, ?_, ih⟩
                      simp only [RepD]
                      exact ⟨[z0], rfl, RepOnes_iff.2 ⟨rfl, fun j dd hj => by
                        cases j with
                        | zero => simp at hj; subst hj; exact ⟨z0, rfl, hone, by simp only [RepD]; exact ⟨trivial, hone⟩⟩
                        | succ j => simp at hj⟩⟩
                exact key _
            · cases hB
          · cases hB
      · cases hB
    · cases hB
  · cases hB

/-! ### One step -/
/-- An append of so many zeros: the key, the row. -/
def appZB (P : Program) (s : St) (dst : Option Nat) (t t' : TypeId) (x y : Option AV) : Option (Nat × Blk) :=
  match appT P t, intT P t', x, y with
  | some (e, n, by'), some _, some (.own κ), some (.d (.v (.int _ i))) => match gt κ s.hp with
    | some B => if n = 1 ∧ B.elem = e then omap (growZ P by' B i) fun B' => (κ, B') else none
    | none => none
  | _, _, _, _ => none
def appZ (P : Program) (s : St) (dst : Option Nat) (t t' : TypeId) (x y : Option AV) : Option St := omap (appZB P s dst t t' x y) fun r => (s.setB true r.1 r.2).put dst (.own r.1)
/-- A step that makes a block or turns one. -/
def stepB (P : Program) (s : St) (o : Oper) : Option St :=
  match o.op with
    | .alloc e => match o.dst, zeroT P e with
      | some d, some zs => some ((s.setB true (kL d) (.box e (zs.map fun z => .d (.v z)))).put o.dst (.ptr (kL d) 0))
      | _, _ => none
    | .box e x => match o.dst, obind (s.ev x) AV.parts with
      | some d, some ps => some ((s.setB true (kL d) (.box e (killVs (kL d) ps))).put o.dst (.ptr (kL d) 0))
      | _, _ => none
    | .buildSlice t n l => match o.dst, obind (s.evP l.toList) (litB P t n) with
      | some d, some B => some ((s.setB true (kL d) B).put o.dst (.own (kL d)))
      | _, _ => none
    | .makeSlice t l cp => match o.dst, s.ev l, s.ev cp with
      | some d, some (.d (.v (.int _ i))), some (.d (.v (.int _ j))) => omap (makeB P t i j) fun B => (s.setB true (kL d) B).put o.dst (.own (kL d))
      | _, _, _ => none
    | .store t ad x => match s.ev ad, s.ev x with
      | some va, some vx => omap (storeB P s t va vx) fun r => (s.setB false r.1 r.2).put o.dst .bot
      | _, _ => none
    | .slice t x l hh mx => match s.ev x with
      | some (.own κ) => match obind (gt κ s.hp) Blk.data with
        | some d => omap (valOp P (s.freeze κ d) o.op) fun v => (s.freeze κ d).put o.dst v
        | none => none
      | _ => none
    | .call cl => match cl.callee, cl.args.toList, cl.argTypes.toList with
      | .builtin .append, [x, y], [t, t'] => if t ≠ t' then appZ P s o.dst t t' (s.ev x) (s.ev y) else
        match appT P t, s.ev x, s.ev y with
        | some (e, n, by'), some (.own κ), some vy => match gt κ s.hp with
          | some B => if B.isRow n = true ∧ B.elem = e then omap (growB s by' B vy) fun B' => (s.setB true κ B').put o.dst (.own κ) else none
          | none => none
        | some (e, n, by'), some vx, some vy => match o.dst, emptyB P t with
          | some d, some B => if isEmptyA vx = true then
              let s1 := s.setB true (kL d) B
              omap (growB s1 by' B (killV (kL d) vy)) fun B' => (s1.setB true (kL d) B').put o.dst (.own (kL d))
            else omap (growD s e n by' vx vy) fun B' => (s.setB true (kL d) B').put o.dst (.own (kL d))
          | _, _ => none
        | _, _, _ => none
      | _, _, _ => none
    | _ => none

def step (P : Program) (s : St) (o : Oper) : Option St :=
  if s.okDst o.dst = false then none else
  match valOp P s o.op with
  | some v => some (s.put o.dst v)
  | none => stepB P s o

theorem step_sound {P : Program} {c : Ctx} {m : Nat → Value} {s s' : St} {a : Act} {w : World} {o : Oper} (hs : step P s o = some s') (h : SRep c m s a w) : ∃ m' u w', Did P o a w u w' ∧ SRep c m' s' (a.put o.dst u) w' := by
  have putOwn : ∀ {m' : Nat → Value} {s1 : St} {w' : World} {κ : Nat} {v : Value}, SRep c m' s1 a w' → s1.okDst o.dst = true → m' κ = v → v.oneCell' = true → SRep c m' (s1.put o.dst (.own κ)) (a.put o.dst v) w' := by
    intro m' s1 w' κ v h1 h2 h3 h4
    exact h1.put h2 (by simp only [RepV]; exact ⟨h3.symm, h4⟩)
  have okB : ∀ (s : St) (k : Bool) (κ : Nat) (B : Blk), (s.setB k κ B).okDst o.dst = s.okDst o.dst := by
    intro s k κ B
    cases hd : o.dst with
    | none => rfl
    | some d => simp only [St.okDst, St.setB]; split <;> rfl
  unfold step at hs
  split at hs
  · cases hs
  · rename_i hok
    have hok : s.okDst o.dst = true := by simpa using hok
    split at hs
    · rename_i v hv
      cases hs
      obtain ⟨u, h1, h2⟩ := valOp_sound h hv
      exact ⟨m, u, w, .inl h1, h.put hok h2⟩
    · unfold stepB at hs
      split at hs
      · rename_i e ho
        split at hs
        · rename_i d zs hd hz
          cases hs
          obtain ⟨z, h1, h2, h3⟩ := zeroT_run hz w
          have hn := h.newBox (kL d) (by unfold kL; omega) e (us := z.cells) (by rw [h2]; exact zeros_rep h3) (by rw [h2]; exact h3)
          have hkk : killVs (kL d) (zs.map fun z => AV.d (.v z)) = zs.map fun z => AV.d (.v z) := by
            clear hz h2 h3 hn h1
            induction zs with
            | nil => rfl
            | cons z zs ih => simp only [List.map_cons, killVs, killV, ih]
          rw [hkk] at hn
          refine ⟨_, .pointer (some ⟨w.heap.size, 0, none⟩), _, .inl ?_, hn.put (by rw [okB]; exact hok) (by simp only [RepV, upm_same]; exact ⟨_, rfl, rfl⟩)⟩
          simp only [execOp, ho, Instr.alloc, Sem.run_bind, h1, Result.andThen_ok, newVar, Go.newRow, newObj, Sem.run]
          rfl
        · cases hs
      · rename_i e x ho
        split at hs
        · rename_i d ps hd hps
          cases hs
          obtain ⟨vx, hx, hps⟩ := Option.bind_eq_some_iff.1 hps
          obtain ⟨h1, h2⟩ := parts_rep (h.ev hx) hps
          have hn := h.newBox (kL d) (by unfold kL; omega) e h1 h2
          refine ⟨_, .pointer (some ⟨w.heap.size, 0, none⟩), _, .inl ?_, hn.put (by rw [okB]; exact hok) (by simp only [RepV, upm_same]; exact ⟨_, rfl, rfl⟩)⟩
          simp only [execOp, ho, Instr.box, Sem.run_bind, newVar, Go.newRow, newObj, Sem.run]
          rfl
        · cases hs
      · rename_i t n l ho
        split at hs
        · rename_i d B hd hB
          cases hs
          obtain ⟨ps, hp, hB⟩ := Option.bind_eq_some_iff.1 hB
          obtain ⟨v, w', h1, h2, h3⟩ := h.litB (κ := kL d) (by unfold kL; omega) hp hB
          refine ⟨_, v, w', .inl ?_, putOwn h2 (by rw [okB]; exact hok) (upm_same _ _ _) h3⟩
          have e1 : (l.map fun p => (p.1, a.eval p.2)) = (l.toList.map fun p => (p.1, a.eval p.2)).toArray := by rw [← List.map_toArray, Array.toArray_toList]
          simp only [execOp, ho, Sem.run_bind]
          rw [e1, h1]; rfl
        · cases hs
      · rename_i t l cp ho
        split at hs
        · rename_i d kl i kc j hd hl hc
          obtain ⟨B, hB, rfl⟩ := Option.map_eq_some_iff.1 hs
          have rl := (repV_v.1 (h.ev hl)).1
          have rc := (repV_v.1 (h.ev hc)).1
          obtain ⟨v, w', h1, h2, h3⟩ := h.make (κ := kL d) (by unfold kL; omega) (kl := kl) (kc := kc) hB
          refine ⟨_, v, w', .inl ?_, putOwn h2 (by rw [okB]; exact hok) (upm_same _ _ _) h3⟩
          simp only [execOp, ho, rl, rc, Sem.run_bind, h1]; rfl
        · cases hs
      · rename_i t ad x ho
        split at hs
        · rename_i va vx ha hx
          obtain ⟨⟨κ, B⟩, hB, rfl⟩ := Option.map_eq_some_iff.1 hs
          obtain ⟨w', h1, h2⟩ := h.store (h.ev ha) (h.ev hx) hB
          refine ⟨_, undef, w', .inr ⟨rfl, ?_⟩, h2.putBot (by rw [okB]; exact hok) _⟩
          simp only [execOp, ho, Sem.run_bind, h1]; rfl
        · cases hs
      · rename_i t x l hh mx ho
        split at hs
        · rename_i κ hx
          split at hs
          · rename_i d hd
            obtain ⟨v, hv, rfl⟩ := Option.map_eq_some_iff.1 hs
            obtain ⟨B, hB, hBd⟩ := Option.bind_eq_some_iff.1 hd
            have hf := h.freeze hB hBd
            obtain ⟨u, h1, h2⟩ := valOp_sound hf hv
            exact ⟨m, u, w, .inl h1, hf.put (by rw [← hok]; cases o.dst <;> rfl) h2⟩
          · cases hs
        · cases hs
      · rename_i cl ho
        obtain ⟨cal, args, tys⟩ := cl
        simp only at hs
        split at hs
        · rename_i x y t t' hx ht
          have hx : args = #[x, y] := by rw [← Array.toArray_toList (xs := args), hx]
          have ht : tys = #[t, t'] := by rw [← Array.toArray_toList (xs := tys), ht]
          subst hx ht
          split at hs
          · obtain ⟨⟨κ, B'⟩, hz, rfl⟩ := Option.map_eq_some_iff.1 hs
            unfold appZB at hz
            split at hz
            · rename_i e n by' kn κ' kq i hT htn hvx hvy
              split at hz
              · rename_i B hB
                split at hz
                · rename_i hc
                  obtain ⟨rfl, he⟩ := hc
                  obtain ⟨B2, hB2, hr⟩ := Option.map_eq_some_iff.1 hz
                  simp only [Prod.mk.injEq] at hr
                  obtain ⟨rfl, rfl⟩ := hr
                  have rx := h.ev hvx
                  simp only [RepV] at rx
                  have ry := (repV_v.1 (h.ev hvy)).1
                  obtain ⟨v', w', h1, h2, h3⟩ := h.appendZ (ty := o.type) (kq := kq) hT htn hB he hB2
                  refine ⟨_, v', w', .inl ?_, putOwn h2 (by rw [okB]; exact hok) (upm_same _ _ _) h3⟩
                  simp only [execOp, ho, resolve, invoke, builtin, Sem.run_bind, Sem.run_pure, Result.andThen_ok, List.map_toArray, List.map_cons, List.map_nil, rx.1, ry, h1]
                · cases hz
              · cases hz
            · cases hz
          · rename_i htt
            have htt : t' = t := by simpa using Eq.symm (by simpa using htt)
            subst htt
            have key : ∀ v w' m' s1, (Builtin.append_ #[t', t'] o.type #[a.eval x, a.eval y]).run P w = .ok v w' → SRep c m' s1 (a.put o.dst v) w' → ∃ m' u w', Did P o a w u w' ∧ SRep c m' s1 (a.put o.dst u) w' := by
              intro v w' m' s1 hr hS
              refine ⟨m', v, w', .inl ?_, hS⟩
              simp only [execOp, ho, resolve, invoke, builtin, Sem.run_bind, Sem.run_pure, Result.andThen_ok, List.map_toArray, List.map_cons, List.map_nil, hr]
            split at hs
            · rename_i e n by' κ vy hT hvx hvy
              split at hs
              · rename_i B hB
                split at hs
                · rename_i hc
                  obtain ⟨B', hB', rfl⟩ := Option.map_eq_some_iff.1 hs
                  have rx := h.ev hvx
                  simp only [RepV] at rx
                  obtain ⟨v', w', h1, h2, h3⟩ := h.append (ty := o.type) hT hB hc.1 hc.2 hB' (h.ev hvy)
                  exact key v' w' _ _ (by rw [rx.1]; exact h1) (putOwn h2 (by rw [okB]; exact hok) (upm_same _ _ _) h3)
                · cases hs
              · cases hs
            · rename_i e n by' vx vy hno hT hvx hvy
              split at hs
              · rename_i d B hd hB
                split at hs
                · rename_i hemp
                  obtain ⟨B', hB', rfl⟩ := Option.map_eq_some_iff.1 hs
                  obtain ⟨ad, had⟩ := isEmptyA_val (h.ev hvx) hemp
                  obtain ⟨e', n', by'', hT', hb1, hb2, hb3⟩ := emptyB_parts hB
                  rw [hT] at hT'
                  simp only [Option.some.injEq, Prod.mk.injEq] at hT'
                  obtain ⟨rfl, rfl, rfl⟩ := hT'
                  obtain ⟨hm1, hk1⟩ := h.mat (kL d) B ad (by unfold kL; omega) hb3
                  have hself : gt (kL d) (s.setB true (kL d) B).hp = some B := by simp [St.setB, gt_ins_same]
                  have hy1 := RepV.kill (m' := upm m (kL d) (.slice ad 0 0)) (fun j hj => upm_ne _ _ hj) vy _ (RepV.kept hk1 (Nat.le_refl _) vy _ (h.ev hvy))
                  obtain ⟨v', w', h1, h2, h3⟩ := hm1.append (ty := o.type) hT hself hb1 hb2 hB' hy1
                  rw [upm_same] at h1
                  refine key v' w' _ _ (by rw [had]; exact h1) (putOwn h2 (by rw [okB, okB]; exact hok) (upm_same _ _ _) h3)
                · obtain ⟨B', hB', rfl⟩ := Option.map_eq_some_iff.1 hs
                  obtain ⟨v', w', h1, h2, h3⟩ := h.appendD (ty := o.type) (κ := kL d) hT (by unfold kL; omega) hB' (h.ev hvx) (h.ev hvy)
                  exact key v' w' _ _ h1 (putOwn h2 (by rw [okB]; exact hok) (upm_same _ _ _) h3)
              · cases hs
            · cases hs
        · cases hs
      · cases hs

def isBlt : Call → Bool
  | { callee := .builtin .append, .. } => true
  | _ => false
/-- The same, by the operation's kind. -/
def stepF (P : Program) (s : St) (o : Oper) : Option St :=
  if s.okDst o.dst = true then
    match o.op with
    | .alloc _ => stepB P s o
    | .box _ _ => stepB P s o
    | .buildSlice _ _ _ => stepB P s o
    | .makeSlice _ _ _ => stepB P s o
    | .store _ _ _ => stepB P s o
    | .slice t x l h m => match s.ev x with
      | some (.own _) => stepB P s o
      | _ => omap (valOp P s (.slice t x l h m)) (s.put o.dst)
    | .call c => if isBlt c then stepB P s o else omap (valOp P s (.call c)) (s.put o.dst)
    | op => omap (valOp P s op) (s.put o.dst)
  else none

theorem stepF_step {P : Program} {s s' : St} {o : Oper} (h : stepF P s o = some s') : step P s o = some s' := by
  unfold stepF at h
  split at h
  · rename_i hok
    have val : ∀ op, o.op = op → omap (valOp P s op) (s.put o.dst) = some s' → step P s o = some s' := by
      intro op ho hv
      obtain ⟨v, h1, rfl⟩ := Option.map_eq_some_iff.1 hv
      unfold step
      rw [hok, ho, h1]; rfl
    have blk : valOp P s o.op = none → stepB P s o = some s' → step P s o = some s' := by
      intro h1 h2
      unfold step
      rw [hok, h1]; exact h2
    split at h
    · rename_i e ho; exact blk (by rw [ho]; rfl) h
    · rename_i e x ho; exact blk (by rw [ho]; rfl) h
    · rename_i t n l ho; exact blk (by rw [ho]; rfl) h
    · rename_i t l c ho; exact blk (by rw [ho]; rfl) h
    · rename_i t x v ho; exact blk (by rw [ho]; rfl) h
    · rename_i t x l hh m ho
      split at h
      · rename_i κ hx
        refine blk ?_ h
        rw [ho]
        simp only [valOp, hx]
        split
        · rename_i vx il ih im h1 h2 h3 h4
          cases h1
          simp only [sliceV]
        · rfl
      · exact val _ ho h
    · rename_i c ho
      split at h
      · rename_i hb
        refine blk ?_ h
        rw [ho]
        obtain ⟨cal, args, tys⟩ := c
        cases cal with
        | builtin b => cases b <;> first | rfl | simp [isBlt] at hb
        | _ => simp [isBlt] at hb
      · exact val _ ho h
    · exact val _ rfl h
  · cases h

end Go.Proofs.Ytpdbekbobkjfgaa
