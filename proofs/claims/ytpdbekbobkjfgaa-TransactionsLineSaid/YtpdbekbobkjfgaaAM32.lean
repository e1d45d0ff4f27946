/-
  An abstract view of the machine, part 32: tables of closed runs, each reckoned out by itself.
  Conditions: none; nothing here speaks of one program.
-/
import Derived.Test.YtpdbekbobkjfgaaAM26
namespace Go.Proofs.Ytpdbekbobkjfgaa
open Go.RowKit
set_option linter.unusedVariables false

/-- Whether two values are surely the same. -/
def sqV : Value → Value → Bool
  | .int k a, .int k' b => decide (k = k') && decide (a = b)
  | .bool a, .bool b => a == b
  | .slice none 0 0, .slice none 0 0 => true
  | .pointer none, .pointer none => true
  | .nilIface, .nilIface => true
  | .nilFunc, .nilFunc => true
  | .func (.func f) ⟨[]⟩ ⟨[]⟩, .func (.func g) ⟨[]⟩ ⟨[]⟩ => decide (f = g)
  | _, _ => false
theorem sqV_eq {a b : Value} (h : sqV a b = true) : a = b := by
  unfold sqV at h
  split at h <;> simp_all
def sqI : List Int → List Int → Bool
  | [], [] => true
  | a :: l, b :: l' => decide (a = b) && sqI l l'
  | _, _ => false
theorem sqI_eq : ∀ {a b : List Int}, sqI a b = true → a = b
  | [], [], _ => rfl
  | a :: l, b :: l', h => by
    simp only [sqI, Bool.and_eq_true, decide_eq_true_eq] at h
    rw [h.1, sqI_eq h.2]
  | [], _ :: _, h => by simp [sqI] at h
  | _ :: _, [], h => by simp [sqI] at h
mutual
def sqD : D → D → Bool
  | .v a, y => match y with | .v b => sqV a b | _ => false
  | .ints k a c, y => match y with | .ints k' b c' => decide (k = k') && (sqI a b && decide (c = c')) | _ => false
  | .sl n a c, y => match y with | .sl n' b c' => decide (n = n') && (sqDs a b && decide (c = c')) | _ => false
  | .agg a, y => match y with | .agg b => sqDs a b | _ => false
def sqDs : List D → List D → Bool
  | [], y => match y with | [] => true | _ => false
  | a :: l, y => match y with | b :: l' => sqD a b && sqDs l l' | _ => false
end
mutual
theorem sqD_eq : ∀ (a b : D), sqD a b = true → a = b
  | .v a, b, h => by
    cases b <;> simp only [sqD] at h <;> try cases h
    rw [sqV_eq h]
  | .ints k a c, b, h => by
    cases b <;> simp only [sqD] at h <;> try cases h
    simp only [Bool.and_eq_true, decide_eq_true_eq] at h
    rw [h.1, sqI_eq h.2.1, h.2.2]
  | .sl n a c, b, h => by
    cases b <;> simp only [sqD] at h <;> try cases h
    simp only [Bool.and_eq_true, decide_eq_true_eq] at h
    rw [h.1, sqDs_eq a _ h.2.1, h.2.2]
  | .agg a, b, h => by
    cases b <;> simp only [sqD] at h <;> try cases h
    rw [sqDs_eq a _ h]
theorem sqDs_eq : ∀ (a b : List D), sqDs a b = true → a = b
  | [], b, h => by
    cases b <;> simp only [sqDs] at h <;> try cases h
    rfl
  | a :: l, b, h => by
    cases b <;> simp only [sqDs] at h <;> try cases h
    simp only [Bool.and_eq_true] at h
    rw [sqD_eq a _ h.1, sqDs_eq l _ h.2]
end
def sqW : Wr → Wr → Bool
  | .ifc t, .ifc t' => decide (t = t')
  | .mth n, .mth n' => decide (n = n')
  | _, _ => false
theorem sqW_eq {a b : Wr} (h : sqW a b = true) : a = b := by
  unfold sqW at h
  split at h <;> simp_all
mutual
def sqA : AV → AV → Bool
  | .d a, y => match y with | .d b => sqD a b | _ => false
  | .ptr a b, y => match y with | .ptr a' b' => decide (a = a') && decide (b = b') | _ => false
  | .own a, y => match y with | .own b => decide (a = b) | _ => false
  | .agg a, y => match y with | .agg b => sqAs a b | _ => false
  | .wrap k a, y => match y with | .wrap k' b => sqW k k' && sqA a b | _ => false
  | _, _ => false
def sqAs : List AV → List AV → Bool
  | [], y => match y with | [] => true | _ => false
  | a :: l, y => match y with | b :: l' => sqA a b && sqAs l l' | _ => false
end
mutual
theorem sqA_eq : ∀ (a b : AV), sqA a b = true → a = b
  | .d a, b, h => by
    cases b <;> simp only [sqA] at h <;> try cases h
    rw [sqD_eq _ _ h]
  | .ptr x y, b, h => by
    cases b <;> simp only [sqA] at h <;> try cases h
    simp only [Bool.and_eq_true, decide_eq_true_eq] at h
    rw [h.1, h.2]
  | .own a, b, h => by
    cases b <;> simp only [sqA] at h <;> try cases h
    simp only [decide_eq_true_eq] at h
    rw [h]
  | .agg a, b, h => by
    cases b <;> simp only [sqA] at h <;> try cases h
    rw [sqAs_eq a _ h]
  | .wrap k a, b, h => by
    cases b <;> simp only [sqA] at h <;> try cases h
    simp only [Bool.and_eq_true] at h
    rw [sqW_eq h.1, sqA_eq a _ h.2]
  | .pel _ _, b, h => by simp [sqA] at h
  | .eaddr _, b, h => by simp [sqA] at h
  | .tup _, b, h => by simp [sqA] at h
  | .clos _ _, b, h => by simp [sqA] at h
  | .bot, b, h => by simp [sqA] at h
theorem sqAs_eq : ∀ (a b : List AV), sqAs a b = true → a = b
  | [], b, h => by
    cases b <;> simp only [sqAs] at h <;> try cases h
    rfl
  | a :: l, b, h => by
    cases b <;> simp only [sqAs] at h <;> try cases h
    simp only [Bool.and_eq_true] at h
    rw [sqA_eq a _ h.1, sqAs_eq l _ h.2]
end
def sqB : Blk → Blk → Bool
  | .box e a, .box e' b => decide (e = e') && sqAs a b
  | .ints e k a c, .ints e' k' b c' => decide (e = e') && (decide (k = k') && (sqI a b && decide (c = c')))
  | .row e n a c, .row e' n' b c' => decide (e = e') && (decide (n = n') && (sqDs a b && decide (c = c')))
  | _, _ => false
theorem sqB_eq {a b : Blk} (h : sqB a b = true) : a = b := by
  unfold sqB at h
  split at h
  · simp only [Bool.and_eq_true, decide_eq_true_eq] at h; rw [h.1, sqAs_eq _ _ h.2]
  · simp only [Bool.and_eq_true, decide_eq_true_eq] at h; rw [h.1, h.2.1, sqI_eq h.2.2.1, h.2.2.2]
  · simp only [Bool.and_eq_true, decide_eq_true_eq] at h; rw [h.1, h.2.1, sqDs_eq _ _ h.2.2.1, h.2.2.2]
  · cases h
def sqBs : List Blk → List Blk → Bool
  | [], [] => true
  | a :: l, b :: l' => sqB a b && sqBs l l'
  | _, _ => false
theorem sqBs_eq : ∀ {a b : List Blk}, sqBs a b = true → a = b
  | [], [], _ => rfl
  | a :: l, b :: l', h => by
    simp only [sqBs, Bool.and_eq_true] at h
    rw [sqB_eq h.1, sqBs_eq h.2]
  | [], _ :: _, h => by simp [sqBs] at h
  | _ :: _, [], h => by simp [sqBs] at h

/-- One closed run in front of others. -/
def runC (g : FuncId) (us : List AV) (gs : List Blk) (R : AV) (BS : List Blk) (ov : RunF) : RunF := fun f vs hs => if decide (f = g) && (sqAs us vs && sqBs gs hs) then some (R, BS) else ov f vs hs
theorem runC_ok {P : Program} {run ov : RunF} (hrun : RunOk P run) (hov : RunOk P ov) {g : FuncId} {us : List AV} {gs : List Blk} {R : AV} {BS : List Blk} (h : run g us gs = some (R, BS)) : RunOk P (runC g us gs R BS ov) := by
  intro f vs hs R' BS' h'
  unfold runC at h'
  split at h'
  · rename_i hc
    simp only [Bool.and_eq_true, decide_eq_true_eq] at hc
    obtain ⟨rfl, h2, h3⟩ := hc
    cases sqAs_eq _ _ h2
    cases sqBs_eq h3
    simp only [Option.some.injEq, Prod.mk.injEq] at h'
    obtain ⟨rfl, rfl⟩ := h'
    exact hrun _ _ _ _ _ h
  · exact hov _ _ _ _ _ h'
end Go.Proofs.Ytpdbekbobkjfgaa
