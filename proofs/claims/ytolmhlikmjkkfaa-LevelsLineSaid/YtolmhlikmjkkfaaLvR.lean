/-
  Layer 1 (levels): packets received, in plain lists.
  Conditions: none.
-/
import Derived.Test.YtolmhlikmjkkfaaLvStuff
namespace Go.Proofs.Ytolmhlikmjkkfaa
open Go.RowKit
set_option linter.unusedVariables false

/-- The states of a packet in front of its end. -/
def bodyL (l : List Int) : List Int := l.take (l.length - 3)
/-- What a packet's states say: the error, and the bytes. -/
def recvX (l : List Int) : Int × List Int :=
  if l.drop (l.length - 3) = [2, 2, 0] then
    if validL (bodyL l) = true ∧ (decL (bodyL l)).take 8 = syncL then
      match unL (decL (bodyL l)) with
      | none => (4, [])
      | some u => if u.length % 8 ≠ 0 then (5, []) else if u.length = 8 then (1, []) else if 8 * 1028 < u.length then (3, []) else (0, bytesL (u.drop 8))
    else (4, [])
  else (4, [])

theorem take8_sync {xs : List Int} (h : xs.take 8 = syncL) : xs = syncL ++ xs.drop 8 := by
  rw [← h, List.take_append_drop]
theorem un_sync {xs u : List Int} (h : xs.take 8 = syncL) (hu : unL xs = some u) : u = syncL ++ u.drop 8 := by
  rw [take8_sync h, unL_R] at hu
  simp [syncL, unRr] at hu
  obtain ⟨o, _, rfl⟩ := hu
  simp [syncL]
theorem stuff_sync (xs : List Int) : (stuffL (syncL ++ xs)).take 8 = syncL := by
  rw [stuffL_R]; simp [syncL, stR]
theorem bodyL_append (a : List Int) : bodyL (a ++ [2, 2, 0]) = a := by simp [bodyL]
theorem endL_append (a : List Int) : (a ++ [2, 2, 0]).drop ((a ++ [2, 2, 0]).length - 3) = [2, 2, 0] := by simp
theorem bytesL_len (l : List Int) : (bytesL l).length = l.length / 8 := by simp [bytesL]

/-- Receive inverts Send. -/
theorem recv_send {b : List Int} (h8 : u8s b) (h0 : b ≠ []) (hl : b.length ≤ 1027) : recvX (sendL b) = (0, b) := by
  have h01 : b01 (syncL ++ bitsL b) := sync_01 bitsL_01
  have s01 := stuff_01 h01
  have hb := bitsL_length b
  have hne : 0 < b.length := List.length_pos_iff.2 h0
  unfold recvX sendL
  rw [if_pos (endL_append _), bodyL_append, dec_enc s01, if_pos ⟨enc_valid _, stuff_sync _⟩, un_stuff h01]
  have hlen : (syncL ++ bitsL b).length = 8 + 8 * b.length := by simp [syncL, hb]; omega
  dsimp only
  rw [hlen, if_neg (by omega), if_neg (by omega), if_neg (by omega)]
  have hd : (syncL ++ bitsL b).drop 8 = bitsL b := by simp [syncL]
  rw [hd, bytes_bits h8]

/-- Send inverts Receive. -/
theorem send_recv {l b : List Int} (h8 : u8s l) (h : recvX l = (0, b)) : sendL b = l ∧ u8s b ∧ b ≠ [] ∧ b.length ≤ 1027 := by
  unfold recvX at h
  split at h
  · rename_i he
    split at h
    · rename_i hv
      obtain ⟨hv, hs⟩ := hv
      split at h
      · simp at h
      · rename_i u hu
        have hb8 : u8s (bodyL l) := fun x hx => h8 x (List.mem_of_mem_take hx)
        have hb01 := valid_01 hb8 hv
        have hd01 : b01 (decL (bodyL l)) := by rw [decL_R]; exact decR_01 _ 0
        have hu1 := un_sync hs hu
        have hu0 := hu
        rw [unL_R] at hu0
        have hu01 := (un_01R _ 0 u hd01 hu0).1
        have hul : u.length = 8 + (u.drop 8).length := by
          have := congrArg List.length hu1
          simp only [List.length_append, syncL, List.length_cons, List.length_nil] at this
          omega
        split at h
        · simp at h
        · split at h
          · simp at h
          · split at h
            · simp at h
            · simp only [Prod.mk.injEq, true_and] at h
              subst h
              have hm : (u.drop 8).length = 8 * ((u.drop 8).length / 8) := by omega
              have hd8 : b01 (u.drop 8) := fun x hx => hu01 x (List.mem_of_mem_drop hx)
              have hbb := bits_bytes _ hm hd8
              refine ⟨?_, bytesL_u8 hd8, ?_, ?_⟩
              · unfold sendL
                rw [hbb, ← hu1, stuff_un hd01 hu, enc_dec hb01, ← he]
                exact List.take_append_drop _ _
              · intro hn
                have := bytesL_len (u.drop 8)
                rw [hn, List.length_nil] at this; omega
              · rw [bytesL_len]; omega
    · simp at h
  · simp at h
/-- If one state of a packet becomes another one, what is received is an error or other bytes. -/
theorem recv_change {b : List Int} {i : Nat} {x : Int} (h8 : u8s (sendL b)) (hx : 0 ≤ x ∧ x < 256) (hi : i < (sendL b).length) (hne : (sendL b)[i] ≠ x) : recvX ((sendL b).set i x) ≠ (0, b) := by
  intro h
  have h8' : u8s ((sendL b).set i x) := fun y hy => by
    rcases List.mem_or_eq_of_mem_set hy with h | h
    · exact h8 y h
    · rw [h]; exact hx
  have := (send_recv h8' h).1
  have e : ((sendL b).set i x)[i]'(by simpa using hi) = (sendL b)[i] := by simp only [← this]
  rw [List.getElem_set_self] at e
  exact hne e.symm
theorem sendL_u8 (b : List Int) : u8s (sendL b) := by
  intro x hx
  unfold sendL at hx
  rcases List.mem_append.1 hx with h | h
  · rw [encL_R] at h
    have := encR_01 _ 0 (.inl rfl) x h
    omega
  · simp at h; omega
theorem recvX_err (l : List Int) : recvX l = (0, (recvX l).2) ∨ ((recvX l).2 = [] ∧ ((recvX l).1 = 1 ∨ (recvX l).1 = 3 ∨ (recvX l).1 = 4 ∨ (recvX l).1 = 5)) := by
  unfold recvX
  split
  · split
    · split
      · simp
      · split
        · simp
        · split
          · simp
          · split <;> simp
    · simp
  · simp
end Go.Proofs.Ytolmhlikmjkkfaa
