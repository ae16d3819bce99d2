/- The sum by its padding, as the document says it. -/
import Derived.Test.YtbmopcmhokpchaaGreatDoorShaP
namespace Go.Proofs.YtbmopcmhokpchaaGreatDoor
open Go.RowKit
set_option linter.unusedVariables false
def zerosN (n : Nat) : Nat := (119 - n % 64) % 64
/-- Bytes, a byte 128, bytes 0, and how many bits there are. -/
def pad (bs : List UInt8) : List UInt8 := bs ++ [128] ++ List.replicate (zerosN bs.length) (0 : UInt8) ++ lenB bs.length
theorem pad_length (bs : List UInt8) : (pad bs).length = bs.length + 1 + zerosN bs.length + 8 := by simp [pad, lenB_length]; omega
theorem pad_mod (bs : List UInt8) : (pad bs).length % 64 = 0 := by rw [pad_length, zerosN]; omega
theorem blocksS_append (k : Nat) : ∀ (s : St) (l m : List UInt8), 64 * k ≤ l.length → blocksS k s (l ++ m) = blocksS k s l := by
  induction k with
  | zero => intro s l m _; rfl
  | succ k ih =>
    intro s l m h
    rw [blocksS, blocksS, List.take_append_of_le_length (by omega), List.drop_append_of_le_length (by omega), ih _ _ _ (by simp; omega)]
theorem blocksS_add (a b : Nat) : ∀ (s : St) (l : List UInt8), blocksS (a + b) s l = blocksS b (blocksS a s l) (l.drop (64 * a)) := by
  induction a with
  | zero => intro s l; simp [blocksS]
  | succ a ih =>
    intro s l
    rw [show a + 1 + b = (a + b) + 1 by omega, blocksS, ih, blocksS, List.drop_drop, show 64 + 64 * a = 64 * (a + 1) by omega]
theorem sha_pad (bs : List UInt8) : sha bs = (blocksS ((pad bs).length / 64) begS (pad bs)).out := by
  have hq : 64 * (bs.length / 64) ≤ bs.length := by omega
  have hpm := pad_mod bs
  have hpl := pad_length bs
  rw [sha]
  congr 1
  have e1 : (pad bs).length / 64 = bs.length / 64 + ((pad bs).length / 64 - bs.length / 64) := by omega
  rw [e1, blocksS_add]
  have e2 : blocksS (bs.length / 64) begS (pad bs) = blocksS (bs.length / 64) begS bs := by
    unfold pad
    rw [List.append_assoc, List.append_assoc, blocksS_append _ _ _ _ hq]
  rw [e2]
  generalize blocksS (bs.length / 64) begS bs = s
  obtain ⟨rm, hrm⟩ : ∃ rm, rm = bs.drop (64 * (bs.length / 64)) := ⟨_, rfl⟩
  have hrl : rm.length = bs.length % 64 := by rw [hrm, List.length_drop]; omega
  have e3 : (pad bs).drop (64 * (bs.length / 64)) = rm ++ [128] ++ List.replicate (zerosN bs.length) (0 : UInt8) ++ lenB bs.length := by
    unfold pad
    rw [List.append_assoc, List.append_assoc, List.drop_append_of_le_length hq, ← hrm]
    simp
  rw [e3, ← hrm]
  have hln := lenB_length bs.length
  unfold endS
  by_cases h56 : rm.length < 56
  · rw [if_pos h56]
    have hz : zerosN bs.length = 55 - rm.length := by unfold zerosN; omega
    have hk : (pad bs).length / 64 - bs.length / 64 = 1 := by omega
    have e5 : (tailB rm).take 56 = rm ++ [128] ++ List.replicate (55 - rm.length) (0 : UInt8) := by
      have e6 : tailB rm = (rm ++ [128] ++ List.replicate (55 - rm.length) (0 : UInt8)) ++ List.replicate 8 0 := by
        unfold tailB
        rw [List.append_assoc _ _ (List.replicate 8 0), List.replicate_append_replicate]
        congr 2
        omega
      rw [e6, List.take_append_of_le_length (by simp; omega), List.take_of_length_le (by simp; omega)]
    rw [hk, blocksS, blocksS, hz, e5]
    congr 1
    rw [List.take_of_length_le (by simp [hln]; omega)]
  · rw [if_neg h56]
    have hz : zerosN bs.length = (63 - rm.length) + 56 := by unfold zerosN; omega
    have hk : (pad bs).length / 64 - bs.length / 64 = 2 := by omega
    have hr64 : rm.length < 64 := by omega
    rw [hk, blocksS, blocksS, blocksS, hz, ← List.replicate_append_replicate]
    have e4 : rm ++ [128] ++ (List.replicate (63 - rm.length) (0 : UInt8) ++ List.replicate 56 0) ++ lenB bs.length = tailB rm ++ (List.replicate 56 0 ++ lenB bs.length) := by
      unfold tailB
      simp
    rw [e4, List.take_append_of_le_length (by rw [tailB_length hr64]; omega), List.take_of_length_le (by rw [tailB_length hr64]; omega),
      List.drop_append_of_le_length (by rw [tailB_length hr64]; omega), List.drop_of_length_le (by rw [tailB_length hr64]; omega), List.nil_append, List.take_of_length_le (by simp [hln])]
end Go.Proofs.YtbmopcmhokpchaaGreatDoor
