/- Lines, plainly: what is kept, what a line is, what Put answers, byte by byte. -/
import Derived.Test.YtjjppbfknjeddaaGreatDoorLib
namespace Go.Proofs.YtjjppbfknjeddaaGreatDoor
def oddB (c : UInt8) : Bool := (decide (c.toNat < 32) && !decide (c.toNat = 9)) || decide (126 < c.toNat)
def keepB (s b : List UInt8) : List UInt8 := s ++ b.take (70002 - s.length)
def trimCR (s : List UInt8) : List UInt8 := if s.getLast? = some 13 then s.dropLast else s
def badB (s : List UInt8) : Bool := decide (s.length = 70002) || decide (70000 < (trimCR s).length) || (trimCR s).any oddB
def lineB (s : List UInt8) : List UInt8 × Bool := if badB s = true then ([], true) else (trimCR s, false)
def putB : List UInt8 → List UInt8 → List (List UInt8 × Bool)
  | _, [] => []
  | s, c :: r => if c = 10 then lineB s :: putB [] r else putB (keepB s [c]) r
def restB : List UInt8 → List UInt8 → List UInt8
  | s, [] => s
  | s, c :: r => if c = 10 then restB [] r else restB (keepB s [c]) r
theorem keepB_nil (s : List UInt8) : keepB s [] = s := by simp [keepB]
theorem keepB_len {s : List UInt8} (hs : s.length ≤ 70002) (b : List UInt8) : (keepB s b).length = min 70002 (s.length + b.length) := by
  simp only [keepB, List.length_append, List.length_take]; omega
theorem keepB_le {s : List UInt8} (hs : s.length ≤ 70002) (b : List UInt8) : (keepB s b).length ≤ 70002 := by rw [keepB_len hs]; omega
theorem keepB_keepB {s : List UInt8} (hs : s.length ≤ 70002) (a b : List UInt8) : keepB (keepB s a) b = keepB s (a ++ b) := by
  have h : 70002 - (keepB s a).length = 70002 - s.length - a.length := by rw [keepB_len hs]; omega
  unfold keepB at h ⊢
  rw [h, List.take_append, List.append_assoc]
theorem put_plain : ∀ (a : List UInt8) {s : List UInt8} (r : List UInt8), s.length ≤ 70002 → (∀ c ∈ a, c ≠ 10) → putB s (a ++ r) = putB (keepB s a) r ∧ restB s (a ++ r) = restB (keepB s a) r
  | [], s, r, _, _ => by simp [keepB_nil]
  | c :: a, s, r, hs, h => by
    have hc : c ≠ 10 := h c (by simp)
    have ih := put_plain a r (keepB_le hs [c]) (fun x hx => h x (by simp [hx]))
    rw [keepB_keepB hs] at ih
    simp only [List.cons_append, putB, restB, if_neg hc]
    exact ih
theorem putB_append : ∀ (a : List UInt8) (s b : List UInt8), putB s (a ++ b) = putB s a ++ putB (restB s a) b ∧ restB s (a ++ b) = restB (restB s a) b
  | [], s, b => by simp [putB, restB]
  | c :: a, s, b => by
    by_cases hc : c = 10
    · have ih := putB_append a [] b
      simp only [List.cons_append, putB, restB, if_pos hc]
      exact ⟨by rw [ih.1], ih.2⟩
    · have ih := putB_append a (keepB s [c]) b
      simp only [List.cons_append, putB, restB, if_neg hc]
      exact ih
theorem restB_len : ∀ (b : List UInt8) {s : List UInt8}, s.length ≤ 70002 → (restB s b).length ≤ 70002
  | [], _, h => h
  | c :: b, s, h => by
    simp only [restB]
    split
    · exact restB_len b (by simp)
    · exact restB_len b (keepB_le h _)
theorem putB_len : ∀ (b s : List UInt8), (putB s b).length = b.count 10
  | [], _ => rfl
  | c :: b, s => by
    simp only [putB]
    split
    · rename_i h; subst h; rw [List.length_cons, putB_len b [], List.count_cons_self]
    · rename_i h; rw [putB_len b _, List.count_cons_of_ne h]
theorem trimCR_length (s : List UInt8) : (trimCR s).length ≤ s.length := by
  unfold trimCR; split
  · simp
  · exact Nat.le_refl _
theorem lineB_ok (s : List UInt8) : ((lineB s).2 = true → (lineB s).1 = []) ∧ (lineB s).1.length ≤ 70000 ∧ ∀ c ∈ (lineB s).1, oddB c = false := by
  unfold lineB
  split
  · simp
  · rename_i h
    refine ⟨by simp, ?_, ?_⟩
    · simp [badB] at h; exact h.1.2
    · simp [badB] at h; exact h.2
theorem putB_ok : ∀ (b s : List UInt8), ∀ p ∈ putB s b, (p.2 = true → p.1 = []) ∧ p.1.length ≤ 70000 ∧ ∀ c ∈ p.1, oddB c = false
  | [], _ => by simp [putB]
  | c :: b, s => by
    simp only [putB]
    split
    · intro p hp
      rcases List.mem_cons.1 hp with rfl | hp
      · exact lineB_ok s
      · exact putB_ok b [] p hp
    · exact putB_ok b _
/-- How many bytes have come behind the last byte 10. -/
def lastB : Nat → List UInt8 → Nat
  | k, [] => k
  | k, c :: r => if c = 10 then lastB 0 r else lastB (k + 1) r
theorem restB_last : ∀ (b : List UInt8) {s : List UInt8} {k : Nat}, s.length = min k 70002 → (restB s b).length = min (lastB k b) 70002
  | [], _, _, h => h
  | c :: b, s, k, h => by
    simp only [restB, lastB]
    split
    · exact restB_last b (by simp)
    · exact restB_last b (by rw [keepB_len (by omega)]; simp; omega)
theorem lastB_snoc : ∀ (a : List UInt8) (k : Nat) (c : UInt8), lastB k (a ++ [c]) = if c = 10 then 0 else lastB k a + 1
  | [], k, c => by simp [lastB]
  | x :: a, k, c => by
    simp only [List.cons_append, lastB]
    split
    · exact lastB_snoc a 0 c
    · exact lastB_snoc a _ c
/-- A line as it comes: no byte 10 in it, a byte 10 behind it. -/
theorem put_line {a : List UInt8} (ha : ∀ c ∈ a, c ≠ 10) (r : List UInt8) : putB [] (a ++ 10 :: r) = lineB (keepB [] a) :: putB [] r ∧ restB [] (a ++ 10 :: r) = restB [] r := by
  have h := put_plain a (10 :: r) (s := []) (by simp) ha
  simp only [putB, restB, if_true] at h
  exact h
theorem keepB_short {a : List UInt8} (h : a.length ≤ 70002) : keepB [] a = a := by
  simp only [keepB, List.nil_append, List.length_nil, Nat.sub_zero]; exact List.take_of_length_le h
theorem trimCR_snoc (a : List UInt8) : trimCR (a ++ [13]) = a := by simp [trimCR]
theorem trimCR_no {a : List UInt8} (h : ∀ c ∈ a, c ≠ 13) : trimCR a = a := by
  unfold trimCR
  split
  · rename_i e
    exact absurd rfl (h 13 (List.mem_of_getLast? e))
  · rfl
end Go.Proofs.YtjjppbfknjeddaaGreatDoor
