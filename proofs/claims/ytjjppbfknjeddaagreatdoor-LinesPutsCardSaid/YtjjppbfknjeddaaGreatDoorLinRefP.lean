/- The document's reader, plainly: all that came behind the last byte 10 is kept; what it answers is what the reader answers. -/
import Derived.Test.YtjjppbfknjeddaaGreatDoorLinP
namespace Go.Proofs.YtjjppbfknjeddaaGreatDoor
def mayB (l : List UInt8) : Bool := !(l.any oddB) && decide (l.length ≤ 70000)
def refLine (R : List UInt8) : List UInt8 × Bool := if mayB (trimCR R) = true then (trimCR R, false) else ([], true)
def refPutB : List UInt8 → List UInt8 → List (List UInt8 × Bool)
  | _, [] => []
  | R, c :: r => if c = 10 then refLine R :: refPutB [] r else refPutB (R ++ [c]) r
def refRest : List UInt8 → List UInt8 → List UInt8
  | R, [] => R
  | R, c :: r => if c = 10 then refRest [] r else refRest (R ++ [c]) r
theorem trimCR_ge (s : List UInt8) : s.length ≤ (trimCR s).length + 1 := by
  unfold trimCR; split
  · simp; omega
  · omega
theorem refLine_take (R : List UInt8) : lineB (R.take 70002) = refLine R := by
  by_cases h : R.length < 70002
  · rw [List.take_of_length_le (by omega)]
    unfold lineB refLine badB mayB
    have h1 : ¬ R.length = 70002 := by omega
    have h2 : (decide (70000 < (trimCR R).length)) = !(decide ((trimCR R).length ≤ 70000)) := by
      by_cases e : (trimCR R).length ≤ 70000
      · have : ¬ 70000 < (trimCR R).length := by omega
        simp [e, this]
      · have : 70000 < (trimCR R).length := by omega
        simp [e, this]
    rw [h2]
    cases h3 : (trimCR R).any oddB <;> cases h4 : decide ((trimCR R).length ≤ 70000) <;> simp [h1]
  · have h1 : (R.take 70002).length = 70002 := by rw [List.length_take]; omega
    have h2 := trimCR_ge R
    have h3 : ¬ (trimCR R).length ≤ 70000 := by omega
    unfold lineB refLine badB mayB
    simp [h1, h3]
theorem keepB_snoc (R : List UInt8) (c : UInt8) : keepB (R.take 70002) [c] = (R ++ [c]).take 70002 := by
  unfold keepB
  rw [List.take_append, List.length_take]
  by_cases h : R.length ≤ 70002
  · rw [Nat.min_eq_right h]
  · rw [show 70002 - min 70002 R.length = 70002 - R.length by omega]
theorem putB_take : ∀ (bs R : List UInt8), putB (R.take 70002) bs = refPutB R bs ∧ restB (R.take 70002) bs = (refRest R bs).take 70002
  | [], R => ⟨rfl, rfl⟩
  | c :: bs, R => by
    unfold putB restB refPutB refRest
    by_cases h : c = 10
    · have ih := putB_take bs []
      rw [List.take_nil] at ih
      rw [if_pos h, if_pos h, if_pos h, if_pos h, refLine_take, ih.1, ih.2]
      exact ⟨rfl, rfl⟩
    · rw [if_neg h, if_neg h, if_neg h, if_neg h, keepB_snoc]
      exact putB_take bs (R ++ [c])
theorem refRest_len : ∀ (bs R : List UInt8), (refRest R bs).length ≤ R.length + bs.length
  | [], R => by simp [refRest]
  | c :: bs, R => by
    unfold refRest
    split
    · have := refRest_len bs []
      simp only [List.length_nil, List.length_cons] at this ⊢; omega
    · have := refRest_len bs (R ++ [c])
      simp only [List.length_append, List.length_cons, List.length_nil] at this ⊢; omega
theorem refPutB_len : ∀ (bs R : List UInt8), (refPutB R bs).length ≤ bs.length
  | [], R => by simp [refPutB]
  | c :: bs, R => by
    unfold refPutB
    split
    · have := refPutB_len bs []
      simp only [List.length_cons]; omega
    · have := refPutB_len bs (R ++ [c])
      simp only [List.length_cons]; omega
theorem refPutB_snoc : ∀ (a R : List UInt8) (c : UInt8), refPutB R (a ++ [c]) = refPutB R a ++ (if c = 10 then [refLine (refRest R a)] else []) ∧ refRest R (a ++ [c]) = if c = 10 then [] else refRest R a ++ [c]
  | [], R, c => by
    by_cases h : c = 10 <;> simp [refPutB, refRest, h]
  | x :: a, R, c => by
    simp only [List.cons_append, refPutB, refRest]
    by_cases h : x = 10
    · have ih := refPutB_snoc a [] c
      rw [if_pos h, if_pos h, if_pos h, if_pos h, ih.1, ih.2]
      exact ⟨rfl, rfl⟩
    · have ih := refPutB_snoc a (R ++ [x]) c
      rw [if_neg h, if_neg h, if_neg h, if_neg h, ih.1, ih.2]
      exact ⟨rfl, rfl⟩
theorem refLine_len (R : List UInt8) : (refLine R).1.length ≤ 70000 := by
  unfold refLine mayB
  split
  · rename_i h
    simp at h; exact h.2
  · simp
end Go.Proofs.YtjjppbfknjeddaaGreatDoor
