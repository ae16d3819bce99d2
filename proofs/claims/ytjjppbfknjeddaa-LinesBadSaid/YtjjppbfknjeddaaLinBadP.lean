/- A byte that may not be, in a line: plainly. -/
import Derived.Test.YtjjppbfknjeddaaLinBs
namespace Go.Proofs.Ytjjppbfknjeddaa
open Go.RowKit
set_option linter.unusedVariables false
set_option linter.unusedSimpArgs false
def badL (s : List UInt8) (c : UInt8) (n : Nat) : List UInt8 := (s.take n ++ [c] ++ s.drop n) ++ (if c = 13 then [120] else [])
theorem trimCR_end (a : List UInt8) {c : UInt8} (hc : c ≠ 13) : trimCR (a ++ [c]) = a ++ [c] := by
  unfold trimCR
  rw [if_neg (by simp [hc])]
theorem badL_mem {s : List UInt8} {c : UInt8} {n : Nat} {x : UInt8} (h : x ∈ badL s c n) : x ∈ s ∨ x = c ∨ x = 120 := by
  unfold badL at h
  simp only [List.mem_append, List.mem_singleton] at h
  rcases h with ((h | h) | h) | h
  · exact .inl (List.mem_of_mem_take h)
  · exact .inr (.inl h)
  · exact .inl (List.mem_of_mem_drop h)
  · by_cases e : c = 13
    · simp [e] at h; exact .inr (.inr h)
    · simp [e] at h
theorem badL_length {s : List UInt8} {c : UInt8} {n : Nat} (h : n ≤ s.length) : (badL s c n).length ≤ s.length + 2 ∧ s.length + 1 ≤ (badL s c n).length := by
  unfold badL
  have : (s.take n ++ [c] ++ s.drop n).length = s.length + 1 := by simp; omega
  rw [List.length_append, this]
  by_cases e : c = 13 <;> simp [e]
theorem badL_trim {s : List UInt8} (hs : Fine s) (c : UInt8) (n : Nat) : trimCR (badL s c n) = badL s c n := by
  by_cases e : c = 13
  · unfold badL
    rw [if_pos e]
    exact trimCR_end _ (by decide)
  · refine trimCR_no (fun x hx ex => ?_)
    rcases badL_mem hx with h | h | h
    · exact hs.no 13 (by decide) x h ex
    · exact e (by rw [← h, ex])
    · rw [h] at ex; exact absurd ex (by decide)
theorem badL_any {s : List UInt8} (hs : Fine s) (c : UInt8) (n : Nat) : (badL s c n).any oddB = oddB c := by
  cases ho : oddB c with
  | true =>
    rw [List.any_eq_true]
    exact ⟨c, by simp [badL], ho⟩
  | false =>
    rw [List.any_eq_false]
    intro x hx
    rcases badL_mem hx with h | h | h
    · have := List.any_eq_false.1 hs.ok x h; exact this
    · rw [h, ho]; simp
    · rw [h]; decide
theorem bad_line {s : List UInt8} (hs : Fine s) (hl : s.length ≤ 60000) (c : UInt8) {n : Nat} (hn : n ≤ s.length) : lineB (keepB [] (badL s c n)) = if oddB c = true then ([], true) else (badL s c n, false) := by
  have h1 := (badL_length (c := c) hn).1
  rw [keepB_short (by omega), lineB_eq _ (badL_trim hs c n), badL_any hs]
  have h2 : ¬ (badL s c n).length = 70002 := by omega
  have h3 : ¬ 70000 < (badL s c n).length := by omega
  simp [h2, h3]
theorem badL_no10 {s : List UInt8} (hs : Fine s) {c : UInt8} (hc : c ≠ 10) (n : Nat) : ∀ x ∈ badL s c n, x ≠ 10 := by
  intro x hx e
  rcases badL_mem hx with h | h | h
  · exact hs.no 10 (by decide) x h e
  · exact hc (by rw [← h, e])
  · rw [h] at e; exact absurd e (by decide)
/-- The lines as they are put, the k-th with the byte. -/
def badF (f : Nat → List UInt8) (c : UInt8) (k n1 i : Nat) : List UInt8 := if i = k then badL ((f i).map fine) c (n1 % ((f i).length + 1)) else (f i).map fine
/-- The lines as they come out. -/
def badOut (f : Nat → List UInt8) (c : UInt8) (k n1 i : Nat) : List UInt8 × Bool := if oddB c = true ∧ i = k then ([], true) else (badF f c k n1 i, false)
theorem bad_puts {f : Nat → List UInt8} {c : UInt8} (hc : c ≠ 10) (k n1 : Nat) {n : Nat} (h : ∀ i, i < n → (f i).length ≤ 100) : putB [] (endB (badF f c k n1) (fun _ => false) n) = (List.range n).map (badOut f c k n1) ∧ restB [] (endB (badF f c k n1) (fun _ => false) n) = [] := by
  have hno : ∀ i, i < n → ∀ x ∈ badF f c k n1 i, x ≠ 10 := by
    intro i hi
    unfold badF
    split
    · exact badL_no10 (fine_map _) hc _
    · exact (fine_map _).no 10 (by decide)
  have hp := endB_put (cr := fun _ => false) hno
  refine ⟨?_, hp.2⟩
  rw [hp.1]
  apply List.map_congr_left
  intro i hi
  have hi := List.mem_range.1 hi
  simp only [Bool.false_eq_true, if_false, List.append_nil]
  unfold badOut badF
  by_cases e : i = k
  · simp only [if_pos e]
    rw [bad_line (fine_map _) (by have := h i hi; simp; omega) c (by have := Nat.mod_lt n1 (show (f i).length + 1 > 0 by omega); simp; omega)]
    simp [e]
  · simp only [if_neg e]
    have := fine_line (fine_map (f i)) (by have := h i hi; simp; omega) false
    simp only [Bool.false_eq_true, if_false, List.append_nil] at this
    rw [this]
    simp [e]
theorem EndsM.keep {w1 wr w3 : World} {ab : Option Addr} {nb cb : Nat} {bl : List UInt8} {aw : Option Addr} {nw cw : Nat} {wl : List (List UInt8)} (h : EndsM w1 wr ab nb cb bl aw nw cw wl) (hc : Chg Non wr w3) : EndsM w1 w3 ab nb cb bl aw nw cw wl :=
  ⟨h.ob.chg hc (fun _ _ h => h), h.ow.chg hc (fun _ _ h => h), h.sep, h.chg.trans hc⟩
end Go.Proofs.Ytjjppbfknjeddaa
