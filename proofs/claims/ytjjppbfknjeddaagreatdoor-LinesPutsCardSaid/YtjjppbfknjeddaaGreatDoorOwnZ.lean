/- Rows that are owned, or of no cell at all. -/
import Derived.Test.YtjjppbfknjeddaaGreatDoorLib
namespace Go.Proofs.YtjjppbfknjeddaaGreatDoor
open Go.RowKit
set_option linter.unusedVariables false
set_option linter.unusedSimpArgs false
/-- Owned, or of no cell at all. -/
def OwnZ (w : World) (B : Nat) (e : TypeId) (ao : Option Addr) (n cap : Nat) (xs : List Value) : Prop := Own w B e 1 ao n cap xs ∨ (n = 0 ∧ cap = 0 ∧ xs = [])
/-- The block, if there is a cell. -/
def blkZ (ao : Option Addr) (cap : Nat) : Option Nat := if cap = 0 then none else blk ao
def blkV : Value → Option Nat
  | .slice a _ c => blkZ a c
  | _ => none
theorem blkZ_zero (ao : Option Addr) : blkZ ao 0 = none := rfl
theorem blkZ_pos {ao : Option Addr} {cap : Nat} (h : 0 < cap) : blkZ ao cap = blk ao := by unfold blkZ; rw [if_neg (by omega)]
theorem OwnZ.case {w : World} {B : Nat} {e : TypeId} {ao : Option Addr} {n cap : Nat} {xs : List Value} (h : OwnZ w B e ao n cap xs) : (0 < cap ∧ Own w B e 1 ao n cap xs) ∨ (n = 0 ∧ cap = 0 ∧ xs = []) := by
  rcases h with h | h
  · by_cases hp : 0 < cap
    · exact .inl ⟨hp, h⟩
    · have h1 := h.2.1
      have h2 := h.1
      refine .inr ⟨by omega, by omega, List.eq_nil_of_length_eq_zero (by omega)⟩
  · exact .inr h
theorem OwnZ.same {w w' : World} {B : Nat} {e : TypeId} {ao : Option Addr} {n cap : Nat} {xs : List Value} (h : OwnZ w B e ao n cap xs) (hk : ∀ k, some k = blkZ ao cap → w'.heap[k]? = w.heap[k]?) : OwnZ w' B e ao n cap xs := by
  rcases h.case with ⟨hp, h⟩ | h
  · exact .inl (h.same (fun k hk' => hk k (by rw [blkZ_pos hp]; exact hk')))
  · exact .inr h
theorem OwnZ.lt {w : World} {B : Nat} {e : TypeId} {ao : Option Addr} {n cap : Nat} {xs : List Value} (h : OwnZ w B e ao n cap xs) : ∀ k, some k = blkZ ao cap → B ≤ k ∧ k < w.heap.size := by
  intro k hk
  rcases h.case with ⟨hp, h⟩ | ⟨_, rfl, _⟩
  · rw [blkZ_pos hp] at hk; exact h.lt k hk
  · rw [blkZ_zero] at hk; cases hk
theorem OwnZ.chg {S : Nat → Prop} {w w' : World} {B : Nat} {e : TypeId} {ao : Option Addr} {n cap : Nat} {xs : List Value} (h : OwnZ w B e ao n cap xs) (hc : Chg S w w') (hn : ∀ k, some k = blkZ ao cap → ¬ S k) : OwnZ w' B e ao n cap xs :=
  h.same fun k hk => hc.block k (h.lt k hk).2 (hn k hk)
theorem OwnZ.mono {w : World} {B B' : Nat} {e : TypeId} {ao : Option Addr} {n cap : Nat} {xs : List Value} (h : OwnZ w B e ao n cap xs) (hB : B' ≤ B) : OwnZ w B' e ao n cap xs := h.imp (fun h => h.mono hB) id
theorem OwnZ.clip {w : World} {B : Nat} {e : TypeId} {ao : Option Addr} {n cap : Nat} {xs : List Value} (h : OwnZ w B e ao n cap xs) : OwnZ w B e ao n n xs := by
  rcases h.case with ⟨hp, h⟩ | ⟨rfl, rfl, rfl⟩
  · obtain ⟨h1, h2, h3, h4, h5⟩ := h
    by_cases hn : n = 0
    · subst hn
      exact .inr ⟨rfl, rfl, List.eq_nil_of_length_eq_zero (by omega)⟩
    · refine .inl ⟨h1, Nat.le_refl _, by omega, fun e => by have := h4 e; omega, fun a ha => ?_⟩
      obtain ⟨g, cur, e1, e2, e3, e4, e5⟩ := h5 a ha
      exact ⟨g, cur, e1, e2, e3, by omega, e5⟩
  · exact .inr ⟨rfl, rfl, rfl⟩
theorem OwnZ.len {w : World} {B : Nat} {e : TypeId} {ao : Option Addr} {n cap : Nat} {xs : List Value} (h : OwnZ w B e ao n cap xs) : xs.length = n ∧ n ≤ cap ∧ cap ≤ maxLen := by
  rcases h.case with ⟨hp, h⟩ | ⟨rfl, rfl, rfl⟩
  · exact ⟨by have := h.1; omega, h.2.1, h.2.2.1⟩
  · exact ⟨rfl, Nat.le_refl _, Nat.zero_le _⟩
theorem OwnZ.rd {w : World} {B : Nat} {e : TypeId} {ao : Option Addr} {n cap : Nat} {bs : List UInt8} (h : OwnZ w B e ao n cap (bs.map bv)) : ∃ g, (0 < cap → some g = blk ao) ∧ Rd w g ao n cap bs := by
  rcases h.case with ⟨hp, h⟩ | ⟨rfl, rfl, hx⟩
  · exact Rd.of_Own h
  · obtain rfl : bs = [] := by simpa using hx
    exact ⟨0, fun h => by omega, rfl, Nat.le_refl _, Nat.zero_le _, fun _ => rfl, fun h => by omega⟩
theorem row_set2 {w : World} {g : Nat} {cur : Array Value} {e : TypeId} (h : w.heap[g]? = some (.cells cur e (0, 0))) (k : Nat) (v : Value) : (w.setCell ⟨g, k, none⟩ v).heap[g]? = some (.cells (cur.setIfInBounds k v) e (0, 0)) := by
  show (w.heap.modify g _)[g]? = _
  rw [Array.getElem?_modify, if_pos rfl, h]
  rfl
/-- One cell stored. -/
theorem Own.set {w : World} {B : Nat} {e : TypeId} {sz : Nat} {g n cap : Nat} {xs : List Value} (h : Own w B e sz (some ⟨g, 0, none⟩) n cap xs) {j : Nat} (hj : j < n * sz) (v : Value) : Own (w.setCell ⟨g, j, none⟩ v) B e sz (some ⟨g, 0, none⟩) n cap (xs.set j v) := by
  obtain ⟨h1, h2, h3, h4, h5⟩ := h
  refine ⟨by simpa using h1, h2, h3, h4, fun a ha => ?_⟩
  obtain ⟨g', cur, e1, e2, e3, e4, e5⟩ := h5 a ha
  cases ha
  cases e1
  refine ⟨g, cur.setIfInBounds j v, rfl, e2, ?_, by simpa using e4, ?_⟩
  · rw [row_set2 e3]
  · rw [← e5]
    simp only [Array.toList_setIfInBounds]
    rw [List.take_set]
theorem OwnZ.pos {w : World} {B : Nat} {e : TypeId} {ao : Option Addr} {n cap : Nat} {xs : List Value} (h : OwnZ w B e ao n cap xs) (hn : 0 < n) : Own w B e 1 ao n cap xs ∧ ∃ g, ao = some ⟨g, 0, none⟩ ∧ B ≤ g ∧ g < w.heap.size ∧ blkZ ao cap = some g := by
  have hl := h.len
  rcases h.case with ⟨hp, h⟩ | ⟨rfl, _⟩
  · obtain ⟨g, e1, e2, e3, _⟩ := h.form hp
    exact ⟨h, g, e1, e2, e3, by rw [blkZ_pos hp, e1]; rfl⟩
  · omega
end Go.Proofs.YtjjppbfknjeddaaGreatDoor
