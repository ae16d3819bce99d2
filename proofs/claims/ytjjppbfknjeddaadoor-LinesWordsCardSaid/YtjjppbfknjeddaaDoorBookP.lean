/- Lists kept in a book: how they lie in memory. -/
import Derived.Test.YtjjppbfknjeddaaDoorTwin
import Derived.Test.YtjjppbfknjeddaaDoorOwnZ
namespace Go.Proofs.YtjjppbfknjeddaaDoor
open Go.RowKit
set_option linter.unusedVariables false
set_option linter.unusedSimpArgs false
/-- A list that is kept: where it lies, the list that it became, its number. -/
structure Held where
  a : Option Addr
  n : Nat
  c : Nat
  la : Option Addr
  ln : Nat
  lc : Nat
  no : Nat
def Held.cells (h : Held) : List Value := [.slice h.a h.n h.c, .slice h.la h.ln h.lc, .int .i64 (h.no : Int)]
def heldRow (L : List Held) : List Value := L.flatMap Held.cells
theorem heldRow_length (L : List Held) : (heldRow L).length = L.length * 3 := by
  induction L with
  | nil => rfl
  | cons h L ih => simp only [heldRow, List.flatMap_cons, List.length_append, List.length_cons] at ih ⊢; rw [ih]; simp [Held.cells]; omega
theorem heldRow_append (L M : List Held) : heldRow (L ++ M) = heldRow L ++ heldRow M := by simp [heldRow]
theorem heldRow_get {L : List Held} {j : Nat} {h : Held} (hj : L[j]? = some h) : (heldRow L)[j * 3]? = some (.slice h.a h.n h.c) ∧ (heldRow L)[j * 3 + 1]? = some (.slice h.la h.ln h.lc) ∧ (heldRow L)[j * 3 + 2]? = some (.int .i64 (h.no : Int)) := by
  obtain ⟨hlt, e⟩ := List.getElem?_eq_some_iff.1 hj
  have hs : heldRow L = heldRow (L.take j) ++ (h.cells ++ heldRow (L.drop (j + 1))) := by
    have h2 : L.drop j = h :: L.drop (j + 1) := by rw [List.drop_eq_getElem_cons hlt, e]
    have h3 : heldRow L = heldRow (L.take j) ++ heldRow (L.drop j) := by rw [← heldRow_append, List.take_append_drop]
    rw [h3, h2]; rfl
  have hl : (heldRow (L.take j)).length = j * 3 := by rw [heldRow_length, List.length_take]; congr 1; omega
  rw [hs]
  refine ⟨?_, ?_, ?_⟩
  · rw [List.getElem?_append_right (by omega), hl, Nat.sub_self]; rfl
  · rw [List.getElem?_append_right (by omega), hl, Nat.add_sub_cancel_left]; rfl
  · rw [List.getElem?_append_right (by omega), hl, Nat.add_sub_cancel_left]; rfl
theorem heldRow_set {L : List Held} {j : Nat} {h : Held} (hj : L[j]? = some h) (la : Option Addr) (ln lc : Nat) : (heldRow L).set (j * 3 + 1) (.slice la ln lc) = heldRow (L.set j { h with la := la, ln := ln, lc := lc }) := by
  obtain ⟨hlt, e⟩ := List.getElem?_eq_some_iff.1 hj
  have h2 : L.drop j = h :: L.drop (j + 1) := by rw [List.drop_eq_getElem_cons hlt, e]
  have h3 : heldRow L = heldRow (L.take j) ++ (h.cells ++ heldRow (L.drop (j + 1))) := by
    rw [show heldRow L = heldRow (L.take j) ++ heldRow (L.drop j) by rw [← heldRow_append, List.take_append_drop], h2]; rfl
  have h4 : L.set j { h with la := la, ln := ln, lc := lc } = L.take j ++ ({ h with la := la, ln := ln, lc := lc } :: L.drop (j + 1)) := List.set_eq_take_append_cons_drop.trans (by rw [if_pos hlt])
  have hl : (heldRow (L.take j)).length = j * 3 := by rw [heldRow_length, List.length_take]; congr 1; omega
  rw [h3, h4, heldRow_append, List.set_append, if_neg (by omega), hl, Nat.add_sub_cancel_left]
  rfl
/-- The book's own cells; lists of bytes, of bools, of texts. -/
def bookRow (n : Nat) (s1 s4 s5 : Value) : Array Value := #[.int .i64 (n : Int), s1, .slice none 0 0, .slice none 0 0, s4, s5, .slice none 0 0, .slice none 0 0, .slice none 0 0, .slice none 0 0, .slice none 0 0, .slice none 0 0, .slice none 0 0]
def BookAt (w : World) (k n : Nat) (s1 s4 s5 : Value) : Prop := w.heap[k]? = some (.cells (bookRow n s1 s4 s5) 39 (0, 0))
theorem BookAt.cell {w : World} {k n : Nat} {s1 s4 s5 : Value} (h : BookAt w k n s1 s4 s5) (j : Nat) : w.cell? ⟨k, j, none⟩ = (bookRow n s1 s4 s5)[j]? := cell_of_row w k j _ _ _ h
theorem BookAt.fr {w : World} {k n : Nat} {s1 s4 s5 : Value} (h : BookAt w k n s1 s4 s5) (j : Nat) : w.frozen? ⟨k, j, none⟩ = false := frozen_of_row w k j _ _ h
theorem BookAt.lt {w : World} {k n : Nat} {s1 s4 s5 : Value} (h : BookAt w k n s1 s4 s5) : k < w.heap.size := (Array.getElem?_eq_some_iff.1 h).1
theorem BookAt.chg {S : Nat → Prop} {w w' : World} {k n : Nat} {s1 s4 s5 : Value} (h : BookAt w k n s1 s4 s5) (hc : Chg S w w') (hn : ¬ S k) : BookAt w' k n s1 s4 s5 := (hc.block k h.lt hn).trans h
def AnyH (w : World) (B : Nat) (e : TypeId) (h : Held) : Prop := ∃ X, OwnZ w B e h.a h.n h.c X
def FullH (w : World) (B : Nat) (e : TypeId) (mk : Nat → Value) (h : Held) : Prop := OwnZ w B e h.a h.n h.c (List.replicate h.n (mk h.no))
def LongH (w : World) (B : Nat) (e : TypeId) (mk : Nat → Value) (h : Held) : Prop := h.ln = h.n + 40 ∧ Own w B e 1 h.la h.ln h.lc (List.replicate (h.n + 40) (mk h.no))
def SepH (L : List Held) : Prop := L.Pairwise (fun g h => ∀ q, some q = blkZ g.a g.c → ¬ some q = blkZ h.a h.c)
def hBlk (L : List Held) (q : Nat) : Prop := ∃ h ∈ L, some q = blkZ h.a h.c
/-- Rows of different types lie in different blocks. -/
theorem own_apart {w : World} {B B2 : Nat} {e e2 : TypeId} {sz sz2 : Nat} {ao a2 : Option Addr} {n cap n2 c2 : Nat} {xs ys : List Value} (h : Own w B e sz ao n cap xs) (k : Own w B2 e2 sz2 a2 n2 c2 ys) (hne : e ≠ e2) : ∀ q, some q = blk ao → ¬ some q = blk a2 := by
  intro q h1 h2
  obtain ⟨_, _, _, _, h5⟩ := h
  obtain ⟨_, _, _, _, k5⟩ := k
  cases ao with
  | none => simp [blk] at h1
  | some a =>
    cases a2 with
    | none => simp [blk] at h2
    | some b =>
      obtain ⟨g, cur, rfl, _, hg, _⟩ := h5 a rfl
      obtain ⟨g2, cur2, rfl, _, hg2, _⟩ := k5 b rfl
      simp [blk] at h1 h2
      subst h1 h2
      rw [hg] at hg2
      simp only [Option.some.injEq, Obj.cells.injEq] at hg2
      exact hne hg2.2.1
theorem own_row {w : World} {B : Nat} {e e2 : TypeId} {sz : Nat} {ao : Option Addr} {n cap : Nat} {xs : List Value} (h : Own w B e sz ao n cap xs) {k : Nat} {cs : Array Value} (hk : w.heap[k]? = some (.cells cs e2 (0, 0))) (hne : e ≠ e2) : ∀ i, some i = blk ao → i ≠ k := by
  intro i hi e0
  subst e0
  obtain ⟨_, _, _, _, q⟩ := h
  cases ao with
  | none => simp [blk] at hi
  | some a =>
    obtain ⟨gg, cur, rfl, _, hq, _⟩ := q a rfl
    simp [blk] at hi
    subst hi
    rw [hk] at hq
    simp only [Option.some.injEq, Obj.cells.injEq] at hq
    exact hne hq.2.1.symm
theorem ownZ_apart {w : World} {B B2 : Nat} {e e2 : TypeId} {sz2 : Nat} {ao a2 : Option Addr} {n cap n2 c2 : Nat} {xs ys : List Value} (h : OwnZ w B e ao n cap xs) (k : Own w B2 e2 sz2 a2 n2 c2 ys) (hne : e ≠ e2) : ∀ q, some q = blkZ ao cap → ¬ some q = blk a2 := by
  intro q h1
  rcases h.case with ⟨hp, h⟩ | ⟨_, rfl, _⟩
  · rw [blkZ_pos hp] at h1; exact own_apart h k hne q h1
  · rw [blkZ_zero] at h1; cases h1
theorem ownZ_row {w : World} {B : Nat} {e e2 : TypeId} {ao : Option Addr} {n cap : Nat} {xs : List Value} (h : OwnZ w B e ao n cap xs) {k : Nat} {cs : Array Value} (hk : w.heap[k]? = some (.cells cs e2 (0, 0))) (hne : e ≠ e2) : ∀ q, some q = blkZ ao cap → q ≠ k := by
  intro q h1
  rcases h.case with ⟨hp, h⟩ | ⟨_, rfl, _⟩
  · rw [blkZ_pos hp] at h1; exact own_row h hk hne q h1
  · rw [blkZ_zero] at h1; cases h1
theorem AnyH.chg {S : Nat → Prop} {w w' : World} {B : Nat} {e : TypeId} {h : Held} (k : AnyH w B e h) (hc : Chg S w w') (hn : ∀ q, some q = blkZ h.a h.c → ¬ S q) : AnyH w' B e h := by
  obtain ⟨X, hX⟩ := k; exact ⟨X, hX.chg hc hn⟩
theorem SepH.snoc {L : List Held} (h : SepH L) {g : Held} (hn : ∀ q, some q = blkZ g.a g.c → ∀ x ∈ L, ¬ some q = blkZ x.a x.c) : SepH (L ++ [g]) := by
  unfold SepH
  rw [List.pairwise_append]
  refine ⟨h, List.pairwise_singleton _ _, fun u hu v hv q hq e => ?_⟩
  simp only [List.mem_singleton] at hv
  subst hv
  exact hn q e u hu hq
theorem SepH.ne {L : List Held} (h : SepH L) {q j : Nat} {a g : Held} (hq : L[q]? = some a) (hj : L[j]? = some g) (hne : q ≠ j) : ∀ y, some y = blkZ a.a a.c → ¬ some y = blkZ g.a g.c := by
  obtain ⟨l1, e1⟩ := List.getElem?_eq_some_iff.1 hq
  obtain ⟨l2, e2⟩ := List.getElem?_eq_some_iff.1 hj
  unfold SepH at h
  rw [List.pairwise_iff_getElem] at h
  intro y h1 h2
  rcases Nat.lt_or_gt_of_ne hne with hlt | hlt
  · have := h q j l1 l2 hlt y
    rw [e1, e2] at this
    exact this h1 h2
  · have := h j q l2 l1 hlt y
    rw [e1, e2] at this
    exact this h2 h1
theorem FullH.any {w : World} {B : Nat} {e : TypeId} {mk : Nat → Value} {h : Held} (k : FullH w B e mk h) : AnyH w B e h := ⟨_, k⟩
theorem FullH.chg {S : Nat → Prop} {w w' : World} {B : Nat} {e : TypeId} {mk : Nat → Value} {h : Held} (k : FullH w B e mk h) (hc : Chg S w w') (hn : ∀ q, some q = blkZ h.a h.c → ¬ S q) : FullH w' B e mk h := OwnZ.chg k hc hn
theorem rep_set {m : Nat} {X : List Value} (hX : 0 < X.length) (v : Value) : (List.replicate m v ++ X).set m v = List.replicate (m + 1) v ++ X.tail := by
  cases X with
  | nil => simp at hX
  | cons y X =>
    rw [List.set_append, if_neg (by simp), List.length_replicate, Nat.sub_self, List.set_cons_zero, List.tail_cons, List.replicate_succ', List.append_assoc]
    rfl
def keyH (h : Held) : Option Addr × Nat × Nat × Nat := (h.a, h.n, h.c, h.no)
theorem SepH.keys {L M : List Held} (h : SepH L) (hk : M.map keyH = L.map keyH) : SepH M := by
  unfold SepH at h ⊢
  have e : ∀ N : List Held, (N.Pairwise (fun g h => ∀ q, some q = blkZ g.a g.c → ¬ some q = blkZ h.a h.c)) ↔ ((N.map keyH).Pairwise (fun g h => ∀ q, some q = blkZ g.1 g.2.2.1 → ¬ some q = blkZ h.1 h.2.2.1)) := by
    intro N; rw [List.pairwise_map]; rfl
  rw [e, hk, ← e]
  exact h
theorem keys_set {L : List Held} {j : Nat} {g : Held} (hj : L[j]? = some g) (la : Option Addr) (ln lc : Nat) : (L.set j { g with la := la, ln := ln, lc := lc }).map keyH = L.map keyH := by
  apply List.ext_getElem?
  intro i
  rw [List.getElem?_map, List.getElem?_map, List.getElem?_set]
  by_cases e : j = i
  · subst e
    rw [if_pos rfl, hj, if_pos (List.getElem?_eq_some_iff.1 hj).1]
    rfl
  · rw [if_neg e]
theorem keys_blk {L M : List Held} (hk : M.map keyH = L.map keyH) {q : Nat} (h : hBlk M q) : hBlk L q := by
  obtain ⟨g, hg, hq⟩ := h
  have hm : keyH g ∈ L.map keyH := by rw [← hk]; exact List.mem_map.2 ⟨g, hg, rfl⟩
  obtain ⟨g', hg', e⟩ := List.mem_map.1 hm
  refine ⟨g', hg', ?_⟩
  simp only [keyH, Prod.mk.injEq] at e
  rw [e.1, e.2.2.1]; exact hq
theorem keys_no {L M : List Held} (hk : M.map keyH = L.map keyH) {N : Nat} (h : ∀ g ∈ L, g.no ≤ N) : ∀ g ∈ M, g.no ≤ N := by
  intro g hg
  have hm : keyH g ∈ L.map keyH := by rw [← hk]; exact List.mem_map.2 ⟨g, hg, rfl⟩
  obtain ⟨g', hg', e⟩ := List.mem_map.1 hm
  simp only [keyH, Prod.mk.injEq] at e
  rw [← e.2.2.2]; exact h g' hg'
theorem keys_n {L M : List Held} (hk : M.map keyH = L.map keyH) {N : Nat} (h : ∀ g ∈ L, g.n ≤ N) : ∀ g ∈ M, g.n ≤ N := by
  intro g hg
  have hm : keyH g ∈ L.map keyH := by rw [← hk]; exact List.mem_map.2 ⟨g, hg, rfl⟩
  obtain ⟨g', hg', e⟩ := List.mem_map.1 hm
  simp only [keyH, Prod.mk.injEq] at e
  rw [← e.2.1]; exact h g' hg'
theorem LongH.chg {S : Nat → Prop} {w w' : World} {B : Nat} {e : TypeId} {mk : Nat → Value} {h : Held} (k : LongH w B e mk h) (hc : Chg S w w') (hn : ∀ q, some q = blk h.la → ¬ S q) : LongH w' B e mk h := ⟨k.1, k.2.chg hc hn⟩
theorem heldCell {w : World} {B : Nat} {e : TypeId} {hb : Option Addr} {hc : Nat} {L : List Held} (h : Own w B e 3 hb L.length hc (heldRow L)) {j : Nat} {g : Held} (hj : L[j]? = some g) :
    ∃ b, hb = some ⟨b, 0, none⟩ ∧ b < w.heap.size ∧ w.cell? ⟨b, j * 3, none⟩ = some (.slice g.a g.n g.c) ∧ w.cell? ⟨b, j * 3 + 1, none⟩ = some (.slice g.la g.ln g.lc) ∧ w.cell? ⟨b, j * 3 + 2, none⟩ = some (.int .i64 (g.no : Int)) := by
  have hl := (List.getElem?_eq_some_iff.1 hj).1
  obtain ⟨b, e1, _, e3, _, e4, _⟩ := h.form (by have := h.le; omega)
  obtain ⟨k1, k2, k3⟩ := heldRow_get hj
  exact ⟨b, e1, e3, (e4 _ (by omega)).trans k1, (e4 _ (by omega)).trans k2, (e4 _ (by omega)).trans k3⟩
end Go.Proofs.YtjjppbfknjeddaaDoor
