/- Rows of bytes, read; lines that may be, put together. -/
import Derived.Test.YtjjppbfknjeddaaOpen
import Derived.Test.YtjjppbfknjeddaaLinesLong
import Derived.Deep.Slices
namespace Go.Proofs.Ytjjppbfknjeddaa
open Go.ChangeShapes Go.WideShapes Go.ChangeAt Go.RowKit Go.Deep
set_option linter.unusedVariables false
set_option linter.unusedSimpArgs false
/-- One row of bytes. -/
def RowB (w : World) (b o : Nat) (xs : List UInt8) : Prop := ∃ (a : Option Addr) (m c bb : Nat), w.cell? ⟨b, o, none⟩ = some (.slice a m c) ∧ Rd w bb a m c xs ∧ (0 < m → bb < w.heap.size)
def BsB (w : World) (ao : Option Addr) (n cap : Nat) (f : Nat → List UInt8) : Prop := n ≤ cap ∧ cap ≤ maxLen ∧ (0 < n → ∃ b off, ao = some ⟨b, off, none⟩ ∧ b < w.heap.size ∧ ∀ i, i < n → RowB w b (off + i) (f i))
theorem RowB.chg {w w' : World} {b o : Nat} {xs : List UInt8} (h : RowB w b o xs) (hc : Chg Non w w') (hb : b < w.heap.size) : RowB w' b o xs := by
  obtain ⟨a, m, c, bb, h1, h2, h3⟩ := h
  exact ⟨a, m, c, bb, (hc.cell (p := ⟨b, o, none⟩) hb (fun h => h)).trans h1, h2.same (fun hp => hc.block _ (h3 hp) (fun h => h)), fun hp => Nat.lt_of_lt_of_le (h3 hp) hc.size⟩
theorem BsB.chg {w w' : World} {ao : Option Addr} {n cap : Nat} {f : Nat → List UInt8} (h : BsB w ao n cap f) (hc : Chg Non w w') : BsB w' ao n cap f := by
  obtain ⟨h1, h2, h3⟩ := h
  refine ⟨h1, h2, fun hp => ?_⟩
  obtain ⟨b, off, rfl, hb, hk⟩ := h3 hp
  exact ⟨b, off, rfl, Nat.lt_of_lt_of_le hb hc.size, fun i hi => (hk i hi).chg hc hb⟩
theorem open_bs {H : Type} {enc : TypeId × Value → H} {w : World} {held : Bool} {ao : Option Addr} {len cap : Nat} {d : DataW H} {p : List MemPlace}
    (h : DataW.Trod enc Try.prog w 0 (fun _ => true) held 38 (.slice ao len cap) d p) : ∃ f, BsB w ao len cap f := by
  obtain ⟨fuel, hf⟩ := h
  have hcells : Try.prog.cellsOf 22 = 1 := by kernel_rfl
  rcases open_slice Try.underlying38 hf with ⟨hcs, _⟩ | ⟨x, l, c, m, n, D, Pl, hcs, _, hl, hm, hmm, _, hel⟩
  · simp [Value.cells] at hcs
    obtain ⟨rfl, rfl, rfl⟩ := hcs
    exact ⟨fun _ => [], Nat.le_refl _, Nat.zero_le _, fun h => by omega⟩
  · simp [Value.cells] at hcs
    obtain ⟨rfl, rfl, rfl⟩ := hcs
    simp only [if_true] at hmm
    subst hmm
    rw [hcells] at hel
    have hrow : ∀ i, i < len → ∃ (c0 : Value) (xs : List UInt8) (a : Option Addr) (m c bb : Nat), w.cell? (x.add (i * 1)) = some c0 ∧ c0 = .slice a m c ∧ Rd w bb a m c xs ∧ (0 < m → bb < w.heap.size) := by
      intro i hi
      obtain ⟨cs', h1, h2⟩ := hel i (by omega)
      obtain ⟨_, hlen, hc⟩ := World.cells?_some h1
      match cs', hlen with
      | [c0], _ =>
        rcases open_ints Try.underlying22 Try.underlying5 (by kernel_rfl) h2 with ⟨hcs, _⟩ | ⟨x1, l1, cc1, zs, hcs, _, hl1, hm1, hz, _, hcell1, hwz⟩
        · simp at hcs
          subst hcs
          exact ⟨_, [], none, 0, 0, 0, by simpa [Addr.add] using hc 0 (by simp), rfl, Rd.nil _ _, fun h => by omega⟩
        · simp at hcs
          subst hcs
          obtain ⟨bb, bs, hr, hb⟩ := Rd.of_ints hl1 hm1 (by simpa using hz) hcell1 hwz
          exact ⟨_, bs, _, _, _, bb, by simpa [Addr.add] using hc 0 (by simp), rfl, hr, fun hp => hb (by omega)⟩
    have hch : ∃ f : Nat → List UInt8, ∀ i, i < len → ∃ (c0 : Value) (a : Option Addr) (m c bb : Nat), w.cell? (x.add (i * 1)) = some c0 ∧ c0 = .slice a m c ∧ Rd w bb a m c (f i) ∧ (0 < m → bb < w.heap.size) := by
      refine ⟨fun i => if h : i < len then (hrow i h).choose_spec.choose else [], fun i hi => ?_⟩
      obtain ⟨a, m, c, bb, h1⟩ := (hrow i hi).choose_spec.choose_spec
      exact ⟨_, a, m, c, bb, by simpa only [dif_pos hi] using h1⟩
    obtain ⟨f, hf⟩ := hch
    refine ⟨f, hl, hm, fun hp => ?_⟩
    obtain ⟨b, off, spot⟩ := x
    obtain ⟨c0, _, _, _, _, h0, _⟩ := hf 0 hp
    have hspot : spot = none := by simpa [Addr.add] using World.cell?_spot h0
    subst hspot
    refine ⟨b, off, rfl, by simpa [Addr.add] using World.block_lt_of_cell? w _ h0, fun i hi => ?_⟩
    obtain ⟨c0, a, m, c, bb, h1, rfl, h2, h3⟩ := hf i hi
    rw [Addr.add_lit, Nat.mul_one] at h1
    exact ⟨a, m, c, bb, h1, h2, h3⟩
def fine (c : UInt8) : UInt8 := UInt8.ofNat (32 + c.toNat % 95)
theorem fine_nat (c : UInt8) : (fine c).toNat = 32 + c.toNat % 95 := by unfold fine; rw [UInt8.toNat_ofNat']; omega
/-- A text of bytes that may be, with neither 10 nor 13. -/
def Fine (l : List UInt8) : Prop := ∀ c ∈ l, 32 ≤ c.toNat ∧ c.toNat ≤ 126
theorem fine_map (l : List UInt8) : Fine (l.map fine) := by
  intro c hc
  obtain ⟨x, _, rfl⟩ := List.mem_map.1 hc
  rw [fine_nat]; omega
theorem Fine.ok {l : List UInt8} (h : Fine l) : l.any oddB = false := by
  rw [List.any_eq_false]
  intro c hc
  have := h c hc
  unfold oddB
  have h1 : ¬ c.toNat < 32 := by omega
  have h2 : ¬ 126 < c.toNat := by omega
  simp [h1, h2]
theorem Fine.no {l : List UInt8} (h : Fine l) (z : UInt8) (hz : z.toNat < 32) : ∀ c ∈ l, c ≠ z := fun c hc e => by have := h c hc; subst e; omega
theorem fine_line {l : List UInt8} (h : Fine l) (hl : l.length ≤ 60000) (cr : Bool) : lineB (keepB [] (l ++ if cr then [13] else [])) = (l, false) := by
  have hn : (l ++ if cr then [13] else []).length ≤ 60001 := by cases cr <;> simp <;> omega
  rw [keepB_short (by omega)]
  have ht : trimCR (l ++ if cr then [13] else []) = l := by
    cases cr
    · simp only [Bool.false_eq_true, if_false, List.append_nil]; exact trimCR_no (h.no 13 (by decide))
    · exact trimCR_snoc _
  rw [lineB_eq _ ht]
  have h1 : ¬ (l ++ if cr then [13] else []).length = 70002 := by omega
  have h2 : ¬ 70000 < l.length := by omega
  simp only [h1, h2, h.ok]
  simp
theorem cr_no10 {l : List UInt8} (h : ∀ c ∈ l, c ≠ 10) (cr : Bool) : ∀ c ∈ (l ++ if cr then [13] else []), c ≠ 10 := by
  intro c hc
  rcases List.mem_append.1 hc with hc | hc
  · exact h c hc
  · cases cr
    · simp at hc
    · simp at hc; subst hc; decide
/-- The lines, each with its end. -/
def endB (f : Nat → List UInt8) (cr : Nat → Bool) : Nat → List UInt8
  | 0 => []
  | j + 1 => endB f cr j ++ ((f j ++ if cr j then [13] else []) ++ [10])
/-- Line by line: each is a whole one. -/
theorem endB_put {f : Nat → List UInt8} {cr : Nat → Bool} : ∀ {n : Nat}, (∀ i, i < n → ∀ c ∈ f i, c ≠ 10) → putB [] (endB f cr n) = (List.range n).map (fun i => lineB (keepB [] (f i ++ if cr i then [13] else []))) ∧ restB [] (endB f cr n) = []
  | 0, _ => ⟨rfl, rfl⟩
  | n + 1, h => by
    have ih := endB_put (f := f) (cr := cr) (n := n) (fun i hi => h i (by omega))
    have h1 := put_line (cr_no10 (h n (by omega)) (cr n)) []
    unfold endB
    have h2 := putB_append (endB f cr n) [] ((f n ++ if cr n then [13] else []) ++ [10])
    rw [ih.1, ih.2, h1.1, h1.2] at h2
    refine ⟨?_, h2.2⟩
    rw [h2.1, List.range_succ, List.map_append]
    rfl
theorem endB_fine {f : Nat → List UInt8} {cr : Nat → Bool} {n : Nat} (h : ∀ i, i < n → Fine (f i) ∧ (f i).length ≤ 60000) : putB [] (endB f cr n) = (List.range n).map (fun i => (f i, false)) ∧ restB [] (endB f cr n) = [] := by
  have := endB_put (f := f) (cr := cr) (n := n) (fun i hi => (h i hi).1.no 10 (by decide))
  refine ⟨?_, this.2⟩
  rw [this.1]
  apply List.map_congr_left
  intro i hi
  have hi := List.mem_range.1 hi
  exact fine_line (h i hi).1 (h i hi).2 _
theorem endB_congr {f : Nat → List UInt8} {c1 c2 : Nat → Bool} : ∀ {j : Nat}, (∀ i, i < j → c1 i = c2 i) → endB f c1 j = endB f c2 j
  | 0, _ => rfl
  | j + 1, h => by unfold endB; rw [endB_congr (fun i hi => h i (by omega)), h j (by omega)]
theorem endB_set (f : Nat → List UInt8) (cr : Nat → Bool) (j : Nat) (c : Bool) : endB f (fun i => if i = j then c else cr i) (j + 1) = endB f cr j ++ ((f j ++ if c then [13] else []) ++ [10]) := by
  show endB f (fun i => if i = j then c else cr i) j ++ ((f j ++ if (if j = j then c else cr j) then [13] else []) ++ [10]) = _
  rw [endB_congr (c2 := cr) (fun i hi => if_neg (by omega)), if_pos rfl]
/-- The bytes and the texts while they are made. -/
structure EndsM (w1 wr : World) (ab : Option Addr) (nb cb : Nat) (bl : List UInt8) (aw : Option Addr) (nw cw : Nat) (wl : List (List UInt8)) : Prop where
  ob : Own wr w1.heap.size 5 1 ab nb cb (bl.map bv)
  ow : Own wr w1.heap.size 9 1 aw nw cw (wl.map tv)
  sep : ∀ k, some k = blk ab → ¬ some k = blk aw
  chg : Chg Non w1 wr
theorem EndsM.bytes {w1 wr w0 w3 : World} {ab : Option Addr} {nb cb : Nat} {bl : List UInt8} {aw : Option Addr} {nw cw : Nat} {wl : List (List UInt8)} (h : EndsM w1 wr ab nb cb bl aw nw cw wl) {m : Nat} {news : List UInt8} {a3 : Option Addr} {c3 : Nat}
    (h0 : Chg Non wr w0) (ho : Own w3 w1.heap.size 5 1 a3 m c3 (bl.map bv ++ news.map bv)) {S : Nat → Prop} (hS : ∀ k, S k → some k = blk ab) (hc : Chg S w0 w3) (hb : blk a3 = blk ab ∨ blk a3 = some w0.heap.size) : EndsM w1 w3 a3 m c3 (bl ++ news) aw nw cw wl := by
  have ow0 := h.ow.chg h0 (fun _ _ h => h)
  refine ⟨by simpa using ho, ow0.chg hc (fun k hk e => h.sep k (hS k e) hk), fun k hk e => ?_, (h.chg.trans h0).next hc (fun i hi e => by have := (h.ob.lt i (hS i e)).1; omega)⟩
  rcases hb with hb | hb
  · exact h.sep k (hk.trans hb) e
  · have h1 := (ow0.lt k e).2
    rw [hb] at hk
    cases hk
    omega
theorem EndsM.text {w1 wr w0 w3 : World} {ab : Option Addr} {nb cb : Nat} {bl : List UInt8} {aw : Option Addr} {nw cw : Nat} {wl : List (List UInt8)} (h : EndsM w1 wr ab nb cb bl aw nw cw wl) {m : Nat} {x : List UInt8} {a3 : Option Addr} {c3 : Nat}
    (h0 : Chg Non wr w0) (ho : Own w3 w1.heap.size 9 1 a3 m c3 (wl.map tv ++ [tv x])) {S : Nat → Prop} (hS : ∀ k, S k → some k = blk aw) (hc : Chg S w0 w3) (hb : blk a3 = blk aw ∨ blk a3 = some w0.heap.size) : EndsM w1 w3 ab nb cb bl a3 m c3 (wl ++ [x]) := by
  have ob0 := h.ob.chg h0 (fun _ _ h => h)
  refine ⟨ob0.chg hc (fun k hk e => h.sep k hk (hS k e)), by simpa using ho, fun k hk e => ?_, (h.chg.trans h0).next hc (fun i hi e => by have := (h.ow.lt i (hS i e)).1; omega)⟩
  rcases hb with hb | hb
  · exact h.sep k hk (e.trans hb)
  · have h1 := (ob0.lt k hk).2
    rw [hb] at e
    cases e
    omega
end Go.Proofs.Ytjjppbfknjeddaa
