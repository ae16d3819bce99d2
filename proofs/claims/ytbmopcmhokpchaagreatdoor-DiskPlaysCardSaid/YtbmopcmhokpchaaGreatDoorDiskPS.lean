/- Two disks and a book in memory: what stays apart. -/
import Derived.Test.YtbmopcmhokpchaaGreatDoorBookUse
import Derived.Test.YtbmopcmhokpchaaGreatDoorDiskGreat
namespace Go.Proofs.YtbmopcmhokpchaaGreatDoor
open Go.RowKit
set_option linter.unusedVariables false
set_option linter.unusedSimpArgs false
attribute [local go_sem ↓] Go.wp_at_zero Go.wp_at_succ
/-- Nothing. -/
def No (_ : Nat) : Prop := False
structure PS (w wr : World) (k size p : Nat) (ao : Option Addr) (cap sure : Nat) (bs : List UInt8) (q : Nat) (am : Option Addr) (m cm su2 : Nat) (b2 : List UInt8) (L : List Held) (O : Nat → Prop) (w2 : World) : Prop where
  d : DiskAt wr w.heap.size p ao cap size sure bs
  md : MD wr w.heap.size q am m cm size su2 b2
  sep : ∀ x, some x = blk am → ¬ some x = blk ao
  bk : BookB w wr k L
  sepL : ∀ g ∈ L, ∀ x, some x = blkZ g.a g.c → ¬ some x = blk ao
  okeep : ∀ y, O y → wr.heap[y]? = w2.heap[y]?
  olt : ∀ y, O y → y < w2.heap.size
  osz : w2.heap.size ≤ wr.heap.size
  op : ∀ y, O y → y ≠ p ∧ y ≠ q ∧ ¬ some y = blk ao
section
variable {w wr w' : World} {k size p : Nat} {ao : Option Addr} {cap sure : Nat} {bs : List UInt8} {q : Nat} {am : Option Addr} {m cm su2 : Nat} {b2 : List UInt8} {L : List Held} {O : Nat → Prop} {w2 : World}
theorem PS.pq (h : PS w wr k size p ao cap sure bs q am m cm su2 b2 L O w2) : p ≠ q := by
  rintro rfl
  have := h.d.hp.symm.trans h.md.hp
  simp at this
theorem PS.lts (h : PS w wr k size p ao cap sure bs q am m cm su2 b2 L O w2) : ∀ g ∈ L, ∀ x, some x = blkZ g.a g.c → w.heap.size ≤ x ∧ x < wr.heap.size := by
  intro g hg x hx
  obtain ⟨X, hX⟩ := h.bk.any g hg
  exact hX.lt x hx
theorem PS.non (h : PS w wr k size p ao cap sure bs q am m cm su2 b2 L O w2) (hc : Chg Non wr w') : PS w w' k size p ao cap sure bs q am m cm su2 b2 L O w2 :=
  ⟨h.d.chg hc (fun h => h) (fun _ _ h => h), h.md.chg hc (fun h => h) (fun _ _ h => h), h.sep, h.bk.non hc (fun _ _ h => h) (fun _ _ _ _ h => h) (fun _ h => h.elim), h.sepL,
    fun y hy => (hc.block y (Nat.lt_of_lt_of_le (h.olt y hy) h.osz) (fun h => h)).trans (h.okeep y hy), h.olt, Nat.le_trans h.osz hc.size, h.op⟩
theorem PS.drewN (h : PS w wr k size p ao cap sure bs q am m cm su2 b2 L O w2) (z : Nat) : PS w (wr.drewN z) k size p ao cap sure bs q am m cm su2 b2 L O w2 := h.non ((Chg.refl _ _).drewN z)
/-- The disk is turned. -/
theorem PS.dset (h : PS w wr k size p ao cap sure bs q am m cm su2 b2 L O w2) {ao' : Option Addr} {cap' sure' : Nat} {bs' : List UInt8} (d' : DiskAt w' w.heap.size p ao' cap' size sure' bs') (hc : Chg (fun x => x = p ∨ some x = blk ao) wr w')
    (hn : ∀ x, some x = blk ao' → some x = blk ao ∨ wr.heap.size ≤ x) : PS w w' k size p ao' cap' sure' bs' q am m cm su2 b2 L O w2 := by
  refine ⟨d', h.md.chg hc ?_ ?_, ?_, h.bk.non hc ?_ ?_ ?_, ?_, ?_, h.olt, Nat.le_trans h.osz hc.size, ?_⟩
  · rintro (e | e)
    · exact h.pq e.symm
    · exact own_row h.d.own h.md.hp (by decide) q e rfl
  · rintro x hx (e | e)
    · exact own_row h.md.own h.d.hp (by decide) x hx e
    · exact h.sep x hx e
  · intro x hx e
    rcases hn x e with e | e
    · exact h.sep x hx e
    · have := (h.md.own.lt x hx).2; omega
  · rintro x hx (e | e)
    · subst e; exact BS.not_row h.d.hp (by decide) (by decide) hx
    · exact BS.not_own h.d.own (by decide) (by decide) x e hx
  · rintro g hg x hx (e | e)
    · obtain ⟨X, hX⟩ := h.bk.any g hg
      exact ownZ_row hX h.d.hp (by decide) x hx e
    · exact h.sepL g hg x hx e
  · rintro x (e | e)
    · have := h.d.base; omega
    · exact (h.d.own.lt x e).1
  · intro g hg x hx e
    rcases hn x e with e | e
    · exact h.sepL g hg x hx e
    · have := (h.lts g hg x hx).2; omega
  · intro y hy
    refine (hc.block y (Nat.lt_of_lt_of_le (h.olt y hy) h.osz) ?_).trans (h.okeep y hy)
    rintro (e | e)
    · exact (h.op y hy).1 e
    · exact (h.op y hy).2.2 e
  · intro y hy
    refine ⟨(h.op y hy).1, (h.op y hy).2.1, fun e => ?_⟩
    rcases hn y e with e | e
    · exact (h.op y hy).2.2 e
    · have h1 := h.olt y hy; have h2 := h.osz; omega
/-- The document's disk is turned. -/
theorem PS.mset (h : PS w wr k size p ao cap sure bs q am m cm su2 b2 L O w2) {am' : Option Addr} {m' cm' su' : Nat} {b' : List UInt8} (d' : MD w' w.heap.size q am' m' cm' size su' b') (hc : Chg (fun x => x = q) wr w')
    (hn : ∀ x, some x = blk am' → some x = blk am ∨ wr.heap.size ≤ x) : PS w w' k size p ao cap sure bs q am' m' cm' su' b' L O w2 := by
  refine ⟨h.d.chg hc h.pq ?_, d', ?_, h.bk.non hc ?_ ?_ ?_, h.sepL, ?_, h.olt, Nat.le_trans h.osz hc.size, h.op⟩
  · intro x hx e; exact own_row h.d.own h.md.hp (by decide) x hx e
  · intro x hx e
    rcases hn x hx with hx | hx
    · exact h.sep x hx e
    · have := (h.d.own.lt x e).2; omega
  · rintro x hx e; subst e; exact BS.not_row h.md.hp (by decide) (by decide) hx
  · intro g hg x hx e
    obtain ⟨X, hX⟩ := h.bk.any g hg
    exact ownZ_row hX h.md.hp (by decide) x hx e
  · intro x e; have := h.md.base; omega
  · intro y hy
    exact (hc.block y (Nat.lt_of_lt_of_le (h.olt y hy) h.osz) (h.op y hy).2.1).trans (h.okeep y hy)
theorem MD.mono {B B' : Nat} (h : MD wr B q am m cm size sure bs) (hb : B' ≤ B) : MD wr B' q am m cm size sure bs := ⟨h.len, h.hp, h.own.mono hb, h.sure_le, h.le, h.max, Nat.le_trans hb h.base⟩
/-- Another disk takes the disk's place. -/
theorem PS.dnew (h : PS w wr k size p ao cap sure bs q am m cm su2 b2 L O w2) {p' : Nat} {ao' : Option Addr} {cap' sure' : Nat} {bs' : List UInt8} (d' : DiskAt w' wr.heap.size p' ao' cap' size sure' bs') (hc : Chg Non wr w') :
    PS w w' k size p' ao' cap' sure' bs' q am m cm su2 b2 L O w2 := by
  have h2 := h.non hc
  have hs := h.bk.chg.size
  have ol := fun y hy => Nat.lt_of_lt_of_le (h.olt y hy) h.osz
  refine ⟨d'.mono hs, h2.md, ?_, h2.bk, ?_, h2.okeep, h.olt, h2.osz, ?_⟩
  · intro x hx e; have h3 := (h.md.own.lt x hx).2; have h4 := (d'.own.lt x e).1; omega
  · intro g hg x hx e; have h3 := (h.lts g hg x hx).2; have h4 := (d'.own.lt x e).1; omega
  · intro y hy
    have h3 := ol y hy
    refine ⟨fun e => ?_, (h.op y hy).2.1, fun e => ?_⟩
    · have := d'.base; omega
    · have := (d'.own.lt y e).1; omega
theorem PS.mnew (h : PS w wr k size p ao cap sure bs q am m cm su2 b2 L O w2) {q' : Nat} {am' : Option Addr} {m' cm' su' : Nat} {b' : List UInt8} (d' : MD w' wr.heap.size q' am' m' cm' size su' b') (hc : Chg Non wr w') :
    PS w w' k size p ao cap sure bs q' am' m' cm' su' b' L O w2 := by
  have h2 := h.non hc
  have hs := h.bk.chg.size
  have ol := fun y hy => Nat.lt_of_lt_of_le (h.olt y hy) h.osz
  refine ⟨h2.d, d'.mono hs, ?_, h2.bk, h2.sepL, h2.okeep, h.olt, h2.osz, ?_⟩
  · intro x hx e; have h3 := (h.d.own.lt x e).2; have h4 := (d'.own.lt x hx).1; omega
  · intro y hy
    have h3 := ol y hy
    refine ⟨(h.op y hy).1, fun e => ?_, (h.op y hy).2.2⟩
    have := d'.base; omega
/-- Blocks that are new are looked at. -/
theorem PS.look (h : PS w wr k size p ao cap sure bs q am m cm su2 b2 L O w2) {w3 : World} (hc : Chg Non wr w3) (O' : Nat → Prop) (ho : ∀ y, O' y → wr.heap.size ≤ y ∧ y < w3.heap.size) : PS w w3 k size p ao cap sure bs q am m cm su2 b2 L O' w3 := by
  have h2 := h.non hc
  refine ⟨h2.d, h2.md, h2.sep, h2.bk, h2.sepL, fun _ _ => rfl, fun y hy => (ho y hy).2, Nat.le_refl _, fun y hy => ?_⟩
  have h3 := (ho y hy).1
  refine ⟨fun e => ?_, fun e => ?_, fun e => ?_⟩
  · have := h.d.lt; omega
  · have := h.md.lt; omega
  · have := (h.d.own.lt y e).2; omega
theorem PS.keep (h : PS w wr k size p ao cap sure bs q am m cm su2 b2 L O w2) (hl : L.length ≤ 100000) {a : Option Addr} {n c : Nat} {X : List Value} (ho : OwnZ wr w.heap.size 5 a n c X) (hm : n ≤ 1000000000) (hd : ∀ x, some x = blkZ a c → ¬ some x = blk ao) (hL : ∀ x, some x = blkZ a c → ∀ g ∈ L, ¬ some x = blkZ g.a g.c) :
    Calls Tryz.prog 12 #[.pointer (some ⟨k, 0, none⟩), .slice a n c] wr fun e w' => (∃ v, e = .returned v) ∧ PS w w' k size p ao cap sure bs q am m cm su2 b2 (L ++ [⟨a, n, c, none, 0, 0, L.length + 1⟩]) No w' ∧ Chg (BS wr) wr w' := by
  refine Calls.mono (Bytes_book h.bk (by omega) ho hm hL) ?_
  rintro e w' ⟨hv, hb, hc⟩
  refine ⟨hv, ⟨h.d.chg hc (BS.not_row h.d.hp (by decide) (by decide)) (BS.not_own h.d.own (by decide) (by decide)), h.md.chg hc (BS.not_row h.md.hp (by decide) (by decide)) (BS.not_own h.md.own (by decide) (by decide)), h.sep, hb, ?_, fun _ h => h.elim, fun _ h => h.elim, Nat.le_refl _, fun _ h => h.elim⟩, hc⟩
  intro g hg x hx
  rcases List.mem_append.1 hg with hg | hg
  · exact h.sepL g hg x hx
  · rw [List.mem_singleton.1 hg] at hx; exact hd x hx
def XG (xb g : Nat) (y : Nat) : Prop := y = xb ∨ y = g
theorem PS.xcell {xb g : Nat} (h : PS w wr k size p ao cap sure bs q am m cm su2 b2 L (XG xb g) w2) {cs : Array Value} {e : TypeId} (hx : w2.heap[xb]? = some (.cells cs e (0, 0))) (j : Nat) : wr.cell? ⟨xb, j, none⟩ = cs[j]? := by
  rw [cell_of_row wr xb j cs e (0, 0) ((h.okeep xb (.inl rfl)).trans hx)]
theorem PS.twin {xb g B n tc : Nat} {bs1 : List UInt8} (h : PS w wr k size p ao cap sure bs q am m cm su2 b2 L (XG xb g) w2) (ht : IsTwin w2 B g n tc bs1) : IsTwin wr B g n tc bs1 :=
  Own.same ht (fun y hy => h.okeep y (.inr (by simpa [blk] using hy)))
theorem PS.bytes (h : PS w wr k size p ao cap sure bs q am m cm su2 bs L O w2) :
    Calls Tryz.prog 18 #[.pointer (some ⟨p, 0, none⟩)] wr fun e w' => ∃ ga, e = .returned (.slice (some ⟨ga, 0, none⟩) m m) ∧ Own w' w.heap.size 5 1 (some ⟨ga, 0, none⟩) m m (bs.map bv) ∧ wr.heap.size ≤ ga ∧ PS w w' k size p ao cap sure bs q am m cm su2 bs L O w2 := by
  refine Calls.mono (Bytes_of h.d h.md.len) ?_
  rintro e w' ⟨rfl, ho, hc⟩
  exact ⟨_, rfl, ho.mono h.bk.chg.size, Nat.le_refl _, h.non hc⟩
theorem PS.mbytes (h : PS w wr k size p ao cap sure bs q am m cm su2 b2 L O w2) :
    Calls Tryz.prog 30 #[.pointer (some ⟨q, 0, none⟩)] wr fun e w' => ∃ a1 c1 b1, e = .returned (.slice a1 m c1) ∧ Rd w' b1 a1 m c1 b2 ∧ Chg Non wr w' ∧ PS w w' k size p ao cap sure bs q am m cm su2 b2 L O w2 := by
  refine Calls.mono (mBytes h.md) ?_
  rintro e w' ⟨a1, c1, rfl, ho, hc⟩
  obtain ⟨b1, _, hr⟩ := Rd.of_Own ho
  exact ⟨a1, c1, b1, rfl, hr, hc, h.non hc⟩
theorem blkZ_at {x : Nat} {a : Addr} {c : Nat} (h : some x = blkZ (some a) c) : x = a.block := by
  unfold blkZ at h
  split at h
  · cases h
  · simpa [blk] using h
end
end Go.Proofs.YtbmopcmhokpchaaGreatDoor
