/- The document's reader in memory: what it keeps; the state of its Put. -/
import Derived.Test.YtjjppbfknjeddaaGreatDoorLinRefP
import Derived.Test.YtjjppbfknjeddaaGreatDoorLinRdr
import Derived.Test.YtjjppbfknjeddaaGreatDoorBookP
namespace Go.Proofs.YtjjppbfknjeddaaGreatDoor
open Go.RowKit Go.Shelf
set_option linter.unusedVariables false
set_option linter.unusedSimpArgs false
/-- What the document's reader keeps: its block q, its bytes R at am. -/
structure MRd (w : World) (B q : Nat) (am : Option Addr) (cm : Nat) (R : List UInt8) : Prop where
  hp : w.heap[q]? = some (.cells #[.slice am R.length cm] 63 (0, 0))
  own : Own w B 5 1 am R.length cm (R.map bv)
  base : B ≤ q
section
variable {S : Nat → Prop} {w w' : World} {B q : Nat} {am : Option Addr} {cm : Nat} {R : List UInt8}
theorem MRd.c0 (h : MRd w B q am cm R) : w.cell? ⟨q, 0, none⟩ = some (.slice am R.length cm) := by rw [cell_of_row w q 0 _ _ _ h.hp]; rfl
theorem MRd.fr (h : MRd w B q am cm R) (j : Nat) : w.frozen? ⟨q, j, none⟩ = false := frozen_of_row w q j _ _ h.hp
theorem MRd.lt (h : MRd w B q am cm R) : q < w.heap.size := (Array.getElem?_eq_some_iff.1 h.hp).1
theorem MRd.apart (h : MRd w B q am cm R) : ∀ k, some k = blk am → k ≠ q := own_row h.own h.hp (by decide)
theorem MRd.chg (h : MRd w B q am cm R) (hc : Chg S w w') (h1 : ¬ S q) (h2 : ∀ k, some k = blk am → ¬ S k) : MRd w' B q am cm R :=
  ⟨by rw [hc.block q h.lt h1]; exact h.hp, h.own.chg hc h2, h.base⟩
theorem MRd.keep (h : MRd w B q am cm R) (hc : Chg Non w w') : MRd w' B q am cm R := h.chg hc (fun h => h) (fun _ _ h => h)
theorem MRd.drewN (h : MRd w B q am cm R) (z : Nat) : MRd (w.drewN z) B q am cm R := ⟨h.hp, h.own, h.base⟩
end
/-- The state of the document's Put: xs, ys: what was answered; R: what is kept. -/
structure MPut (w wr : World) (B q b2 : Nat) (am0 : Option Addr) (a1 : Option Addr) (n c1 : Nat) (bs : List UInt8) (la : Option Addr) (lc m : Nat) (xs : List Value) (oa : Option Addr) (oc m' : Nat) (ys : List Value) (am : Option Addr) (cm : Nat) (R : List UInt8) : Prop where
  rd : Rd wr b2 a1 n c1 bs
  ot : Own wr w.heap.size 9 1 la m lc xs
  ob : Own wr w.heap.size 4 1 oa m' oc ys
  st : MRd wr B q am cm R
  chg : Chg (fun k => k = q ∨ some k = blk am0) w wr
  old : ∀ k, some k = blk am → some k = blk am0 ∨ w.heap.size ≤ k
  lp : q < w.heap.size
  lb : 0 < n → b2 < w.heap.size ∧ b2 ≠ q ∧ some b2 ≠ blk am0
section
variable {w wr w1 : World} {B q b2 : Nat} {am0 a1 : Option Addr} {n c1 : Nat} {bs : List UInt8} {la : Option Addr} {lc m : Nat} {xs : List Value} {oa : Option Addr} {oc m' : Nat} {ys : List Value} {am : Option Addr} {cm : Nat} {R : List UInt8}
theorem MPut.blk2 (h : MPut w wr B q b2 am0 a1 n c1 bs la lc m xs oa oc m' ys am cm R) (hp : 0 < n) : some b2 ≠ blk am := fun e => by
  obtain ⟨h1, h2, h3⟩ := h.lb hp
  rcases h.old _ e with e' | e'
  · exact h3 e'
  · omega
theorem MPut.quiet (h : MPut w wr B q b2 am0 a1 n c1 bs la lc m xs oa oc m' ys am cm R) (hc : Chg Non wr w1) : MPut w w1 B q b2 am0 a1 n c1 bs la lc m xs oa oc m' ys am cm R :=
  ⟨h.rd.chg hc (fun h => h), h.ot.chg hc (fun _ _ h => h), h.ob.chg hc (fun _ _ h => h), h.st.keep hc, h.chg.next hc (fun _ _ h => h.elim), h.old, h.lp, h.lb⟩
theorem MPut.kept {am1 : Option Addr} {cm1 : Nat} {R1 : List UInt8} (h : MPut w wr B q b2 am0 a1 n c1 bs la lc m xs oa oc m' ys am cm R) (hl : MRd w1 B q am1 cm1 R1) (hc : Chg (fun k => k = q ∨ some k = blk am) wr w1) (hb : ∀ k, some k = blk am1 → some k = blk am ∨ wr.heap.size ≤ k) :
    MPut w w1 B q b2 am0 a1 n c1 bs la lc m xs oa oc m' ys am1 cm1 R1 := by
  have hz := h.chg.size
  refine ⟨h.rd.same fun hp => hc.block _ (by have := (h.lb hp).1; omega) ?_, h.ot.chg hc ?_, h.ob.chg hc ?_, hl, h.chg.next hc ?_, ?_, h.lp, h.lb⟩
  · rintro (e | e)
    · exact (h.lb hp).2.1 e
    · exact h.blk2 hp e
  · rintro k hk (e | e)
    · exact own_row h.ot h.st.hp (by decide) k hk e
    · exact own_apart h.ot h.st.own (by decide) k hk e
  · rintro k hk (e | e)
    · exact own_row h.ob h.st.hp (by decide) k hk e
    · exact own_apart h.ob h.st.own (by decide) k hk e
  · rintro i hi (e | e)
    · exact .inl e
    · rcases h.old i e with e' | e'
      · exact .inr e'
      · omega
  · intro k hk
    rcases hb k hk with e | e
    · exact h.old k e
    · right; omega
theorem MPut.text {la1 : Option Addr} {lc1 m1 : Nat} {xs1 : List Value} (h : MPut w wr B q b2 am0 a1 n c1 bs la lc m xs oa oc m' ys am cm R) (ho : Own w1 w.heap.size 9 1 la1 m1 lc1 xs1) {T : Nat → Prop} (hc : Chg T wr w1) (ht : ∀ k, T k → some k = blk la) :
    MPut w w1 B q b2 am0 a1 n c1 bs la1 lc1 m1 xs1 oa oc m' ys am cm R := by
  have hge : ∀ k, T k → w.heap.size ≤ k := fun k hk => (h.ot.lt k (ht k hk)).1
  exact ⟨h.rd.same fun hp => hc.block _ (by have := (h.lb hp).1; have := h.chg.size; omega) (fun e => by have := hge _ e; have := (h.lb hp).1; omega), ho, h.ob.chg hc (fun k hk e => own_apart h.ob h.ot (by decide) k hk (ht k e)), h.st.chg hc (fun e => by have := hge _ e; have := h.lp; omega) (fun k hk e => own_apart h.st.own h.ot (by decide) k hk (ht k e)), h.chg.next hc (fun i hi e => by have := hge _ e; omega), h.old, h.lp, h.lb⟩
theorem MPut.bools {oa1 : Option Addr} {oc1 m1 : Nat} {ys1 : List Value} (h : MPut w wr B q b2 am0 a1 n c1 bs la lc m xs oa oc m' ys am cm R) (ho : Own w1 w.heap.size 4 1 oa1 m1 oc1 ys1) {T : Nat → Prop} (hc : Chg T wr w1) (ht : ∀ k, T k → some k = blk oa) :
    MPut w w1 B q b2 am0 a1 n c1 bs la lc m xs oa1 oc1 m1 ys1 am cm R := by
  have hge : ∀ k, T k → w.heap.size ≤ k := fun k hk => (h.ob.lt k (ht k hk)).1
  exact ⟨h.rd.same fun hp => hc.block _ (by have := (h.lb hp).1; have := h.chg.size; omega) (fun e => by have := hge _ e; have := (h.lb hp).1; omega), h.ot.chg hc (fun k hk e => own_apart h.ot h.ob (by decide) k hk (ht k e)), ho, h.st.chg hc (fun e => by have := hge _ e; have := h.lp; omega) (fun k hk e => own_apart h.st.own h.ob (by decide) k hk (ht k e)), h.chg.next hc (fun i hi e => by have := hge _ e; omega), h.old, h.lp, h.lb⟩
/-- One byte more is kept. -/
theorem MPut.push (h : MPut w wr B q b2 am0 a1 n c1 bs la lc m xs oa oc m' ys am cm R) {w0 : World} (h0 : Chg Non wr w0) {am1 : Option Addr} {cm1 k : Nat} (hk : R.length + 1 = k) {c : UInt8} (ho : Own w1 B 5 1 am1 k cm1 (R.map bv ++ [bv c])) {T : Nat → Prop} (hc : Chg T w0 w1) (ht : ∀ k, T k → some k = blk am) (hb : blk am1 = blk am ∨ blk am1 = some w0.heap.size) :
    MPut w (w1.setCell ⟨q, 0, none⟩ (.slice am1 k cm1)) B q b2 am0 a1 n c1 bs la lc m xs oa oc m' ys am1 cm1 (R ++ [c]) := by
  subst hk
  have s0 := h.st.keep h0
  have hq : w1.heap[q]? = w0.heap[q]? := hc.block q s0.lt (fun e => h.st.apart q (ht q e) rfl)
  have hp1 := hq.trans s0.hp
  have hs : Chg (fun k => k = q ∨ some k = blk am) w1 (w1.setCell ⟨q, 0, none⟩ (.slice am1 (R.length + 1) cm1)) := (Chg.refl _ w1).setCell (p := ⟨q, 0, none⟩) (.inr (.inl rfl)) _
  have hcc : Chg (fun k => k = q ∨ some k = blk am) wr (w1.setCell ⟨q, 0, none⟩ (.slice am1 (R.length + 1) cm1)) := ((h0.mono (fun _ _ h => h.elim)).trans (hc.mono (fun k _ e => .inr (ht k e)))).trans hs
  refine h.kept ⟨?_, ?_, h.st.base⟩ hcc (fun k hk => ?_)
  · rw [heap_setCell_same w1 q 0 _ _ _ hp1, List.length_append]; rfl
  · rw [List.length_append, List.map_append]
    refine Own.same ho fun k hk => heap_setCell_other w1 ⟨q, 0, none⟩ k _ (own_row ho hp1 (by decide) k hk)
  · rcases hb with hb | hb
    · exact .inl (hk.trans hb)
    · have := Option.some.inj (hk.trans hb); have := h0.size; right; omega
/-- Nothing is kept. -/
theorem MPut.none_ (h : MPut w wr B q b2 am0 a1 n c1 bs la lc m xs oa oc m' ys am cm R) : MPut w (wr.setCell ⟨q, 0, none⟩ (.slice none 0 0)) B q b2 am0 a1 n c1 bs la lc m xs oa oc m' ys none 0 [] := by
  refine h.kept ⟨?_, Own.nil _ _ _ _, h.st.base⟩ ((Chg.refl _ wr).setCell (p := ⟨q, 0, none⟩) (.inr (.inl rfl)) _) (fun k hk => by simp [blk] at hk)
  rw [heap_setCell_same wr q 0 _ _ _ h.st.hp]; rfl
end
end Go.Proofs.YtjjppbfknjeddaaGreatDoor
