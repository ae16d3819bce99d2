/- Put, walked. -/
import Derived.Test.YtjjppbfknjeddaaGreatDoorLinPut
import Derived.Deep.RegionLaw
namespace Go.Proofs.YtjjppbfknjeddaaGreatDoor
open Go.RowKit Go.Shelf
set_option linter.unusedVariables false
set_option linter.unusedSimpArgs false
attribute [local go_sem ↓] Go.wp_at_zero Go.wp_at_succ
theorem indexByte_ten : ∀ (l : List UInt8), (Lib.indexByte l 10 = -1 ∧ ∀ c ∈ l, c ≠ 10) ∨ (∃ a r, l = a ++ 10 :: r ∧ Lib.indexByte l 10 = (a.length : Int) ∧ ∀ c ∈ a, c ≠ 10)
  | [] => .inl ⟨rfl, by simp⟩
  | b :: l => by
    by_cases hb : b = 10
    · right
      exact ⟨[], l, by rw [hb, List.nil_append], by simp [Lib.indexByte, hb], fun c hc => by cases hc⟩
    · rcases indexByte_ten l with ⟨h1, h2⟩ | ⟨a, r, rfl, h2, h3⟩
      · left
        refine ⟨by simp [Lib.indexByte, hb, h1], ?_⟩
        intro c hc
        rcases List.mem_cons.1 hc with rfl | hc
        · exact hb
        · exact h2 c hc
      · right
        refine ⟨b :: a, r, rfl, ?_, ?_⟩
        · have h0 : ((a.length : Int) == -1) = false := by rw [beq_eq_false_iff_ne]; omega
          simp [Lib.indexByte, hb, h2]
          try omega
        · intro c hc
          rcases List.mem_cons.1 hc with rfl | hc
          · exact hb
          · exact h3 c hc
theorem bytesOf_nat (xs : List UInt8) : Lib.bytesOf (xs.map fun c => (c.toNat : Int)) = xs := by
  unfold Lib.bytesOf
  rw [List.map_map]
  conv => rhs; rw [← List.map_id xs]
  apply List.map_congr_left
  intro c _
  simp
theorem IndexByte_ten {w : World} {b1 : Nat} {a1 : Option Addr} {n1 c1 : Nat} {xs : List UInt8} (h1 : Rd w b1 a1 n1 c1 xs) {z : Int} (hz : Lib.indexByte xs 10 = z) :
    Calls Tryz.prog 18 #[.slice a1 n1 c1, .int .u8 10] w fun e w' => e = .returned (.int .i64 z) ∧ w = w' := by
  subst hz
  obtain ⟨h1, h2, h3, h4, h5⟩ := h1
  cases a1 with
  | none =>
    obtain rfl := h4 rfl
    obtain rfl : n1 = 0 := by omega
    have : xs = [] := List.eq_nil_of_length_eq_zero h1
    subst this
    refine Calls.mono (Any.bytes_IndexByte_nil Tryz.lays187 10 w) ?_
    rintro e w' ⟨rfl, rfl⟩
    exact ⟨rfl, rfl⟩
  | some a =>
    have h := Any.bytes_IndexByte_at Tryz.lays187 a n1 c1 (xs.map fun c => (c.toNat : Int)) 10 w (by simpa using h1) (fun i hi => by
      obtain ⟨off, ho, hc⟩ := h5 (by omega)
      cases ho
      rw [Addr.add_lit, hc i hi]
      simp [bv, List.getD, show i < xs.length by omega])
    rw [bytesOf_nat] at h
    refine Calls.mono h ?_
    rintro e w' ⟨rfl, rfl⟩
    exact ⟨rfl, rfl⟩
theorem setCells_keep (b : Nat) {e : TypeId} : ∀ (vs : List Value) (o : Nat) (w : World) (cur : Array Value), w.heap[b]? = some (.cells cur e (0, 0)) → ∃ cur', (w.setCells b o vs).heap[b]? = some (.cells cur' e (0, 0)) ∧ cur'.size = cur.size ∧ Chg (fun k => k = b) w (w.setCells b o vs)
  | [], o, w, cur, h => ⟨cur, h, rfl, Chg.refl _ _⟩
  | v :: r, o, w, cur, h => by
    have h1 : (w.setCell ⟨b, o, none⟩ v).heap[b]? = some (.cells (cur.setIfInBounds o v) e (0, 0)) := heap_setCell_same w b o _ _ _ h
    obtain ⟨cur', h2, h3, h4⟩ := setCells_keep b r (o + 1) _ _ h1
    refine ⟨cur', h2, by rw [h3]; simp, ?_⟩
    exact Chg.trans ((Chg.refl (fun k => k = b) w).setCell (p := ⟨b, o, none⟩) (.inr rfl) v) h4
/-- 'clear(s)' on bytes that the call owns: they may be taken for none. -/
theorem clear_run {w : World} {B : Nat} {ao : Option Addr} {n cap : Nat} {xs : List Value} (h : Own w B 5 1 ao n cap xs) :
    ∃ w', (∀ ty, (Builtin.clear_ #[42] ty #[.slice ao n cap]).run Tryz.prog w = .ok (.tuple #[]) w') ∧ Own w' B 5 1 ao 0 cap [] ∧ Chg (fun k => some k = blk ao) w w' := by
  have hf := h
  obtain ⟨h1, h2, h3, h4, h5⟩ := h
  have hz : ∀ w, (zeroValue 5).run Tryz.prog w = .ok (.int .u8 0) w := fun _ => by kernel_rfl
  have h0 : Own w B 5 1 ao 0 cap [] := by
    refine ⟨by simp, by omega, h3, h4, fun a ha => ?_⟩
    obtain ⟨g, cur, e1, e2, e3, e4, e5⟩ := h5 a ha
    exact ⟨g, cur, e1, e2, e3, e4, by simp⟩
  cases ao with
  | none =>
    refine ⟨w, fun ty => ?_, h0, Chg.refl _ _⟩
    simp [Builtin.clear_, run_underlying Tryz.underlying42]
  | some a =>
    obtain ⟨g, cur, rfl, hB, hg, hcs, ht⟩ := h5 a rfl
    by_cases hn : n = 0
    · subst hn
      refine ⟨w, fun ty => ?_, h0, Chg.refl _ _⟩
      simp [Builtin.clear_, run_underlying Tryz.underlying42]
    · obtain ⟨g', hg', _, _, hfr, hc, hcap⟩ := hf.form (by omega)
      cases hg'
      obtain ⟨cur', k1, k2, k3⟩ := setCells_keep g (List.replicate n (Value.int .u8 0)) 0 w cur hg
      refine ⟨_, fun ty => Lib.run_clear_slice w 42 5 ty (.int .u8 0) Tryz.underlying42 hz rfl rfl g 0 n cap (by omega) (fun j hj => by rw [Nat.zero_add]; exact hcap j (by omega)) (fun j hj => hfr _), ⟨by simp, by omega, h3, (fun h => by cases h), fun a ha => ?_⟩, ?_⟩
      · cases ha
        exact ⟨g, cur', rfl, hB, k1, by omega, by simp⟩
      · exact k3.mono (fun k _ e => by subst e; rfl)
def txts (l : List (List UInt8 × Bool)) : List Value := l.map fun x => .string ⟨x.1.toArray⟩
def bols (l : List (List UInt8 × Bool)) : List Value := l.map fun x => .bool x.2
theorem Tryz.info_str : (Tryz.prog.info? 9).map (fun i => (i.zero, i.size, i.bytes)) = some (some (.string ⟨#[]⟩), 1, 16) := by kernel_rfl
theorem Tryz.info_bool : (Tryz.prog.info? 4).map (fun i => (i.zero, i.size, i.bytes)) = some (some (.bool false), 1, 1) := by kernel_rfl
/-- The state of Put's loop: post is still to come; xs, ys: what was answered; s': what is kept. -/
structure PutM (w wr : World) (B p b2 : Nat) (ao : Option Addr) (post : List UInt8) (a1 : Option Addr) (c1 : Nat) (la : Option Addr) (lc m : Nat) (xs : List Value) (oa : Option Addr) (oc m' : Nat) (ys : List Value) (ao' : Option Addr) (cap' : Nat) (s' : List UInt8) : Prop where
  rd : Rd wr b2 a1 post.length c1 post
  ot : Own wr w.heap.size 9 1 la m lc xs
  ob : Own wr w.heap.size 4 1 oa m' oc ys
  st : LinAt wr B p ao' cap' s'
  chg : Chg (fun k => k = p ∨ some k = blk ao) w wr
  old : ∀ k, some k = blk ao' → some k = blk ao ∨ w.heap.size ≤ k
  d1 : ∀ i, some i = blk la → some i ≠ blk ao'
  d2 : ∀ i, some i = blk oa → some i ≠ blk ao'
  d3 : ∀ i, some i = blk la → some i ≠ blk oa
  lp : p < w.heap.size
  lb : 0 < post.length → b2 < w.heap.size ∧ b2 ≠ p ∧ some b2 ≠ blk ao
section
variable {w wr w1 : World} {B p b2 : Nat} {ao : Option Addr} {post : List UInt8} {a1 : Option Addr} {c1 : Nat} {la : Option Addr} {lc m : Nat} {xs : List Value} {oa : Option Addr} {oc m' : Nat} {ys : List Value} {ao' : Option Addr} {cap' : Nat} {s' : List UInt8}
theorem PutM.blk2 (h : PutM w wr B p b2 ao post a1 c1 la lc m xs oa oc m' ys ao' cap' s') (hp : 0 < post.length) : some b2 ≠ blk ao' := fun e => by
  obtain ⟨h1, h2, h3⟩ := h.lb hp
  rcases h.old _ e with e' | e'
  · exact h3 e'
  · omega
theorem PutM.quiet (h : PutM w wr B p b2 ao post a1 c1 la lc m xs oa oc m' ys ao' cap' s') (hc : Chg Non wr w1) : PutM w w1 B p b2 ao post a1 c1 la lc m xs oa oc m' ys ao' cap' s' :=
  ⟨h.rd.chg hc (fun h => h), h.ot.chg hc (fun _ _ h => h), h.ob.chg hc (fun _ _ h => h), h.st.keep hc, h.chg.next hc (fun _ _ h => h.elim), h.old, h.d1, h.d2, h.d3, h.lp, h.lb⟩
theorem PutM.kept {ao1 : Option Addr} {cap1 : Nat} {s1 : List UInt8} (h : PutM w wr B p b2 ao post a1 c1 la lc m xs oa oc m' ys ao' cap' s') (hl : LinAt w1 B p ao1 cap1 s1) (hc : Chg (fun k => k = p ∨ some k = blk ao') wr w1) (hb : blk ao1 = blk ao' ∨ blk ao1 = some wr.heap.size) :
    PutM w w1 B p b2 ao post a1 c1 la lc m xs oa oc m' ys ao1 cap1 s1 := by
  have hz := h.chg.size
  have hd : ∀ (q : Option Addr), (∀ i, some i = blk q → some i ≠ blk ao') → (∀ i, some i = blk q → i < wr.heap.size) → ∀ i, some i = blk q → some i ≠ blk ao1 := fun q h1 h2 i hi e => by
    rcases hb with hb | hb
    · exact h1 i hi (e.trans hb)
    · have := h2 i hi
      have := Option.some.inj (e.trans hb)
      omega
  refine ⟨h.rd.same fun hp => hc.block _ (by have := (h.lb hp).1; omega) ?_, h.ot.chg hc ?_, h.ob.chg hc ?_, hl, h.chg.next hc ?_, ?_, hd _ h.d1 (fun i hi => (h.ot.lt i hi).2), hd _ h.d2 (fun i hi => (h.ob.lt i hi).2), h.d3, h.lp, h.lb⟩
  · rintro (e | e)
    · exact (h.lb hp).2.1 e
    · exact h.blk2 hp e
  · rintro k hk (e | e)
    · have := (h.ot.lt k hk).1; have := h.lp; omega
    · exact h.d1 k hk e
  · rintro k hk (e | e)
    · have := (h.ob.lt k hk).1; have := h.lp; omega
    · exact h.d2 k hk e
  · rintro i hi (e | e)
    · exact .inl e
    · rcases h.old i e with e' | e'
      · exact .inr e'
      · omega
  · intro k hk
    rcases hb with hb | hb
    · exact h.old k (hk.trans hb)
    · have := Option.some.inj (hk.trans hb); right; omega
theorem PutM.text {la1 : Option Addr} {lc1 m1 : Nat} {xs1 : List Value} (h : PutM w wr B p b2 ao post a1 c1 la lc m xs oa oc m' ys ao' cap' s') (ho : Own w1 w.heap.size 9 1 la1 m1 lc1 xs1) {T : Nat → Prop} (hc : Chg T wr w1) (ht : ∀ k, T k → some k = blk la) (hb : blk la1 = blk la ∨ blk la1 = some wr.heap.size) :
    PutM w w1 B p b2 ao post a1 c1 la1 lc1 m1 xs1 oa oc m' ys ao' cap' s' := by
  have hz := h.chg.size
  have hge : ∀ k, T k → w.heap.size ≤ k := fun k hk => (h.ot.lt k (ht k hk)).1
  refine ⟨h.rd.same fun hp => hc.block _ (by have := (h.lb hp).1; omega) (fun e => by have := hge _ e; have := (h.lb hp).1; omega), ho, h.ob.chg hc (fun k hk e => h.d3 k (ht k e) hk), h.st.chg hc (fun e => by have := hge _ e; have := h.lp; omega) (fun k hk e => h.d1 k (ht k e) hk), h.chg.next hc (fun i hi e => by have := hge _ e; omega), h.old, ?_, h.d2, ?_, h.lp, h.lb⟩
  · intro i hi
    rcases hb with hb | hb
    · exact h.d1 i (hi.trans hb)
    · intro e
      have e1 := Option.some.inj (hi.trans hb)
      have := (h.st.own.lt i e).2
      omega
  · intro i hi
    rcases hb with hb | hb
    · exact h.d3 i (hi.trans hb)
    · intro e
      have e1 := Option.some.inj (hi.trans hb)
      have := (h.ob.lt i e).2
      omega
theorem PutM.bools {oa1 : Option Addr} {oc1 m1 : Nat} {ys1 : List Value} (h : PutM w wr B p b2 ao post a1 c1 la lc m xs oa oc m' ys ao' cap' s') (ho : Own w1 w.heap.size 4 1 oa1 m1 oc1 ys1) {T : Nat → Prop} (hc : Chg T wr w1) (ht : ∀ k, T k → some k = blk oa) (hb : blk oa1 = blk oa ∨ blk oa1 = some wr.heap.size) :
    PutM w w1 B p b2 ao post a1 c1 la lc m xs oa1 oc1 m1 ys1 ao' cap' s' := by
  have hz := h.chg.size
  have hge : ∀ k, T k → w.heap.size ≤ k := fun k hk => (h.ob.lt k (ht k hk)).1
  refine ⟨h.rd.same fun hp => hc.block _ (by have := (h.lb hp).1; omega) (fun e => by have := hge _ e; have := (h.lb hp).1; omega), h.ot.chg hc (fun k hk e => h.d3 k hk (ht k e)), ho, h.st.chg hc (fun e => by have := hge _ e; have := h.lp; omega) (fun k hk e => h.d2 k (ht k e) hk), h.chg.next hc (fun i hi e => by have := hge _ e; omega), h.old, h.d1, ?_, ?_, h.lp, h.lb⟩
  · intro i hi
    rcases hb with hb | hb
    · exact h.d2 i (hi.trans hb)
    · intro e
      have e1 := Option.some.inj (hi.trans hb)
      have := (h.st.own.lt i e).2
      omega
  · intro i hi
    rcases hb with hb | hb
    · exact fun e => h.d3 i hi (e.trans hb)
    · intro e
      have e1 := Option.some.inj (e.trans hb)
      have := (h.ot.lt i hi).2
      omega
/-- What is kept is cleared, and taken for none. -/
theorem PutM.cleared (h : PutM w wr B p b2 ao post a1 c1 la lc m xs oa oc m' ys ao' cap' s') (ho : Own w1 B 5 1 ao' 0 cap' []) (hc : Chg (fun k => some k = blk ao') wr w1) :
    PutM w (w1.setCell ⟨p, 0, none⟩ (.slice ao' 0 cap')) B p b2 ao post a1 c1 la lc m xs oa oc m' ys ao' cap' [] := by
  have hp1 : w1.heap[p]? = wr.heap[p]? := hc.block p h.st.lt (fun e => h.st.apart p e rfl)
  have hc2 : Chg (fun k => k = p ∨ some k = blk ao') wr (w1.setCell ⟨p, 0, none⟩ (.slice ao' 0 cap')) := Chg.setCell (hc.mono (fun k _ e => .inr e)) (p := ⟨p, 0, none⟩) (.inr (.inl rfl)) _
  refine h.kept ⟨?_, ?_, by simp, h.st.base⟩ hc2 (.inl rfl)
  · rw [heap_setCell_same w1 p 0 _ _ _ (hp1.trans h.st.hp)]; rfl
  · exact Own.same ho fun k hk => heap_setCell_other w1 ⟨p, 0, none⟩ k _ (h.st.apart k hk)
theorem PutM.rest {r : List UInt8} {a2 : Option Addr} {c2 : Nat} (h : PutM w wr B p b2 ao post a1 c1 la lc m xs oa oc m' ys ao' cap' s') (hr : Rd wr b2 a2 r.length c2 r) (hl : r.length ≤ post.length) : PutM w wr B p b2 ao r a2 c2 la lc m xs oa oc m' ys ao' cap' s' :=
  ⟨hr, h.ot, h.ob, h.st, h.chg, h.old, h.d1, h.d2, h.d3, h.lp, fun hp => h.lb (by omega)⟩
theorem PutM.onward {wF : World} {r : List UInt8} {a2 : Option Addr} {c2 : Nat} {a3 : Option Addr} {c3 : Nat} {la2 : Option Addr} {lc2 m2 : Nat} {xs2 : List Value} {oa2 : Option Addr} {oc2 m2' : Nat} {ys2 : List Value} {ao2 : Option Addr} {cap2 : Nat} {s2 : List UInt8}
    (h0 : PutM w wr B p b2 ao post a1 c1 la lc m xs oa oc m' ys ao' cap' s') (h : PutM w wF B p b2 ao post a3 c3 la2 lc2 m2 xs2 oa2 oc2 m2' ys2 ao2 cap2 s2) (hr : Rd wr b2 a2 r.length c2 r) (hl : r.length ≤ post.length) : PutM w wF B p b2 ao r a2 c2 la2 lc2 m2 xs2 oa2 oc2 m2' ys2 ao2 cap2 s2 := by
  refine h.rest (hr.same fun hp => ?_) hl
  obtain ⟨k1, k2, k3⟩ := h0.lb (by omega)
  have hn : ¬ (b2 = p ∨ some b2 = blk ao) := fun e => e.elim k2 k3
  exact (h.chg.block b2 k1 hn).trans (h0.chg.block b2 k1 hn).symm
end
end Go.Proofs.YtjjppbfknjeddaaGreatDoor
