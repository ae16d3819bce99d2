/- A block taken in, walked. -/
import Derived.Test.YtbmopcmhokpchaaGreatDoorShaSteps
namespace Go.Proofs.YtbmopcmhokpchaaGreatDoor
open Go.RowKit
set_option linter.unusedVariables false
attribute [local go_sem ↓] Go.wp_at_zero Go.wp_at_succ
theorem row_set {w : World} {g : Nat} {cur : Array Value} {e : TypeId} (h : w.heap[g]? = some (.cells cur e (0, 0))) (k : Nat) (v : Value) : (w.setCell ⟨g, k, none⟩ v).heap[g]? = some (.cells (cur.setIfInBounds k v) e (0, 0)) := by
  show (w.heap.modify g _)[g]? = _
  rw [Array.getElem?_modify, if_pos rfl, h]
  rfl
/-- The words so far, in their row of 64. -/
def schedRow (b : List UInt8) (k : Nat) : Array Value := ((sched b k).map wv ++ List.replicate (64 - k) (wv 0)).toArray
theorem schedRow_get (b : List UInt8) {k j : Nat} (hj : j < k) : (schedRow b k)[j]? = some (wv ((sched b k).getD j 0)) := by
  have := sched_length b k
  unfold schedRow
  rw [List.getElem?_toArray, List.getElem?_append_left (by simp; omega)]
  simp [List.getD, show j < (sched b k).length by omega]
theorem schedRow_set (b : List UInt8) {k : Nat} (hk : k < 64) {x : UInt32} (hx : x = nextW b (sched b k)) : (schedRow b k).setIfInBounds k (wv x) = schedRow b (k + 1) := by
  have hl := sched_length b k
  apply Array.ext'
  apply List.ext_getElem?
  intro i
  unfold schedRow
  simp only [Array.toList_setIfInBounds, List.getElem?_set, sched]
  subst hx
  by_cases e : k = i
  · subst e
    simp [hl]
    omega
  · rw [if_neg e]
    rcases Nat.lt_or_gt_of_ne e with h | h
    · rw [List.getElem?_append_right (by simp; omega), List.getElem?_append_right (by simp; omega)]
      simp only [List.length_map, List.length_append, List.length_cons, List.length_nil, hl, List.getElem?_replicate]
      by_cases e2 : i < 64
      · rw [if_pos (by omega), if_pos (by omega)]
      · rw [if_neg (by omega), if_neg (by omega)]
    · rw [List.getElem?_append_left (by simp; omega), List.getElem?_append_left (by simp; omega)]
      simp only [List.getElem?_map]
      rw [List.getElem?_append_left (by omega)]
theorem alloc4 (w : World) (A B C D : Obj) : ((((w.alloc A).alloc B).alloc C).alloc D).heap[w.heap.size]? = some A ∧ ((((w.alloc A).alloc B).alloc C).alloc D).heap[w.heap.size + 1]? = some B ∧
    ((((w.alloc A).alloc B).alloc C).alloc D).heap[w.heap.size + 1 + 1]? = some C ∧ ((((w.alloc A).alloc B).alloc C).alloc D).heap[w.heap.size + 1 + 1 + 1]? = some D := by
  have s1 : (w.alloc A).heap.size = w.heap.size + 1 := by simp
  have s2 : ((w.alloc A).alloc B).heap.size = w.heap.size + 1 + 1 := by simp
  have s3 : (((w.alloc A).alloc B).alloc C).heap.size = w.heap.size + 1 + 1 + 1 := by simp
  refine ⟨?_, ?_, ?_, ?_⟩
  · rw [heap_alloc_old _ _ (by omega), heap_alloc_old _ _ (by omega), heap_alloc_old _ _ (by omega), heap_alloc_new]
  · rw [heap_alloc_old _ _ (by omega), heap_alloc_old _ _ (by omega), ← s1, heap_alloc_new]
  · rw [heap_alloc_old _ _ (by omega), ← s2, heap_alloc_new]
  · rw [← s3, heap_alloc_new]
def AtB (B k : Nat) : Prop := k = B
/-- While the schedule is made. -/
structure TakeW (w wr : World) (s : St) (bs : List UInt8) (k : Nat) : Prop where
  b0 : wr.heap[w.heap.size]? = some (.cells s.arr 82 (0, 0))
  b1 : wr.heap[w.heap.size + 1]? = some (.cells (bs.map bv).toArray 84 (0, 0))
  b2 : ∃ cs, wr.heap[w.heap.size + 1 + 1]? = some (.cells cs 82 (0, 0)) ∧ cs.size = 8
  b3 : wr.heap[w.heap.size + 1 + 1 + 1]? = some (.cells (schedRow bs k) 169 (0, 0))
  chg : Chg Non w wr
theorem TakeW.non {w wr wq : World} {s : St} {bs : List UInt8} {k : Nat} (h : TakeW w wr s bs k) (hc : Chg Non wr wq) : TakeW w wq s bs k := by
  have l : ∀ i o, wr.heap[i]? = some o → wq.heap[i]? = some o := fun i o hi => (hc.block i (Array.getElem?_eq_some_iff.1 hi).1 (fun h => h)).trans hi
  obtain ⟨cs, h2, h3⟩ := h.b2
  exact ⟨l _ _ h.b0, l _ _ h.b1, ⟨cs, l _ _ h2, h3⟩, l _ _ h.b3, h.chg.trans hc⟩
theorem TakeW.step {w wr : World} {s : St} {bs : List UInt8} {k : Nat} (h : TakeW w wr s bs k) (hk : k < 64) {x : UInt32} (hx : x = nextW bs (sched bs k)) :
    TakeW w (wr.setCell ⟨w.heap.size + 1 + 1 + 1, k, none⟩ (.int .u32 (wn x))) s bs (k + 1) := by
  have l : ∀ i, i ≠ w.heap.size + 1 + 1 + 1 → (wr.setCell ⟨w.heap.size + 1 + 1 + 1, k, none⟩ (.int .u32 (wn x))).heap[i]? = wr.heap[i]? := fun i hi => heap_setCell_other _ _ _ _ hi
  obtain ⟨cs, h2, h3⟩ := h.b2
  refine ⟨(l _ (by omega)).trans h.b0, (l _ (by omega)).trans h.b1, ⟨cs, (l _ (by omega)).trans h2, h3⟩, ?_, h.chg.setCell (.inl (by simp; omega)) _⟩
  have e := row_set h.b3 k (wv x)
  rw [schedRow_set bs hk hx] at e
  exact e
/-- While the rounds are gone through: what was at the end of the schedule, in w1; its next block holds the state. -/
structure RoundW (w w1 wr : World) (s : St) (bs : List UInt8) (k : Nat) : Prop where
  b0 : wr.heap[w.heap.size]? = some (.cells s.arr 82 (0, 0))
  b2 : ∃ cs, wr.heap[w.heap.size + 1 + 1]? = some (.cells cs 82 (0, 0)) ∧ cs.size = 8
  b3 : wr.heap[w.heap.size + 1 + 1 + 1]? = some (.cells (schedRow bs 64) 169 (0, 0))
  bn : wr.heap[w1.heap.size]? = some (.cells (roundsN bs s k).arr 82 (0, 0))
  lt : w.heap.size + 1 + 1 + 1 < w1.heap.size
  chg : Chg Non w wr
theorem RoundW.start {w w1 w2 : World} {s : St} {bs : List UInt8} (h : TakeW w w1 s bs 64) (hc : Chg Non (w1.alloc (.cells s.arr 82)) w2) : RoundW w w1 w2 s bs 0 := by
  have hc' : Chg Non w1 w2 := ((Chg.refl _ _).alloc _).trans hc
  have l : ∀ i o, w1.heap[i]? = some o → w2.heap[i]? = some o := fun i o hi => (hc'.block i (Array.getElem?_eq_some_iff.1 hi).1 (fun h => h)).trans hi
  obtain ⟨cs, h2, h3⟩ := h.b2
  exact ⟨l _ _ h.b0, ⟨cs, l _ _ h2, h3⟩, l _ _ h.b3, (hc.block _ (by simp) (fun h => h)).trans (heap_alloc_new _ _), (Array.getElem?_eq_some_iff.1 h.b3).1, h.chg.trans hc'⟩
theorem RoundW.step {w w1 wr w2 : World} {s : St} {bs : List UInt8} {k : Nat} (h : RoundW w w1 wr s bs k) (hc : Chg Non wr w2) {cells : Array Value} (he : cells = (roundsN bs s (k + 1)).arr) :
    RoundW w w1 (w2.setRow w1.heap.size cells) s bs (k + 1) := by
  have l : ∀ i o, wr.heap[i]? = some o → w2.heap[i]? = some o := fun i o hi => (hc.block i (Array.getElem?_eq_some_iff.1 hi).1 (fun h => h)).trans hi
  have l2 : ∀ i o, i ≠ w1.heap.size → wr.heap[i]? = some o → (w2.setRow w1.heap.size cells).heap[i]? = some o := fun i o hi ho => (setRow_other _ _ _ _ hi).trans (l i o ho)
  have hlt := h.lt
  obtain ⟨cs, h2, h3⟩ := h.b2
  subst he
  exact ⟨l2 _ _ (by omega) h.b0, ⟨cs, l2 _ _ (by omega) h2, h3⟩, l2 _ _ (by omega) h.b3, setRow_heap _ _ _ _ _ _ (l _ _ h.bn), h.lt, (h.chg.trans hc).setRow (.inl (by omega)) _⟩
/-- Of the first k each is added. -/
def addL (x s : St) (k : Nat) : List UInt32 := (List.range 8).map fun j => if j < k then x.l.getD j 0 + s.l.getD j 0 else x.l.getD j 0
def addArr (x s : St) (k : Nat) : Array Value := ((addL x s k).map wv).toArray
theorem addArr_zero (x s : St) : addArr x s 0 = x.arr := rfl
theorem addArr_end (x s : St) : addArr x s 8 = (addS x s).arr := rfl
theorem eight {k : Nat} (hk : k < 8) : k = 0 ∨ k = 1 ∨ k = 2 ∨ k = 3 ∨ k = 4 ∨ k = 5 ∨ k = 6 ∨ k = 7 := by omega
theorem addArr_get (x s : St) {k : Nat} (hk : k < 8) : (addArr x s k)[k]? = some (wv (x.l.getD k 0)) := by
  rcases eight hk with rfl | rfl | rfl | rfl | rfl | rfl | rfl | rfl <;> rfl
theorem arr_get (s : St) {k : Nat} (hk : k < 8) : s.arr[k]? = some (wv (s.l.getD k 0)) := by
  rcases eight hk with rfl | rfl | rfl | rfl | rfl | rfl | rfl | rfl <;> rfl
theorem addArr_set (x s : St) {k : Nat} (hk : k < 8) : (addArr x s k).setIfInBounds k (wv (x.l.getD k 0 + s.l.getD k 0)) = addArr x s (k + 1) := by
  rcases eight hk with rfl | rfl | rfl | rfl | rfl | rfl | rfl | rfl <;> rfl
/-- While the state before is added. -/
structure AddW (w w1 wr : World) (s x : St) (k : Nat) : Prop where
  b0 : wr.heap[w.heap.size]? = some (.cells s.arr 82 (0, 0))
  b2 : ∃ cs, wr.heap[w.heap.size + 1 + 1]? = some (.cells cs 82 (0, 0)) ∧ cs.size = 8
  bn : wr.heap[w1.heap.size]? = some (.cells (addArr x s k) 82 (0, 0))
  lt : w.heap.size + 1 + 1 + 1 < w1.heap.size
  chg : Chg Non w wr
theorem AddW.start {w w1 wr : World} {s : St} {bs : List UInt8} (h : RoundW w w1 wr s bs 64) : AddW w w1 wr s (roundsN bs s 64) 0 := ⟨h.b0, h.b2, h.bn, h.lt, h.chg⟩
theorem AddW.drew {w w1 wr : World} {s x : St} {k : Nat} (h : AddW w w1 wr s x k) : AddW w w1 wr.drew s x k := ⟨h.b0, h.b2, h.bn, h.lt, h.chg.drew⟩
theorem AddW.step {w w1 wr : World} {s x : St} {k : Nat} (h : AddW w w1 wr s x k) (hk : k < 8) : AddW w w1 (wr.setCell ⟨w1.heap.size, k, none⟩ (.int .u32 (wn (x.l.getD k 0 + s.l.getD k 0)))) s x (k + 1) := by
  have hlt := h.lt
  have l : ∀ i, i ≠ w1.heap.size → (wr.setCell ⟨w1.heap.size, k, none⟩ (.int .u32 (wn (x.l.getD k 0 + s.l.getD k 0)))).heap[i]? = wr.heap[i]? := fun i hi => heap_setCell_other _ _ _ _ hi
  obtain ⟨cs, h2, h3⟩ := h.b2
  refine ⟨(l _ (by omega)).trans h.b0, ⟨cs, (l _ (by omega)).trans h2, h3⟩, ?_, h.lt, h.chg.setCell (.inl (by simp; omega)) _⟩
  have e := row_set h.bn k (wv (x.l.getD k 0 + s.l.getD k 0))
  rw [addArr_set x s hk] at e
  exact e
theorem newc {w : World} {g j : Nat} {cs : Array Value} {t : TypeId} {fr : Nat × Nat} {v : Value} (h : w.heap[g]? = some (.cells cs t fr)) (hv : cs[j]? = some v) : w.cell? ⟨g, j, none⟩ = some v := by
  rw [cell_of_row w g j cs t fr h]; exact hv
theorem TakeW.step' {w wr : World} {s : St} {bs : List UInt8} {k : Nat} (h : TakeW w wr s bs k) (hk : k < 64) {v : Int} (hv : v = wn (nextW bs (sched bs k))) :
    TakeW w (wr.setCell ⟨w.heap.size + 1 + 1 + 1, k, none⟩ (.int .u32 v)) s bs (k + 1) := by
  subst hv; exact h.step hk rfl
/-- Only cells of block B from k on have turned, and new blocks. -/
def SK (wr : World) (B k : Nat) (w' : World) : Prop := wr.heap.size ≤ w'.heap.size ∧ ∀ j, j < k → w'.cell? ⟨B, j, none⟩ = wr.cell? ⟨B, j, none⟩
@[simp, go_sem] theorem SK.refl {wr : World} {B k : Nat} : SK wr B k wr := ⟨Nat.le_refl _, fun _ _ => rfl⟩
@[simp, go_sem] theorem SK.drew_iff {wr w : World} {B k : Nat} : SK wr B k w.drew ↔ SK wr B k w := Iff.rfl
@[simp, go_sem] theorem SK.drewN_iff {wr w : World} {B k q : Nat} : SK wr B k (w.drewN q) ↔ SK wr B k w := Iff.rfl
@[simp, go_sem] theorem SK.from_drew_iff {wr w : World} {B k : Nat} : SK wr.drew B k w ↔ SK wr B k w := Iff.rfl
@[simp, go_sem] theorem SK.from_drewN_iff {wr w : World} {B k q : Nat} : SK (wr.drewN q) B k w ↔ SK wr B k w := Iff.rfl
theorem SK.alloc {wr w : World} {B k : Nat} (hB : B < wr.heap.size) (h : SK wr B k w) (o : Obj) : SK wr B k (w.alloc o) :=
  ⟨by have := h.1; simp; omega, fun j hj => (World.cell?_of_block (w := w) (a := ⟨B, j, none⟩) (by rw [heap_alloc_old w o (show B < w.heap.size by have := h.1; omega)])).trans (h.2 j hj)⟩
theorem SK.set {wr w : World} {B k : Nat} (h : SK wr B k w) (u : Value) : SK wr B k (w.setCell ⟨B, k, none⟩ u) :=
  ⟨by simpa using h.1, fun j hj => by
    have hne : (⟨B, k, none⟩ : Addr) ≠ ⟨B, j, none⟩ := fun e => by simp only [Addr.mk.injEq] at e; omega
    rw [← h.2 j hj]
    exact World.cell?_setCell_other _ _ _ _ hne⟩
set_option maxRecDepth 40000 in
set_option maxHeartbeats 1000000 in
theorem take_any (s : St) (bs : List UInt8) (hl : bs.length = 64) (w : World) :
    Calls Tryz.prog 79 #[.agg s.arr, .agg (bs.map bv).toArray] w fun e w' => e = .returned (.agg (takeS s bs).arr) ∧ Chg Non w w' := by
  obtain ⟨a, b, c, d, e, f, g, h⟩ := s
  have HL := Lib.hid hl; clear hl
  unfold St.arr
  simp only [wv_eq]
  go_enter Tryz.func79, Tryz.ntmps79
  go_wp2_with fail
  go_loopw [22] (fun i wr => ∃ k : Nat, k ≤ 64 ∧ i = .int .i64 k ∧ TakeW w wr ⟨a, b, c, d, e, f, g, h⟩ bs k) (fun i _ => 64 - (intOf i).toNat)
  case atStart =>
    obtain ⟨h0, h1, h2, h3⟩ := alloc4 w _ _ _ _
    exact ⟨0, by omega, rfl, ⟨h0, h1, ⟨_, h2, rfl⟩, h3, ((((Chg.refl _ _).alloc _).alloc _).alloc _).alloc _⟩⟩
  case round =>
    obtain ⟨k, hk, rfl, ht⟩ := hrel
    have TW := Lib.hid ht
    by_cases h64 : k < 64
    · have k0 : (0 : Int) ≤ (k : Int) := by omega
      have k1 : (k : Int) < 64 := by omega
      obtain ⟨yv, yk⟩ : ∃ v, wr.cell? ⟨w.heap.size + 1 + 1 + 1, k, none⟩ = some v := by
        rw [cell_of_row wr _ _ _ _ _ ht.b3]
        exact ⟨_, Array.getElem?_eq_getElem (show k < (schedRow bs k).size by have := sched_length bs k; simp [schedRow, this]; omega)⟩
      have fk := frozen_of_row wr _ k _ _ ht.b3
      by_cases h16 : k < 16
      · skip
        have byt : ∀ j, j < 4 → ∀ w', Chg (AtB (w.heap.size + 1 + 1 + 1)) wr w' → w'.cell? ⟨w.heap.size + 1, 4 * k + j, none⟩ = some (.int .u8 ((bs.getD (4 * k + j) 0).toNat : Int)) := by
          intro j hj w' hw
          have hlt := (Array.getElem?_eq_some_iff.1 ht.b1).1
          rw [cell_of_row w' _ _ _ _ _ ((hw.block _ hlt (by unfold AtB; omega)).trans ht.b1)]
          have := HL.out
          simp [List.getD, show 4 * k + j < bs.length by omega, bv]
        have y0 : ∀ w', Chg (AtB (w.heap.size + 1 + 1 + 1)) wr w' → w'.cell? ⟨w.heap.size + 1, 4 * k, none⟩ = some (.int .u8 ((bs.getD (4 * k) 0).toNat : Int)) := byt 0 (by omega)
        have y1 := byt 1 (by omega)
        have y2 := byt 2 (by omega)
        have y3 := byt 3 (by omega)
        generalize hx0 : bs.getD (4 * k) 0 = x0 at y0
        generalize hx1 : bs.getD (4 * k + 1) 0 = x1 at y1
        generalize hx2 : bs.getD (4 * k + 2) 0 = x2 at y2
        generalize hx3 : bs.getD (4 * k + 3) 0 = x3 at y3
        have X0 := Lib.hid hx0; have X1 := Lib.hid hx1; have X2 := Lib.hid hx2; have X3 := Lib.hid hx3
        clear hx0 hx1 hx2 hx3 byt ht
        have i0 : IntKind.i64.wrap (4 * (k : Int)) = 4 * (k : Int) := IntWalk.i64_in _ ⟨by omega, by omega⟩
        have i1 : IntKind.i64.wrap (4 * (k : Int) + 1) = 4 * (k : Int) + 1 := IntWalk.i64_in _ ⟨by omega, by omega⟩
        have i2 : IntKind.i64.wrap (4 * (k : Int) + 2) = 4 * (k : Int) + 2 := IntWalk.i64_in _ ⟨by omega, by omega⟩
        have i3 : IntKind.i64.wrap (4 * (k : Int) + 3) = 4 * (k : Int) + 3 := IntWalk.i64_in _ ⟨by omega, by omega⟩
        have j0 : (0 : Int) ≤ 4 * (k : Int) ∧ 4 * (k : Int) < 64 := by omega
        have j1 : (0 : Int) ≤ 4 * (k : Int) + 1 ∧ 4 * (k : Int) + 1 < 64 := by omega
        have j2 : (0 : Int) ≤ 4 * (k : Int) + 2 ∧ 4 * (k : Int) + 2 < 64 := by omega
        have j3 : (0 : Int) ≤ 4 * (k : Int) + 3 ∧ 4 * (k : Int) + 3 < 64 := by omega
        have t0 : (4 * (k : Int)).toNat = 4 * k := by omega
        have t1 : (4 * (k : Int) + 1).toNat = 4 * k + 1 := by omega
        have t2 : (4 * (k : Int) + 2).toNat = 4 * k + 2 := by omega
        have t3 : (4 * (k : Int) + 3).toNat = 4 * k + 3 := by omega
        go_wp2_with fail
        go_region_held3 (fun w' => Chg (AtB (w.heap.size + 1 + 1 + 1)) wr w') (first | exact Chg.drew (Chg.setCell (Chg.refl _ _) (Or.inr (by unfold AtB; rfl)) _) | simp) (fail)
        all_goals go_wp2_with fail
        go_roundw
        case rel => exact ⟨k + 1, by omega, by go_num, TakeW.non (TW.out.step h64 (by rw [nextW, if_pos (by rw [sched_length]; exact h16), sched_length, wordAt, X0.out, X1.out, X2.out, X3.out])) ((Chg.refl _ _).drew)⟩
        case measure => simp [intOf]; omega
      · skip
        have hB := (Array.getElem?_eq_some_iff.1 ht.b3).1
        have old : ∀ j, j < k → ∀ w', SK wr (w.heap.size + 1 + 1 + 1) k w' → w'.cell? ⟨w.heap.size + 1 + 1 + 1, j, none⟩ = some (.int .u32 (wn ((sched bs k).getD j 0))) := by
          intro j hj w' hw
          rw [hw.2 j hj, cell_of_row wr _ _ _ _ _ ht.b3]
          exact schedRow_get bs hj
        have y16 := old (k - 16) (by omega)
        have y15 := old (k - 15) (by omega)
        have y7 := old (k - 7) (by omega)
        have y2 := old (k - 2) (by omega)
        have nx : nextW bs (sched bs k) = (sched bs k).getD (k - 16) 0 + (sched bs k).getD (k - 7) 0 + sg0 ((sched bs k).getD (k - 15) 0) + sg1 ((sched bs k).getD (k - 2) 0) := by
          rw [nextW, if_neg (by rw [sched_length]; exact h16), sched_length]
        generalize (sched bs k).getD (k - 16) 0 = p16 at y16 nx
        generalize (sched bs k).getD (k - 15) 0 = p15 at y15 nx
        generalize (sched bs k).getD (k - 7) 0 = p7 at y7 nx
        generalize (sched bs k).getD (k - 2) 0 = p2 at y2 nx
        have NX := Lib.hid nx
        have i16 : IntKind.i64.wrap ((k : Int) - 16) = (k : Int) - 16 := IntWalk.i64_in _ ⟨by omega, by omega⟩
        have i15 : IntKind.i64.wrap ((k : Int) - 15) = (k : Int) - 15 := IntWalk.i64_in _ ⟨by omega, by omega⟩
        have i7 : IntKind.i64.wrap ((k : Int) - 7) = (k : Int) - 7 := IntWalk.i64_in _ ⟨by omega, by omega⟩
        have i2 : IntKind.i64.wrap ((k : Int) - 2) = (k : Int) - 2 := IntWalk.i64_in _ ⟨by omega, by omega⟩
        have j16 : (0 : Int) ≤ (k : Int) - 16 ∧ (k : Int) - 16 < 64 := by omega
        have j15 : (0 : Int) ≤ (k : Int) - 15 ∧ (k : Int) - 15 < 64 := by omega
        have j7 : (0 : Int) ≤ (k : Int) - 7 ∧ (k : Int) - 7 < 64 := by omega
        have j2 : (0 : Int) ≤ (k : Int) - 2 ∧ (k : Int) - 2 < 64 := by omega
        have m16 : (16 : Int) ≤ (k : Int) ∧ (15 : Int) ≤ (k : Int) ∧ (7 : Int) ≤ (k : Int) ∧ (2 : Int) ≤ (k : Int) := by omega
        obtain ⟨m16, m15, m7, m2⟩ := m16
        have t16 : ((k : Int) - 16).toNat = k - 16 := by omega
        have t15 : ((k : Int) - 15).toNat = k - 15 := by omega
        have t7 : ((k : Int) - 7).toNat = k - 7 := by omega
        have t2 : ((k : Int) - 2).toNat = k - 2 := by omega
        have yk2 : ∀ n A B, (((wr.drewN n).alloc A).alloc B).cell? ⟨w.heap.size + 1 + 1 + 1, k, none⟩ = some yv := fun n A B => by
          refine (World.cell?_of_block (w := wr) ?_).trans yk
          rw [heap_alloc_old _ _ (by simp; omega), heap_alloc_old _ _ (by simpa using hB)]
          rfl
        have fk2 : ∀ n A B, (((wr.drewN n).alloc A).alloc B).frozen? ⟨w.heap.size + 1 + 1 + 1, k, none⟩ = false := fun n A B => by
          refine frozen_of_row _ _ k (schedRow bs k) 169 ?_
          rw [heap_alloc_old _ _ (by simp; omega), heap_alloc_old _ _ (by simpa using hB)]
          exact ht.b3
        have AL : Hid (∀ w' o, SK wr (w.heap.size + 1 + 1 + 1) k w' → SK wr (w.heap.size + 1 + 1 + 1) k (w'.alloc o)) := fun w' o h => SK.alloc hB h o
        clear nx old ht
        go_wp2_with fail
        go_quiet (fail)
        go_wp2_with fail
        go_region_held3 (fun w' => SK wr (w.heap.size + 1 + 1 + 1) k w') (first | (simp; done) | ((try simp only [SK.drew_iff, SK.drewN_iff]); first | exact AL.out _ _ (by simp) | exact AL.out _ _ (AL.out _ _ (by simp)) | exact SK.set (AL.out _ _ (AL.out _ _ (by simp))) _)) (first
          | (go_at_call 107; (with_reducible refine Calls.mono (mixA_any p15 ?_ ?_) ?_); (first | exact newc (heap_alloc_new _ _) rfl | exact newc (heap_alloc2_old _ _ _) rfl | exact newc (heap_alloc2_new _ _ _) rfl); (first | exact newc (heap_alloc_new _ _) rfl | exact newc (heap_alloc2_old _ _ _) rfl | exact newc (heap_alloc2_new _ _ _) rfl); rintro e w' ⟨rfl, rfl⟩)
          | (go_at_call 107; (with_reducible refine Calls.mono (mixB_any p2 ?_ ?_) ?_); (first | exact newc (heap_alloc_new _ _) rfl | exact newc (heap_alloc2_old _ _ _) rfl | exact newc (heap_alloc2_new _ _ _) rfl); (first | exact newc (heap_alloc_new _ _) rfl | exact newc (heap_alloc2_old _ _ _) rfl | exact newc (heap_alloc2_new _ _ _) rfl); rintro e w' ⟨rfl, rfl⟩))
        all_goals go_wp2_with fail
        all_goals go_roundw
        all_goals try (simp [intOf]; omega; done)
        all_goals refine ⟨k + 1, by omega, by go_num, ?_⟩
        all_goals refine TakeW.step' (TW.out.non ?_) h64 ?_
        all_goals first
          | exact (((Chg.refl _ _).drewN _).alloc _).alloc _
          | (rw [NX.out]; (try simp only [wn_shr3, wn_shr10, wn_xor, wn_add]); rfl)
    · have HK : Hid (k = 64) := (show k = 64 by omega)
      have l0 := (Array.getElem?_eq_some_iff.1 ht.b0).1
      have e0 : wr.heap[w.heap.size]? = some (.cells #[.int .u32 (wn a), .int .u32 (wn b), .int .u32 (wn c), .int .u32 (wn d), .int .u32 (wn e), .int .u32 (wn f), .int .u32 (wn g), .int .u32 (wn h)] 82 (0, 0)) := ht.b0
      have q0 := newc (j := 0) e0 rfl
      have q1 := newc (j := 1) e0 rfl
      have q2 := newc (j := 2) e0 rfl
      have q3 := newc (j := 3) e0 rfl
      have q4 := newc (j := 4) e0 rfl
      have q5 := newc (j := 5) e0 rfl
      have q6 := newc (j := 6) e0 rfl
      have q7 := newc (j := 7) e0 rfl
      clear e0 l0 ht
      obtain ⟨w1, rfl⟩ : ∃ w1 : World, w1 = wr := ⟨_, rfl⟩
      go_wp2_with fail
      refine Calls.mono (steps_any _) ?_
      rintro e' w2 ⟨rfl, hc2⟩
      have R2 : Hid (RoundW w w1 w2 ⟨a, b, c, d, e, f, g, h⟩ bs 0) := RoundW.start (by rw [← HK.out]; exact TW.out) (by exact hc2)
      clear h64 hk
      have IX : Hid (∀ k : Nat, k < 64 → ∀ wx, (Instr.index 169 (.agg stepsV) (.int .i64 k)).run Tryz.prog wx = .ok (.int .u32 (wn (kList.getD k 0))) wx) := fun k hk wx => run_index_steps hk wx
      clear hc2 q0 q1 q2 q3 q4 q5 q6 q7
      go_wp2_with fail
      go_loopw [94] (fun i wr => ∃ k : Nat, k ≤ 64 ∧ i = .int .i64 k ∧ RoundW w w1 wr ⟨a, b, c, d, e, f, g, h⟩ bs k) (fun i _ => 64 - (intOf i).toNat)
      case atStart => exact ⟨0, by omega, rfl, R2.out⟩
      case round =>
        obtain ⟨k, hk, rfl, ht⟩ := hrel
        have RW := Lib.hid ht
        by_cases h64 : k < 64
        · skip
          have hx := IX.out k h64
          have rs : roundsN bs ⟨a, b, c, d, e, f, g, h⟩ (k + 1) = roundS (roundsN bs ⟨a, b, c, d, e, f, g, h⟩ k) (kList.getD k 0) ((sched bs 64).getD k 0) := rfl
          have e0 := ht.bn
          have yw : ∀ w', Chg Non wr w' → w'.cell? ⟨w.heap.size + 1 + 1 + 1, k, none⟩ = some (.int .u32 (wn ((sched bs 64).getD k 0))) := fun w' hw => by
            rw [cell_of_row w' _ _ _ _ _ ((hw.block _ (Array.getElem?_eq_some_iff.1 ht.b3).1 (fun h => h)).trans ht.b3)]
            exact schedRow_get bs h64
          generalize roundsN bs ⟨a, b, c, d, e, f, g, h⟩ k = st at rs e0
          obtain ⟨a', b', c', d', e', f', g', h'⟩ := st
          generalize kList.getD k 0 = kk at hx rs
          generalize (sched bs 64).getD k 0 = ww at yw rs
          have RS := Lib.hid rs
          have q0 : wr.cell? ⟨w1.heap.size, 0, none⟩ = some (.int .u32 (wn a')) := newc (j := 0) e0 rfl
          have q1 : wr.cell? ⟨w1.heap.size, 1, none⟩ = some (.int .u32 (wn b')) := newc (j := 1) e0 rfl
          have q2 : wr.cell? ⟨w1.heap.size, 2, none⟩ = some (.int .u32 (wn c')) := newc (j := 2) e0 rfl
          have q3 : wr.cell? ⟨w1.heap.size, 3, none⟩ = some (.int .u32 (wn d')) := newc (j := 3) e0 rfl
          have q4 : wr.cell? ⟨w1.heap.size, 4, none⟩ = some (.int .u32 (wn e')) := newc (j := 4) e0 rfl
          have q5 : wr.cell? ⟨w1.heap.size, 5, none⟩ = some (.int .u32 (wn f')) := newc (j := 5) e0 rfl
          have q6 : wr.cell? ⟨w1.heap.size, 6, none⟩ = some (.int .u32 (wn g')) := newc (j := 6) e0 rfl
          have q7 : wr.cell? ⟨w1.heap.size, 7, none⟩ = some (.int .u32 (wn h')) := newc (j := 7) e0 rfl
          have k0 : (0 : Int) ≤ (k : Int) := by omega
          have k1 : (k : Int) < 64 := by omega
          have HB : Hid (∀ n A B, (((wr.drewN n).alloc A).alloc B).heap[w1.heap.size]? = some (.cells #[.int .u32 (wn a'), .int .u32 (wn b'), .int .u32 (wn c'), .int .u32 (wn d'), .int .u32 (wn e'), .int .u32 (wn f'), .int .u32 (wn g'), .int .u32 (wn h')] 82 (0, 0))) := fun n A B => by
            have hlt := (Array.getElem?_eq_some_iff.1 e0).1
            rw [heap_alloc_old _ _ (by simp; omega), heap_alloc_old _ _ (by simpa using hlt)]
            exact e0
          have SZ : (Tryz.prog.info? 82).map (·.size) = some 8 := by kernel_rfl
          clear rs e0 ht IX
          go_wp2_with fail
          go_quiet (fail)
          go_wp2_with fail
          go_region_held3 (fun w' => Chg Non wr w') (first | (simp; done) | exact ((Chg.refl _ _).alloc _)) ((go_at_call 107; (with_reducible refine Calls.mono (mixC_any e' ?_ ?_ ?_) ?_); exact newc (heap_alloc_new _ _) rfl; exact newc (heap_alloc_new _ _) rfl; exact newc (heap_alloc_new _ _) rfl; rintro e w' ⟨rfl, rfl⟩))
          all_goals go_wp2_with fail
          refine Calls.mono (mixD_any a' (newc (heap_alloc2_new _ _ _) rfl) (newc (heap_alloc2_new _ _ _) rfl) (newc (heap_alloc2_new _ _ _) rfl)) ?_
          rintro e w' ⟨rfl, rfl⟩
          go_wp2_with (refine wpList_store_rowTo rfl 82 (.tmp 9) (.tmp 159) rfl rfl w1.heap.size _ (by rfl) (by rfl) 82 _ (HB.out _ _ _) (by exact SZ) (by rfl) (by simp [Value.oneCell']) ?_)
          go_roundw
          case rel => exact ⟨k + 1, by omega, by go_num, RW.out.step ((((Chg.refl _ _).drewN _).alloc _).alloc _) (by rw [RS.out]; simp only [St.arr, roundS, tOf, uOf, wv, UInt32.add_assoc])⟩
          case measure => simp [intOf]; omega
        · have HK2 : Hid (k = 64) := (show k = 64 by omega)
          have A0 : Hid (AddW w w1 wr ⟨a, b, c, d, e, f, g, h⟩ (roundsN bs ⟨a, b, c, d, e, f, g, h⟩ 64) 0) := AddW.start (by rw [← HK2.out]; exact ht)
          generalize hX : roundsN bs ⟨a, b, c, d, e, f, g, h⟩ 64 = x at A0
          have HX := Lib.hid hX; clear hX
          clear ht RW
          go_wp2_with fail
          go_loopw [161] (fun i wr => ∃ k : Nat, k ≤ 8 ∧ i = .int .i64 k ∧ AddW w w1 wr ⟨a, b, c, d, e, f, g, h⟩ x k) (fun i _ => 8 - (intOf i).toNat)
          case atStart => exact ⟨0, by omega, rfl, A0.out⟩
          case round =>
            obtain ⟨k, hk, rfl, ht⟩ := hrel
            by_cases h8 : k < 8
            · have y1 : wr.cell? ⟨w1.heap.size, k, none⟩ = some (.int .u32 (wn (x.l.getD k 0))) := newc ht.bn (addArr_get x _ h8)
              have y2 : wr.cell? ⟨w.heap.size, k, none⟩ = some (.int .u32 (wn ((⟨a, b, c, d, e, f, g, h⟩ : St).l.getD k 0))) := newc ht.b0 (arr_get _ h8)
              have f1 := frozen_of_row wr _ k _ _ ht.bn
              have ST := Lib.hid (ht.step h8)
              generalize x.l.getD k 0 = p at y1 ST
              generalize (⟨a, b, c, d, e, f, g, h⟩ : St).l.getD k 0 = q at y2 ST
              have k0 : (0 : Int) ≤ (k : Int) := by omega
              have k1 : (k : Int) < 8 := by omega
              clear ht A0
              go_wp2_with fail
              go_region
              all_goals go_wp2_with fail
              all_goals go_roundw
              all_goals first
                | exact ⟨k + 1, by omega, by go_num, ST.out.drew⟩
                | (simp [intOf]; omega)
            · obtain rfl : k = 8 := by omega
              have e0 : wr.heap[w1.heap.size]? = some (.cells (addS x ⟨a, b, c, d, e, f, g, h⟩).arr 82 (0, 0)) := ht.bn
              obtain ⟨cs, b2, hcs⟩ := ht.b2
              generalize hY : addS x ⟨a, b, c, d, e, f, g, h⟩ = y at e0
              obtain ⟨ya, yb, yc, yd, ye, yf, yg, yh⟩ := y
              have q0 : wr.cell? ⟨w1.heap.size, 0, none⟩ = some (.int .u32 (wn ya)) := newc (j := 0) e0 rfl
              have q1 : wr.cell? ⟨w1.heap.size, 1, none⟩ = some (.int .u32 (wn yb)) := newc (j := 1) e0 rfl
              have q2 : wr.cell? ⟨w1.heap.size, 2, none⟩ = some (.int .u32 (wn yc)) := newc (j := 2) e0 rfl
              have q3 : wr.cell? ⟨w1.heap.size, 3, none⟩ = some (.int .u32 (wn yd)) := newc (j := 3) e0 rfl
              have q4 : wr.cell? ⟨w1.heap.size, 4, none⟩ = some (.int .u32 (wn ye)) := newc (j := 4) e0 rfl
              have q5 : wr.cell? ⟨w1.heap.size, 5, none⟩ = some (.int .u32 (wn yf)) := newc (j := 5) e0 rfl
              have q6 : wr.cell? ⟨w1.heap.size, 6, none⟩ = some (.int .u32 (wn yg)) := newc (j := 6) e0 rfl
              have q7 : wr.cell? ⟨w1.heap.size, 7, none⟩ = some (.int .u32 (wn yh)) := newc (j := 7) e0 rfl
              have HY := Lib.hid hY
              have B2 := Lib.hid b2; have HCS := Lib.hid hcs; have CG := Lib.hid ht.chg
              have SZ := Lib.hid (show (Tryz.prog.info? 82).map (·.size) = some 8 by kernel_rfl)
              clear hY b2 hcs ht A0 e0
              go_wp2_with (refine wpList_store_rowTo rfl 82 (.tmp 4) (.tmp 173) rfl rfl (w.heap.size + 1 + 1) _ (by rfl) (by rfl) 82 _ B2.out (by exact SZ.out) (by exact HCS.out) (by simp [Value.oneCell']) ?_)
              have hfin : takeS ⟨a, b, c, d, e, f, g, h⟩ bs = ⟨ya, yb, yc, yd, ye, yf, yg, yh⟩ := by rw [takeS, HX.out, HY.out]
              refine bodyPost_ret (v := .agg #[.int .u32 (wn ya), .int .u32 (wn yb), .int .u32 (wn yc), .int .u32 (wn yd), .int .u32 (wn ye), .int .u32 (wn yf), .int .u32 (wn yg), .int .u32 (wn yh)])
                (results_cell_row (fn := Tryz.f79) (p := 4) (ty := 82) Tryz.results79 _ _ (w.heap.size + 1 + 1) 82 _ (0, 0) (.array 8 80) (by rfl) (setRow_heap _ _ _ _ _ _ B2.out) Tryz.underlying82 rfl SZ.out) rfl
                ⟨by rw [hfin], CG.out.setRow (.inl (by omega)) _⟩
end Go.Proofs.YtbmopcmhokpchaaGreatDoor
