/- Words of this seat's own proofs, over any program: which blocks a step may have turned ('Chg'), a slice that the call owns ('Own'), bytes that can be read ('Rd'), and the laws on append, copy and make over them. -/
import Derived.WalkKit
import Derived.Handy
import Derived.Deep.AppendSrc
import Derived.Laws.CopyOwn
import Derived.Lib.Hide
import Derived.Deep.QuietTactic
import Derived.BigQuiet
namespace Go.Proofs.YtjjppbfknjeddaaGreatDoor
open Go.RowKit

/-- A byte as a cell. -/
def bv (b : UInt8) : Value := .int .u8 (b.toNat : Int)
theorem bv_one (b : UInt8) : (bv b).oneCell' = true := rfl
theorem bvs_one (bs : List UInt8) : ∀ u ∈ bs.map bv, u.oneCell' = true := by
  intro u hu
  obtain ⟨b, _, rfl⟩ := List.mem_map.1 hu
  rfl
theorem bv_inj {a b : UInt8} (h : bv a = bv b) : a = b := by
  unfold bv at h
  simp only [Value.int.injEq, true_and] at h
  exact UInt8.toNat_inj.1 (by omega)

theorem map_take_succ {bs : List UInt8} {k : Nat} (hk : k < bs.length) : (bs.map bv).take (k + 1) = (bs.map bv).take k ++ [bv (bs.getD k 0)] := by
  rw [List.take_succ_eq_append_getElem (by simpa using hk)]
  simp [List.getD, hk]

/-- From w to w' only blocks of S, and new ones, have turned. -/
structure Chg (S : Nat → Prop) (w w' : World) : Prop where
  os : w'.os = w.os
  tape : w'.tape = w.tape
  output : w'.output = w.output
  size : w.heap.size ≤ w'.heap.size
  block : ∀ k, k < w.heap.size → ¬ S k → w'.heap[k]? = w.heap[k]?

def Non : Nat → Prop := fun _ => False

theorem Chg.refl (S : Nat → Prop) (w : World) : Chg S w w := ⟨rfl, rfl, rfl, Nat.le_refl _, fun _ _ _ => rfl⟩
theorem Chg.trans {S : Nat → Prop} {a b c : World} (h : Chg S a b) (k : Chg S b c) : Chg S a c :=
  ⟨k.os.trans h.os, k.tape.trans h.tape, k.output.trans h.output, Nat.le_trans h.size k.size,
   fun i hi hn => (k.block i (Nat.lt_of_lt_of_le hi h.size) hn).trans (h.block i hi hn)⟩
theorem Chg.mono {S T : Nat → Prop} {a b : World} (h : Chg S a b) (hs : ∀ k, k < a.heap.size → S k → T k) : Chg T a b :=
  ⟨h.os, h.tape, h.output, h.size, fun i hi hn => h.block i hi (fun hs' => hn (hs i hi hs'))⟩
/-- A later step may have turned blocks that are new to the first world. -/
theorem Chg.next {S T : Nat → Prop} {a b c : World} (h : Chg S a b) (k : Chg T b c) (ht : ∀ i, i < a.heap.size → T i → S i) : Chg S a c :=
  ⟨k.os.trans h.os, k.tape.trans h.tape, k.output.trans h.output, Nat.le_trans h.size k.size,
   fun i hi hn => (k.block i (Nat.lt_of_lt_of_le hi h.size) (fun h' => hn (ht i hi h'))).trans (h.block i hi hn)⟩
theorem Chg.drew {S : Nat → Prop} {a w : World} (h : Chg S a w) : Chg S a w.drew := ⟨h.os, h.tape, h.output, h.size, h.block⟩
theorem Chg.drewN {S : Nat → Prop} {a w : World} (h : Chg S a w) (n : Nat) : Chg S a (w.drewN n) := ⟨h.os, h.tape, h.output, h.size, h.block⟩
theorem Chg.alloc {S : Nat → Prop} {a w : World} (h : Chg S a w) (o : Obj) : Chg S a (w.alloc o) :=
  h.trans ⟨rfl, rfl, rfl, by simp, fun k hk _ => Below.heap_alloc _ _ _ hk⟩
theorem Chg.setCell {S : Nat → Prop} {a w : World} (h : Chg S a w) {p : Addr} (hp : a.heap.size ≤ p.block ∨ S p.block) (u : Value) : Chg S a (w.setCell p u) :=
  ⟨h.os, h.tape, h.output, by simpa using h.size, fun k hk hn => (Below.heap_setCell _ _ _ _ (fun e => by
    rcases hp with hp | hp
    · omega
    · exact hn (e ▸ hp))).trans (h.block k hk hn)⟩
theorem Chg.setRow {S : Nat → Prop} {a w : World} (h : Chg S a w) {g : Nat} (hp : a.heap.size ≤ g ∨ S g) (cs : Array Value) : Chg S a (w.setRow g cs) :=
  ⟨h.os, h.tape, h.output, by simpa [World.setRow] using h.size, fun k hk hn => (setRow_other w g k cs (fun e => by
    rcases hp with hp | hp
    · omega
    · exact hn (e ▸ hp))).trans (h.block k hk hn)⟩
theorem Chg.of_grown {w w' : World} {row : Option Nat} (h : w.grownBy w' row) : Chg (fun k => some k = row) w w' :=
  ⟨h.os, h.tape, h.output, h.size, h.block⟩
theorem Chg.below {S : Nat → Prop} {w w' : World} {B : Nat} (h : Chg S w w') (hB : B ≤ w.heap.size) (hs : ∀ k, k < B → ¬ S k) : Below B w w' :=
  ⟨h.os, h.tape, h.output, h.size, fun k hk => h.block k (by omega) (hs k hk)⟩
theorem Chg.belowN {w w' : World} (h : Chg Non w w') : Below w.heap.size w w' := h.below (Nat.le_refl _) (fun _ _ h => h)
theorem Chg.of_below {w w' : World} (h : Below w.heap.size w w') : Chg Non w w' := ⟨h.os, h.tape, h.output, h.size, fun k hk _ => h.block k hk⟩
theorem Chg.cell {S : Nat → Prop} {w w' : World} (h : Chg S w w') {p : Addr} (hp : p.block < w.heap.size) (hn : ¬ S p.block) : w'.cell? p = w.cell? p :=
  World.cell?_of_block (w := w) (h.block p.block hp hn)

/-- The slice '.slice ao n cap' owns the cells xs (n elements of sz cells each, of type e), in a block from B on. -/
def Own (w : World) (B : Nat) (e : TypeId) (sz : Nat) (ao : Option Addr) (n cap : Nat) (xs : List Value) : Prop :=
  xs.length = n * sz ∧ n ≤ cap ∧ cap ≤ maxLen ∧ (ao = none → cap = 0) ∧
  ∀ a, ao = some a → ∃ g cur, a = ⟨g, 0, none⟩ ∧ B ≤ g ∧ w.heap[g]? = some (.cells cur e (0, 0)) ∧ cap * sz ≤ cur.size ∧ cur.toList.take (n * sz) = xs

theorem Own.nil (w : World) (B : Nat) (e : TypeId) (sz : Nat) : Own w B e sz none 0 0 [] := ⟨by simp, Nat.le_refl _, Nat.zero_le _, fun _ => rfl, fun _ h => by cases h⟩
theorem Own.of_block {w : World} {B g n cap sz : Nat} {e : TypeId} {cur : Array Value} (hg : w.heap[g]? = some (.cells cur e (0, 0))) (hB : B ≤ g) (hn : n ≤ cap) (hc : cap ≤ maxLen) (hs : cap * sz ≤ cur.size) :
    Own w B e sz (some ⟨g, 0, none⟩) n cap (cur.toList.take (n * sz)) :=
  ⟨by rw [List.length_take, Array.length_toList]; exact Nat.min_eq_left (Nat.le_trans (Nat.mul_le_mul_right _ hn) hs), hn, hc, (fun h => by cases h), fun a ha => (by cases ha; exact ⟨g, cur, rfl, hB, hg, hs, rfl⟩)⟩
/-- The block of a slice's address. -/
def blk (ao : Option Addr) : Option Nat := ao.map (·.block)
theorem Own.lt {w : World} {B : Nat} {e : TypeId} {sz : Nat} {ao : Option Addr} {n cap : Nat} {xs : List Value} (h : Own w B e sz ao n cap xs) : ∀ k, some k = blk ao → B ≤ k ∧ k < w.heap.size := by
  intro k hk
  obtain ⟨_, _, _, _, h⟩ := h
  cases ao with
  | none => simp [blk] at hk
  | some a =>
    obtain ⟨g, cur, rfl, hB, hg, _⟩ := h a rfl
    simp [blk] at hk
    subst hk
    exact ⟨hB, (Array.getElem?_eq_some_iff.1 hg).1⟩
theorem Own.same {w w' : World} {B : Nat} {e : TypeId} {sz : Nat} {ao : Option Addr} {n cap : Nat} {xs : List Value} (h : Own w B e sz ao n cap xs) (hk : ∀ k, some k = blk ao → w'.heap[k]? = w.heap[k]?) : Own w' B e sz ao n cap xs := by
  obtain ⟨h1, h2, h3, h4, h5⟩ := h
  refine ⟨h1, h2, h3, h4, fun a ha => ?_⟩
  obtain ⟨g, cur, rfl, hB, hg, r⟩ := h5 a ha
  exact ⟨g, cur, rfl, hB, by rw [hk g (by rw [ha]; rfl)]; exact hg, r⟩
theorem Own.chg {S : Nat → Prop} {w w' : World} {B : Nat} {e : TypeId} {sz : Nat} {ao : Option Addr} {n cap : Nat} {xs : List Value} (h : Own w B e sz ao n cap xs) (hc : Chg S w w') (hn : ∀ k, some k = blk ao → ¬ S k) : Own w' B e sz ao n cap xs :=
  h.same fun k hk => hc.block k (h.lt k hk).2 (hn k hk)
theorem Own.alloc {w : World} {B : Nat} {e : TypeId} {sz : Nat} {ao : Option Addr} {n cap : Nat} {xs : List Value} (h : Own w B e sz ao n cap xs) (o : Obj) : Own (w.alloc o) B e sz ao n cap xs :=
  h.chg (S := Non) ((Chg.refl _ _).alloc o) (fun _ _ h => h)
theorem Own.drew {w : World} {B : Nat} {e : TypeId} {sz : Nat} {ao : Option Addr} {n cap : Nat} {xs : List Value} (h : Own w B e sz ao n cap xs) : Own w.drew B e sz ao n cap xs := h
theorem Own.drewN {w : World} {B : Nat} {e : TypeId} {sz : Nat} {ao : Option Addr} {n cap : Nat} {xs : List Value} (h : Own w B e sz ao n cap xs) (q : Nat) : Own (w.drewN q) B e sz ao n cap xs := h
theorem Own.mono {w : World} {B B' : Nat} {e : TypeId} {sz : Nat} {ao : Option Addr} {n cap : Nat} {xs : List Value} (h : Own w B e sz ao n cap xs) (hB : B' ≤ B) : Own w B' e sz ao n cap xs := by
  obtain ⟨h1, h2, h3, h4, h5⟩ := h
  refine ⟨h1, h2, h3, h4, fun a ha => ?_⟩
  obtain ⟨g, cur, rfl, hB', hg, r⟩ := h5 a ha
  exact ⟨g, cur, rfl, by omega, hg, r⟩
/-- Where something is owned it lies at a block's head; its cells can be read, and written. -/
theorem Own.form {w : World} {B : Nat} {e : TypeId} {sz : Nat} {ao : Option Addr} {n cap : Nat} {xs : List Value} (h : Own w B e sz ao n cap xs) (hn : 0 < cap) :
    ∃ g, ao = some ⟨g, 0, none⟩ ∧ B ≤ g ∧ g < w.heap.size ∧ (∀ j, w.frozen? ⟨g, j, none⟩ = false) ∧ (∀ j, j < n * sz → w.cell? ⟨g, j, none⟩ = xs[j]?) ∧ (∀ j, j < cap * sz → (w.cell? ⟨g, j, none⟩).isSome = true) := by
  obtain ⟨h1, h2, h3, h4, h5⟩ := h
  cases ao with
  | none => have := h4 rfl; omega
  | some a =>
    obtain ⟨g, cur, rfl, hB, hg, hs, ht⟩ := h5 a rfl
    refine ⟨g, rfl, hB, (Array.getElem?_eq_some_iff.1 hg).1, fun j => frozen_of_row w g j cur e hg, fun j hj => ?_, fun j hj => ?_⟩
    · rw [cell_of_row w g j cur e (0, 0) hg, ← ht, List.getElem?_take, if_pos hj]; simp
    · rw [cell_of_row w g j cur e (0, 0) hg]; simp; omega
theorem Own.le {w : World} {B : Nat} {e : TypeId} {sz : Nat} {ao : Option Addr} {n cap : Nat} {xs : List Value} (h : Own w B e sz ao n cap xs) : n ≤ cap ∧ cap ≤ maxLen := ⟨h.2.1, h.2.2.1⟩

/-- 'append', whatever is appended, onto a slice that the call owns. -/
theorem run_append_Own {P : Program} {w : World} {B : Nat} {e : TypeId} {sz : Nat} {ao : Option Addr} {n cap : Nat} {xs : List Value} {x : Value} {m : Nat} {news : List Value} {by_ : Nat}
    (t tx ty : TypeId) (i : TypeInfo) (z : Value) (ht : P.underlying t = some (.slice e)) (hi : P.info? e = some i) (hz : i.zero = some z) (hsz : i.size = sz) (hzs : z.cells.size = sz) (hby : i.bytes = by_)
    (hown : Own w B e sz ao n cap xs) (hs : Src P sz tx x m news w) (h63 : n + m ≤ maxLen) (hb : (n + m) * by_ ≤ 140737488355328) (hB : B ≤ w.heap.size) :
    ∃ ao' cap' w', (Builtin.append_ #[t, tx] ty #[.slice ao n cap, x]).run P w = .ok (.slice ao' (n + m) cap') w' ∧ Own w' B e sz ao' (n + m) cap' (xs ++ news) ∧
      Chg (fun k => some k = blk ao ∧ n + m ≤ cap ∧ 0 < m) w w' ∧ (blk ao' = blk ao ∨ blk ao' = some w.heap.size) ∧ (n + m ≤ cap → cap' = cap ∧ ao' = ao) := by
  subst hsz
  obtain ⟨h1, h2, h3, h4, h5⟩ := hown
  have hlen : (xs ++ news).length = (n + m) * i.size := by rw [List.length_append, h1, hs.newsLen, Nat.add_mul]
  by_cases hroom : n + m ≤ cap
  · cases ao with
    | none =>
      obtain rfl := h4 rfl
      obtain ⟨rfl, rfl⟩ : n = 0 ∧ m = 0 := by omega
      have hn : news = [] := List.eq_nil_of_length_eq_zero (by simpa using hs.newsLen)
      have hx : xs = [] := List.eq_nil_of_length_eq_zero (by simpa using h1)
      subst hn; subst hx
      refine ⟨none, 0, w, ?_, Own.nil _ _ _ _, Chg.refl _ _, .inl rfl, fun _ => ⟨rfl, rfl⟩⟩
      rcases hs.kind with ⟨e', hk⟩ | hk <;> simp [Builtin.append_, run_underlying ht, run_underlying hk, sizeOf, typeInfo, hi, hs.len, hs.cells]
    | some a =>
      obtain ⟨g, cur, rfl, hBg, hg, hcs, htake⟩ := h5 a rfl
      have hfit : n * i.size + news.length ≤ cur.size := by rw [hs.newsLen, ← Nat.add_mul]; exact Nat.le_trans (Nat.mul_le_mul_right _ hroom) hcs
      have hst := run_storeCells_at P g (n * i.size) e news 0 cur w hg (by simpa using hfit) hs.one
      simp only [Nat.add_zero] at hst
      have hr : (Builtin.append_ #[t, tx] ty #[.slice (some ⟨g, 0, none⟩) n cap, x]).run P w = .ok (.slice (some ⟨g, 0, none⟩) (n + m) cap) (w.setRow g (cur.toList.take (n * i.size) ++ news ++ cur.toList.drop (n * i.size + news.length)).toArray) := by
        rcases hs.kind with ⟨e', hk⟩ | hk <;> simp [Builtin.append_, run_underlying ht, run_underlying hk, sizeOf, typeInfo, hi, hs.len, hroom, hs.cells, Addr.add_lit, hst]
      refine ⟨some ⟨g, 0, none⟩, cap, _, hr, ⟨hlen, hroom, h3, (fun h => by cases h), fun a ha => ?_⟩, ?_, .inl rfl, fun _ => ⟨rfl, rfl⟩⟩
      · cases ha
        refine ⟨g, _, rfl, hBg, setRow_heap w g cur _ e _ hg, ?_, ?_⟩
        · simp only [List.size_toArray, List.length_append, List.length_take, List.length_drop, Array.length_toList]
          omega
        · rw [htake, ← hlen]
          exact List.take_left
      · by_cases hm : m = 0
        · subst hm
          have hn : news = [] := List.eq_nil_of_length_eq_zero (by simpa using hs.newsLen)
          subst hn
          simp only [List.append_nil, List.length_nil, Nat.add_zero, List.take_append_drop, Array.toArray_toList]
          rw [setRow_self w g cur e (0, 0) hg]
          exact Chg.refl _ _
        · exact (Chg.refl _ _).setRow (.inr ⟨rfl, hroom, by omega⟩) _
  · have hm0 : 0 < m := by omega
    have hge := grownCap_ge w (n + m) cap e
    have hcm : grownCap w (n + m) cap e ≤ maxLen := grownCap_le_maxLen w (n + m) cap e h63
    have hold : (Builtin.firstCells i.size n (.slice ao n cap)).run P w.drew = .ok xs.toArray w.drew := by
      cases ao with
      | none =>
        obtain rfl := h4 rfl
        obtain rfl : n = 0 := by omega
        have hx : xs = [] := List.eq_nil_of_length_eq_zero (by simpa using h1)
        subst hx
        exact run_firstCells_none _ _ _ _ _
      | some a =>
        obtain ⟨g, cur, rfl, hBg, hg, hcs, htake⟩ := h5 a rfl
        refine run_firstCells_some _ _ _ _ _ _ _ h1 fun j u hu => ?_
        have hadd : (⟨g, 0, none⟩ : Addr).add j = ⟨g, j, none⟩ := by unfold Addr.add; split <;> simp_all
        rw [hadd, cell_of_row w.drew g j cur e (0, 0) hg]
        rw [← htake, List.getElem?_take] at hu
        split at hu
        · simpa using hu
        · cases hu
    have h63' : ((n + m : Nat) : Int) ≤ 9223372036854775807 := by simp only [maxLen] at h63; omega
    have hr := run_append_grow_src (P := P) w t tx ty e i z ht hi hz ao n cap xs hold x m news hs (by omega) h63' (by rw [hby]; exact growslice_fits (by omega) hb)
    refine ⟨_, _, _, hr, ⟨hlen, hge, hcm, (fun h => by cases h), fun a ha => ?_⟩, ?_, .inr rfl, fun h => absurd h hroom⟩
    · cases ha
      refine ⟨w.heap.size, _, rfl, hB, heap_alloc_new w.drew _, ?_, ?_⟩
      · have hsum : (n + m) * i.size + (grownCap w (n + m) cap e - (n + m)) * i.size = grownCap w (n + m) cap e * i.size := by
          rw [← Nat.add_mul]; congr 1; omega
        simp only [Array.size_append, List.size_toArray, size_zeroCells, hzs, hlen]
        omega
      · simp only [Array.toList_append]
        rw [← hlen]
        exact List.take_left
    · exact ((Chg.refl _ w).drew).alloc _

theorem wp_append_Own {P : Program} {o : Oper} {a : Act} {K : Act → World → Prop} {Q : Exit → Act → World → Prop} {w : World} (s y : Operand) (t tx : TypeId)
    (ho : o.op = .call { callee := .builtin .append, args := #[s, y], argTypes := #[t, tx] })
    (B : Nat) (e : TypeId) (sz by_ : Nat) (i : TypeInfo) (z : Value) (ht : P.underlying t = some (.slice e)) (hi : P.info? e = some i) (hz : i.zero = some z) (hsz : i.size = sz) (hzs : z.cells.size = sz) (hby : i.bytes = by_)
    (ao : Option Addr) (n cap : Nat) (xs : List Value) (hv : a.eval s = .slice ao n cap) (hown : Own w B e sz ao n cap xs)
    (x : Value) (m : Nat) (news : List Value) (hx : a.eval y = x) (hs : Src P sz tx x m news w) (h63 : n + m ≤ maxLen) (hb : (n + m) * by_ ≤ 140737488355328) (hB : B ≤ w.heap.size)
    (h : ∀ ao' cap' w', Own w' B e sz ao' (n + m) cap' (xs ++ news) → Chg (fun k => some k = blk ao ∧ n + m ≤ cap ∧ 0 < m) w w' → (blk ao' = blk ao ∨ blk ao' = some w.heap.size) → (n + m ≤ cap → cap' = cap ∧ ao' = ao) →
      K (a.put o.dst (.slice ao' (n + m) cap')) w') : o.wp P a w K Q := by
  obtain ⟨ao', cap', w', hr, h1, h2, h3, h4⟩ := run_append_Own (P := P) t tx o.type i z ht hi hz hsz hzs hby hown hs h63 hb hB
  unfold Oper.wp execOp
  simp only [ho, resolve, invoke, builtin, Sem.run_bind, Sem.run_pure, Result.andThen_ok, List.map_toArray, List.map_cons, List.map_nil, hv, hx, hr]
  exact h ao' cap' w' h1 h2 h3 h4

theorem wpList_append_Own {P : Program} {ops : Array Oper} {rest : List Oper} {o : Oper} {a : Act} {Q : Exit → Act → World → Prop} {w : World} (hgd : o.guard = none) (s y : Operand) (t tx : TypeId)
    (ho : o.op = .call { callee := .builtin .append, args := #[s, y], argTypes := #[t, tx] })
    (B : Nat) (e : TypeId) (sz by_ : Nat) (i : TypeInfo) (z : Value) (ht : P.underlying t = some (.slice e)) (hi : P.info? e = some i) (hz : i.zero = some z) (hsz : i.size = sz) (hzs : z.cells.size = sz) (hby : i.bytes = by_)
    (ao : Option Addr) (n cap : Nat) (xs : List Value) (hv : a.eval s = .slice ao n cap) (hown : Own w B e sz ao n cap xs)
    (x : Value) (m : Nat) (news : List Value) (hx : a.eval y = x) (hs : Src P sz tx x m news w) (h63 : n + m ≤ maxLen) (hb : (n + m) * by_ ≤ 140737488355328) (hB : B ≤ w.heap.size)
    (h : ∀ ao' cap' w', Own w' B e sz ao' (n + m) cap' (xs ++ news) → Chg (fun k => some k = blk ao ∧ n + m ≤ cap ∧ 0 < m) w w' → (blk ao' = blk ao ∨ blk ao' = some w.heap.size) → (n + m ≤ cap → cap' = cap ∧ ao' = ao) →
      wpList P ops Q rest (a.put o.dst (.slice ao' (n + m) cap')) w') : wpList P ops Q (o :: rest) a w :=
  wpList_plain hgd fun _ hK => wp_append_Own s y t tx ho B e sz by_ i z ht hi hz hsz hzs hby ao n cap xs hv hown x m news hx hs h63 hb hB fun ao' cap' w' h1 h2 h3 h4 => hK _ _ (h ao' cap' w' h1 h2 h3 h4)

theorem step_append_Own {P : Program} {ops : Array Oper} {o : Oper} {a : Act} {K : Act → World → Prop} {Q : Exit → Act → World → Prop} {E : Prop} {w : World} (hgd : o.guard = none) (s y : Operand) (t tx : TypeId)
    (ho : o.op = .call { callee := .builtin .append, args := #[s, y], argTypes := #[t, tx] })
    (B : Nat) (e : TypeId) (sz by_ : Nat) (i : TypeInfo) (z : Value) (ht : P.underlying t = some (.slice e)) (hi : P.info? e = some i) (hz : i.zero = some z) (hsz : i.size = sz) (hzs : z.cells.size = sz) (hby : i.bytes = by_)
    (ao : Option Addr) (n cap : Nat) (xs : List Value) (hv : a.eval s = .slice ao n cap) (hown : Own w B e sz ao n cap xs)
    (x : Value) (m : Nat) (news : List Value) (hx : a.eval y = x) (hs : Src P sz tx x m news w) (h63 : n + m ≤ maxLen) (hb : (n + m) * by_ ≤ 140737488355328) (hB : B ≤ w.heap.size)
    (h : ∀ ao' cap' w', Own w' B e sz ao' (n + m) cap' (xs ++ news) → Chg (fun k => some k = blk ao ∧ n + m ≤ cap ∧ 0 < m) w w' → (blk ao' = blk ao ∨ blk ao' = some w.heap.size) → (n + m ≤ cap → cap' = cap ∧ ao' = ao) →
      K (a.put o.dst (.slice ao' (n + m) cap')) w') : if Region.wanted o (yielded ops a.tmps) = true then Oper.wp P o a w K Q else E := by
  have hw : Region.wanted o (yielded ops a.tmps) = true := by simp [Region.wanted, hgd]
  rw [if_pos hw]
  exact wp_append_Own s y t tx ho B e sz by_ i z ht hi hz hsz hzs hby ao n cap xs hv hown x m news hx hs h63 hb hB h

theorem wpList_make_any {P : Program} {w : World} {ops : Array Oper} {rest : List Oper} {o : Oper} {a : Act} {Q : Exit → Act → World → Prop}
    (hg : o.guard = none) (l c : Operand) (t : TypeId) (hop : o.op = Op.makeSlice t l c)
    (e : TypeId) (i : TypeInfo) (z : Value) (sz by_ : Nat) (h1 : P.underlying t = some (.slice e)) (h2 : P.info? e = some i) (h3 : i.zero = some z) (h4 : i.size = sz) (h5 : i.bytes = by_)
    (kl kc : IntKind) (I J : Int) (L C : Nat) (hl : a.eval l = .int kl I) (hc : a.eval c = .int kc J) (hI : I = (L : Int)) (hJ : J = (C : Int)) (hLC : L ≤ C) (b2 : by_ * C ≤ 281474976710656) (b3 : C ≤ maxLen)
    (hK : wpList P ops Q rest (a.put o.dst (.slice (some ⟨w.heap.size, 0, none⟩) L C)) (w.alloc (.cells (madeCells z.cells (C * sz)) e))) :
    wpList P ops Q (o :: rest) a w := by
  subst h4; subst h5; subst hI; subst hJ
  have hrun := run_make (P := P) w t e i z h1 h2 h3 kl kc (L : Int) (C : Int) (by omega) (by omega) (by have := Int.ofNat_le.2 b2; simpa using this) (by unfold maxLen at b3; omega)
  refine wpList_plain hg fun K hK' => ?_
  unfold Oper.wp execOp
  simp only [hop, hl, hc, Sem.run_bind, hrun, Result.andThen_ok, Sem.run_pure, Int.toNat_natCast]
  exact hK' _ _ hK
theorem madeCells_one (z : Value) (n : Nat) : madeCells #[z] n = (List.replicate n z).toArray := by
  apply Array.ext'
  rw [toList_madeCells_one]

/-- The slice '.slice ao n cap' reads as the bytes bs, in block b (whatever b, where there are none). -/
def Rd (w : World) (b : Nat) (ao : Option Addr) (n cap : Nat) (bs : List UInt8) : Prop :=
  bs.length = n ∧ n ≤ cap ∧ cap ≤ maxLen ∧ (ao = none → cap = 0) ∧ (0 < cap → ∃ off, ao = some ⟨b, off, none⟩ ∧ ∀ i, i < n → w.cell? ⟨b, off + i, none⟩ = some (bv (bs.getD i 0)))
theorem Rd.nil (w : World) (b : Nat) : Rd w b none 0 0 [] := ⟨rfl, Nat.le_refl _, Nat.zero_le _, fun _ => rfl, fun h => by omega⟩
theorem Rd.same {w w' : World} {b : Nat} {ao : Option Addr} {n cap : Nat} {bs : List UInt8} (h : Rd w b ao n cap bs) (hb : 0 < n → w'.heap[b]? = w.heap[b]?) : Rd w' b ao n cap bs := by
  obtain ⟨h1, h2, h3, h4, h5⟩ := h
  refine ⟨h1, h2, h3, h4, fun hn => ?_⟩
  obtain ⟨off, ha, hc⟩ := h5 hn
  exact ⟨off, ha, fun i hi => (World.cell?_of_block (w := w) (a := ⟨b, off + i, none⟩) (hb (by omega))).trans (hc i hi)⟩
theorem Rd.drewN {w : World} {b : Nat} {ao : Option Addr} {n cap : Nat} {bs : List UInt8} (h : Rd w b ao n cap bs) (q : Nat) : Rd (w.drewN q) b ao n cap bs := h
theorem Rd.lt {w : World} {b : Nat} {ao : Option Addr} {n cap : Nat} {bs : List UInt8} (h : Rd w b ao n cap bs) (hn : 0 < n) : b < w.heap.size := by
  obtain ⟨h1, h2, h3, h4, h5⟩ := h
  obtain ⟨off, ha, hc⟩ := h5 (by omega)
  exact World.block_lt_of_cell? w ⟨b, off + 0, none⟩ (hc 0 hn)
theorem Rd.chg {S : Nat → Prop} {w w' : World} {b : Nat} {ao : Option Addr} {n cap : Nat} {bs : List UInt8} (h : Rd w b ao n cap bs) (hc : Chg S w w') (hn : ¬ S b) : Rd w' b ao n cap bs :=
  h.same fun hp => hc.block b (h.lt hp) hn
theorem Rd.of_Own {w : World} {B : Nat} {e : TypeId} {ao : Option Addr} {n cap : Nat} {bs : List UInt8} (h : Own w B e 1 ao n cap (bs.map bv)) : ∃ b, (0 < cap → some b = blk ao) ∧ Rd w b ao n cap bs := by
  have h0 := h
  obtain ⟨h1, h2, h3, h4, _⟩ := h
  have hl : bs.length = n := by simpa using h1
  by_cases hp : 0 < cap
  · obtain ⟨g, rfl, _, _, _, hc, _⟩ := h0.form hp
    refine ⟨g, fun _ => rfl, hl, h2, h3, h4, fun _ => ⟨0, rfl, fun i hi => ?_⟩⟩
    rw [Nat.zero_add, hc i (by omega)]
    simp [List.getD, show i < bs.length by omega]
  · exact ⟨0, fun h => absurd h hp, hl, h2, h3, h4, fun h => absurd h hp⟩
theorem Rd.src {P : Program} {w : World} {b : Nat} {ao : Option Addr} {n cap : Nat} {bs : List UInt8} {tx e' : TypeId} (h : Rd w b ao n cap bs) (hk : P.underlying tx = some (.slice e')) : Src P 1 tx (.slice ao n cap) n (bs.map bv) w := by
  obtain ⟨h1, h2, h3, h4, h5⟩ := h
  cases ao with
  | none =>
    obtain rfl := h4 rfl
    obtain rfl : n = 0 := by omega
    have : bs = [] := List.eq_nil_of_length_eq_zero h1
    subst this
    exact Src.ofNil w hk 0
  | some a =>
    refine Src.ofSlice w hk a n cap _ (by simpa using h1) (fun j u hu => ?_) (bvs_one bs)
    have hj : j < bs.length := by simpa using (List.getElem?_eq_some_iff.1 hu).1
    obtain ⟨off, ha, hc⟩ := h5 (by omega)
    cases ha
    rw [Addr.add_lit, hc j (by omega)]
    simp [List.getD, hj] at hu ⊢
    exact hu
/-- One new cell, as what is appended. -/
theorem Src.cells {P : Program} {w : World} {tx e' : TypeId} (hk : P.underlying tx = some (.slice e')) {g : Nat} {cs : Array Value} {e : TypeId} {fr : Nat × Nat} (hg : w.heap[g]? = some (.cells cs e fr)) (c sz m : Nat) (hm : cs.size = m * sz) (h1 : ∀ u ∈ cs.toList, u.oneCell' = true) :
    Src P sz tx (.slice (some ⟨g, 0, none⟩) m c) m cs.toList w := by
  refine Src.ofSlice w hk _ m c _ (by simpa using hm) (fun j u hu => ?_) h1
  have hadd : (⟨g, 0, none⟩ : Addr).add j = ⟨g, j, none⟩ := by unfold Addr.add; split <;> simp_all
  rw [hadd, cell_of_row w g j cs e fr hg]
  simpa using hu
/-- An argument's reading (OpenShut's words) as bytes. -/
theorem Rd.of_ints {w : World} {x : Addr} {len cap : Nat} {zs : List Int} (hl : len ≤ cap) (hm : cap ≤ maxLen) (hz : zs.length = cap) (hcell : ∀ i, i < zs.length → w.cell? (x.add i) = some (.int .u8 (zs.getD i 0))) (hwz : ∀ n ∈ zs, (Lit.int .u8 n).wf = true) :
    ∃ b bs, Rd w b (some x) len cap bs ∧ (0 < cap → b < w.heap.size) := by
  by_cases hp : 0 < cap
  · obtain ⟨b, off, spot⟩ := x
    have hc := hcell 0 (by omega)
    have hspot : spot = none := by simpa [Addr.add] using World.cell?_spot hc
    subst hspot
    have hb : ∀ n ∈ zs, 0 ≤ n ∧ n < 256 := fun n hn => by
      have := hwz n hn
      simp [Lit.wf, IntKind.min, IntKind.max] at this
      first | omega | (simp [IntKind.signed, IntKind.bits] at this; omega)
    refine ⟨b, (zs.take len).map (fun z => UInt8.ofNat z.toNat), ⟨by simp; omega, hl, hm, (fun h => by cases h), fun _ => ⟨off, rfl, fun i hi => ?_⟩⟩, fun _ => by simpa [Addr.add] using World.block_lt_of_cell? w _ hc⟩
    have h1 := hcell i (by omega)
    rw [Addr.add_lit] at h1
    rw [h1]
    have hzi := hb (zs.getD i 0) (by simp [List.getD, show i < zs.length by omega])
    have e1 : (((zs.take len).map (fun z => UInt8.ofNat z.toNat)).getD i 0) = UInt8.ofNat (zs.getD i 0).toNat := by
      simp [List.getD, show i < zs.length by omega, hi]
    rw [e1]
    unfold bv
    simp only [UInt8.toNat_ofNat', Option.some.injEq, Value.int.injEq, true_and]
    omega
  · obtain rfl : cap = 0 := by omega
    obtain rfl : len = 0 := by omega
    exact ⟨0, [], ⟨rfl, Nat.le_refl _, Nat.zero_le _, (fun h => by cases h), fun h => by omega⟩, fun h => by omega⟩

/-- 'copy(d, s)' onto a row that is known whole, from bytes that can be read. -/
theorem wpList_copy_Rd {P : Program} {w : World} {ops : Array Oper} {rest : List Oper} {o : Oper} {a : Act} {Q : Exit → Act → World → Prop} (hgd : o.guard = none) (d s : Operand) (dT sT : TypeId)
    (ho : o.op = .call { callee := .builtin .copy, args := #[d, s], argTypes := #[dT, sT] }) (e : TypeId) (hu : P.underlying dT = some (.slice e)) (hsz : (P.info? e).map (·.size) = some 1)
    (dao : Option Addr) (dLen dCap g off : Nat) (cur : Array Value) (t : TypeId) (hd : a.eval d = .slice dao dLen dCap) (hdst : 0 < dLen → dao = some ⟨g, off, none⟩) (hg : w.heap[g]? = some (.cells cur t (0, 0))) (hfit : off + dLen ≤ cur.size)
    (ao : Option Addr) (n cap b : Nat) (bs : List UInt8) (hs : a.eval s = .slice ao n cap) (hr : Rd w b ao n cap bs)
    (h : wpList P ops Q rest (a.put o.dst (.int .i64 (min n dLen : Nat))) (w.setRow g (cur.toList.take off ++ ((bs.map bv).take dLen ++ cur.toList.drop (off + min n dLen))).toArray)) : wpList P ops Q (o :: rest) a w := by
  obtain ⟨r1, r2, r3, r4, r5⟩ := hr
  have hlen : ((bs.map bv).take dLen).length = Nat.min n dLen := by simp [r1, Nat.min_comm]
  by_cases h0 : min n dLen = 0
  · have e0 : (bs.map bv).take dLen = [] := List.eq_nil_of_length_eq_zero (by rw [hlen]; exact h0)
    refine wpList_copy_nothing hgd d s dT sT ho e hu hsz dao ao dLen dCap n cap hd hs h0 ?_
    rw [e0, h0] at h
    simp only [List.nil_append, Nat.add_zero, List.take_append_drop, Array.toArray_toList] at h
    rw [setRow_self w g cur t (0, 0) hg] at h
    exact h
  · have hd' := hdst (by omega)
    obtain ⟨off', rfl, hc⟩ := r5 (by omega)
    subst hd'
    refine wpList_copy_own hgd d s dT sT ho e hu hsz g off dLen dCap ⟨b, off', none⟩ n cap hd hs cur t hg ((bs.map bv).take dLen) hlen (fun j u hj => ?_) (by rw [hlen]; have : Nat.min n dLen ≤ dLen := Nat.min_le_right _ _; omega) (fun u hu' => bvs_one bs u (List.mem_of_mem_take hu')) ?_
    · have hjl : j < Nat.min n dLen := by rw [← hlen]; exact (List.getElem?_eq_some_iff.1 hj).1
      have hjn : j < n := Nat.lt_of_lt_of_le hjl (Nat.min_le_left _ _)
      rw [Addr.add_lit, hc j hjn]
      rw [List.getElem?_take, if_pos (Nat.lt_of_lt_of_le hjl (Nat.min_le_right _ _))] at hj
      simp [List.getD, show j < bs.length by omega] at hj ⊢
      exact hj
    · rw [hlen]; exact h

/-- 'string(b)' of bytes that can be read. -/
theorem Rd.string {P : Program} {w : World} {b : Nat} {ao : Option Addr} {n cap : Nat} {bs : List UInt8} (h : Rd w b ao n cap bs) {src dst e : TypeId} (hs : P.underlying src = some (.slice e)) (he : P.underlying e = some (.int .u8)) (hd : P.underlying dst = some .string) :
    (convert src dst (.slice ao n cap)).run P w = .ok (.string ⟨bs.toArray⟩) w := by
  obtain ⟨h1, h2, h3, h4, h5⟩ := h
  by_cases hp : 0 < cap
  · obtain ⟨off, rfl, hc⟩ := h5 hp
    rw [run_convert_bytes_arg (P := P) w src e hs he b off n cap (bs.map fun c => (c.toNat : Int)) (by simpa using h1) (fun i hi => by
      rw [hc i hi]; simp [bv, List.getD, show i < bs.length by omega]) dst hd]
    congr 2
    unfold strOfNums
    congr 1
    apply Array.ext'
    simp only [List.map_map]
    have e2 : ((fun n : Int => UInt8.ofNat n.toNat) ∘ fun c : UInt8 => (c.toNat : Int)) = id := by
      funext c
      simp
    rw [e2, List.map_id]
  · have hcap : cap = 0 := by omega
    subst hcap
    obtain rfl : n = 0 := by omega
    have hb : bs = [] := List.eq_nil_of_length_eq_zero h1
    subst hb
    cases ao with
    | none => rw [run_convert_bytes_nil w src e hs he 0 0 dst hd]; rfl
    | some a =>
      have hl : (loadCells a 0).run P w = .ok #[] w := by simpa using run_loadCells_list (P := P) w a [] (by simp)
      rw [run_convert_bytes_string w src dst e _ 0 0 hs he hd, run_bytesToString w a 0 0 [] (by simpa using hl)]
      rfl

def plainD : TypeDesc → Bool | .struct _ | .array _ _ => false | _ => true
/-- An element of an array value, each of one cell. -/
theorem run_index_agg {P : Program} {t e : TypeId} {len : Nat} {d : TypeDesc} (ht : P.underlying t = some (.array len e)) (he : P.underlying e = some d) (hd : plainD d = true)
    (hs : (P.info? e).map (·.size) = some 1) {cs : Array Value} {k : Nat} {kd : IntKind} {v : Value} (hk : k < len) (hv : cs[k]? = some v) (w : World) : (Instr.index t (.agg cs) (.int kd k)).run P w = .ok v w := by
  obtain ⟨i, hi, hs⟩ := Option.map_eq_some_iff.1 hs
  have hb : (0 : Int) ≤ (k : Int) ∧ (k : Int) < ((len : Nat) : Int) := ⟨by omega, by omega⟩
  simp only [Instr.index, asIntOf, Sem.run_bind, Sem.run_pure, Result.andThen_ok, run_underlying ht]
  rw [if_pos hb]
  have hagg : (isAgg e).run P w = .ok false w := by
    unfold isAgg
    rw [Sem.run_bind, run_underlying he w]
    cases d <;> simp_all [plainD]
  simp only [Sem.run_bind, sizeOf, typeInfo, part, Int.toNat_natCast]
  simp [hi, hs, hv, hagg]

/-! A whole array or struct, loaded out of a block that is known whole: as a rule for a single operation ('attribute [local go_sem ↓] run_load_row_op'): the facts 'IsRowAt', 'rowAt' lie among the hypotheses. -/
def rowD : TypeDesc → Bool | .struct _ | .array _ _ => true | _ => false
def rowAt (w : World) : Value → Value
  | .pointer (some a) => (match w.heap[a.block]? with | some (.cells cs _ _) => .agg cs | _ => undef)
  | _ => undef
def IsRowAt (P : Program) (ty : TypeId) (w : World) (v : Value) : Prop := ∃ g cs t fr d, v = .pointer (some ⟨g, 0, none⟩) ∧ w.heap[g]? = some (.cells cs t fr) ∧ P.underlying ty = some d ∧ rowD d = true ∧ (P.info? ty).map (·.size) = some cs.size
theorem IsRowAt.mk {P : Program} {ty : TypeId} {w : World} {g : Nat} {cs : Array Value} {t : TypeId} {fr : Nat × Nat} {d : TypeDesc} (hg : w.heap[g]? = some (.cells cs t fr)) (hu : P.underlying ty = some d) (hd : rowD d = true) (hi : (P.info? ty).map (·.size) = some cs.size) : IsRowAt P ty w (.pointer (some ⟨g, 0, none⟩)) := ⟨g, cs, t, fr, d, rfl, hg, hu, hd, hi⟩
theorem rowAt_mk {w : World} {g : Nat} {cs : Array Value} {t : TypeId} {fr : Nat × Nat} (hg : w.heap[g]? = some (.cells cs t fr)) : rowAt w (.pointer (some ⟨g, 0, none⟩)) = .agg cs := by simp [rowAt, hg]
theorem run_load_row_op {P : Program} {ρ : Operand → Value} {dst : Option Tmp} {ty type : TypeId} {x : Operand} {pos : String} {after : Array Edge} {guard : Option (Nat × Bool)} {w : World} (h : IsRowAt P ty w (ρ x)) :
    (execOp ρ { dst, op := .load ty x, type, pos, after, guard }).run P w = .ok (.value (rowAt w (ρ x))) w := by
  obtain ⟨g, cs, t, fr, d, hv, hg, hu, hd, hi⟩ := h
  simp only [execOp, hv, Instr.loadAt, Instr.sureAddr, Sem.run_bind, Sem.run_pure, Result.andThen_ok, run_loadVar_row w g t ty cs fr d hg hu (by cases d <;> first | rfl | cases hd) hi, rowAt_mk hg]
@[simp, go_sem] theorem Chg.drew_iff {S : Nat → Prop} {a w : World} : Chg S a w.drew ↔ Chg S a w := ⟨fun h => ⟨h.os, h.tape, h.output, h.size, h.block⟩, Chg.drew⟩
@[simp, go_sem] theorem Chg.drewN_iff {S : Nat → Prop} {a w : World} {n : Nat} : Chg S a (w.drewN n) ↔ Chg S a w := ⟨fun h => ⟨h.os, h.tape, h.output, h.size, h.block⟩, fun h => h.drewN n⟩
@[simp, go_sem] theorem Chg.from_drew_iff {S : Nat → Prop} {a w : World} : Chg S a.drew w ↔ Chg S a w := ⟨fun h => ⟨h.os, h.tape, h.output, h.size, h.block⟩, fun h => ⟨h.os, h.tape, h.output, h.size, h.block⟩⟩
@[simp, go_sem] theorem Chg.from_drewN_iff {S : Nat → Prop} {a w : World} {n : Nat} : Chg S (a.drewN n) w ↔ Chg S a w := ⟨fun h => ⟨h.os, h.tape, h.output, h.size, h.block⟩, fun h => ⟨h.os, h.tape, h.output, h.size, h.block⟩⟩
@[simp, go_sem] theorem Chg.refl_true {S : Nat → Prop} {w : World} : Chg S w w := Chg.refl S w
@[simp, go_sem] theorem Chg.alloc_true {S : Nat → Prop} {a w : World} {o : Obj} (h : Chg S a w) : Chg S a (w.alloc o) := h.alloc o
/-- Bytes in a block that is known whole. -/
theorem Rd.of_block {w : World} {g : Nat} {bs : List UInt8} {e : TypeId} {fr : Nat × Nat} (hg : w.heap[g]? = some (.cells (bs.map bv).toArray e fr)) {n : Nat} (hn : bs.length = n) (hm : n ≤ maxLen) : Rd w g (some ⟨g, 0, none⟩) n n bs := by
  refine ⟨hn, Nat.le_refl _, hm, (fun h => by cases h), fun _ => ⟨0, rfl, fun i hi => ?_⟩⟩
  rw [Nat.zero_add, cell_of_row w g i _ e fr hg]
  simp [List.getD, show i < bs.length by omega]
end Go.Proofs.YtjjppbfknjeddaaGreatDoor
