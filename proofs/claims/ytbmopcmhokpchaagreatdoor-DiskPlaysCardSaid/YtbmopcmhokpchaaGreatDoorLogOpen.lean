/- The records that a disk holds: walked. -/
import Derived.Test.YtbmopcmhokpchaaGreatDoorLogRound
namespace Go.Proofs.YtbmopcmhokpchaaGreatDoor
open Go.RowKit
set_option linter.unusedVariables false
set_option linter.unusedSimpArgs false
attribute [local go_sem ↓] Go.wp_at_zero Go.wp_at_succ
attribute [local go_sem] Oper.semAt_some
theorem Tryz.info_row : (Tryz.prog.info? 22).map (fun i => (i.zero, i.size, i.bytes)) = some (some (.slice none 0 0), 1, 24) := by kernel_rfl
def recOf (rs : List (List UInt8)) (x : Rec rs) : List UInt8 := rs.getD x.1 []
def lastOf (rs : List (List UInt8)) (pre : List (Rec rs)) : Nat := match pre.getLast? with | none => 0 | some x => startB rs (x.1 + 1)
structure OpenI (rs : List (List UInt8)) (W0 : World) (Bo Bl : Nat) (pre : List (Rec rs)) (W : World) : Prop where
  ex : ∃ oa oc vs, W.heap[Bo]? = some (.cells #[.slice oa pre.length oc] 49 (0, 0)) ∧ Own W W0.heap.size 22 1 oa pre.length oc vs ∧ Recs W W0.heap.size vs (pre.map (recOf rs)) ∧ (∀ v ∈ vs, ∀ k, some k = blkV v → ¬ some k = blk oa)
  last : W.heap[Bl]? = some (.cells #[.int .i64 ((lastOf rs pre : Nat) : Int)] 3 (0, 0))
  chg : Chg (fun k => k = Bo ∨ k = Bl) W0 W
theorem OpenI.from (rs : List (List UInt8)) (W0 : World) (Bo Bl : Nat) : OwnFrom W0.heap.size (OpenI rs W0 Bo Bl) := by
  intro pre W W' row h hg hr
  have hr2 : ∀ r, row = some r → ∃ o : Obj, W.heap[r]? = some o ∧ o.isCells = false := fun r e => (hr r e).2
  obtain ⟨oa, oc, vs, h1, h2, h3, h4⟩ := h.ex
  refine ⟨⟨oa, oc, vs, grown_cells hg hr2 h1, h2.grown hg hr2, h3.grown hg hr2, h4⟩, grown_cells hg hr2 h.last, ⟨hg.os.trans h.chg.os, hg.tape.trans h.chg.tape, hg.output.trans h.chg.output, Nat.le_trans h.chg.size hg.size, fun k hk hn => ?_⟩⟩
  refine (hg.block k (Nat.lt_of_lt_of_le hk h.chg.size) (fun e => ?_)).trans (h.chg.block k hk hn)
  have := (hr k (by first | exact e.symm | exact e)).1
  omega
theorem lastOf_all {rs : List (List UInt8)} {xs : List (Rec rs)} {n : Nat} (h : xs.map (·.1) = List.range n) : lastOf rs xs = startB rs n := by
  cases n with
  | zero =>
    have : xs = [] := by simpa using h
    subst this
    rw [startB_zero]; rfl
  | succ n =>
    have e := congrArg List.getLast? h
    rw [List.getLast?_map, List.range_succ, List.getLast?_concat] at e
    obtain ⟨x, hx, hn⟩ := Option.map_eq_some_iff.1 e
    unfold lastOf
    rw [hx]
    simp only
    rw [hn]
theorem recs_all {rs : List (List UInt8)} {xs : List (Rec rs)} (h : xs.map (·.1) = List.range rs.length) : xs.map (recOf rs) = rs ∧ xs.length = rs.length := by
  have hl : xs.length = rs.length := by have := congrArg List.length h; simpa using this
  refine ⟨?_, hl⟩
  have e : xs.map (recOf rs) = (xs.map (·.1)).map (fun i => rs.getD i []) := by rw [List.map_map]; rfl
  rw [e, h]
  apply List.ext_getElem?
  intro i
  by_cases hi : i < rs.length
  · simp [hi, List.getD]
  · rw [List.getElem?_eq_none (by simp; omega), List.getElem?_eq_none (by omega)]
theorem lastOf_snoc (rs : List (List UInt8)) (pre : List (Rec rs)) (x : Rec rs) : lastOf rs (pre ++ [x]) = startB rs (x.1 + 1) := by simp [lastOf]
theorem frame_rec {bs rest : List UInt8} {rs : List (List UInt8)} (h : Framed bs rs rest) {i : Nat} {r : List UInt8} (hi : rs[i]? = some r) : (bs.drop (startB rs i + 4)).take r.length = r ∧ startB rs i + (r.length + 12) ≤ bs.length := by
  obtain ⟨t, ht⟩ := framed_at h hi
  constructor
  · rw [← List.drop_drop, ht]
    unfold frameB
    rw [List.append_assoc, List.append_assoc, List.drop_left' (len4_length _)]
    exact List.take_left' rfl
  · have := congrArg List.length ht
    rw [List.length_drop, List.length_append, frameB_length] at this
    omega
theorem Rd.at {w : World} {B g : Nat} {e : TypeId} {n cap : Nat} {bs : List UInt8} (h : Own w B e 1 (some ⟨g, 0, none⟩) n cap (bs.map bv)) : Rd w g (some ⟨g, 0, none⟩) n cap bs := by
  obtain ⟨b, hb, hr⟩ := Rd.of_Own h
  by_cases hp : 0 < cap
  · have e := hb hp
    simp [blk] at e
    rw [← e]
    rw [← e] at hr
    exact hr
  · exact ⟨hr.1, hr.2.1, hr.2.2.1, hr.2.2.2.1, fun h => absurd h hp⟩
theorem block5 {W w2 w5 : World} {o : Obj} {oa : Option Addr} {T : Prop} {B n c : Nat} {e : TypeId} {xs : List Value} (c1 : Chg Non W w2) (c5 : Chg (fun k => some k = blk oa ∧ T) (w2.alloc o) w5) (hv : Own W B e 1 oa n c xs) {k : Nat} (h1 : k < W.heap.size) (h2 : k < B) : w5.heap[k]? = W.heap[k]? :=
  (c5.block k (Nat.lt_of_lt_of_le h1 (c1.alloc _).size) (fun e => by have := (hv.lt _ e.1).1; omega)).trans ((c1.alloc _).block k h1 (fun h => h))
theorem cell5 {W w2 w5 : World} {o : Obj} {oa : Option Addr} {T : Prop} {B n c : Nat} {e : TypeId} {xs : List Value} (c1 : Chg Non W w2) (c5 : Chg (fun k => some k = blk oa ∧ T) (w2.alloc o) w5) (hv : Own W B e 1 oa n c xs) {k : Nat} (h1 : k < W.heap.size) (h2 : k < B) : w5.cell? ⟨k, 0, none⟩ = W.cell? ⟨k, 0, none⟩ :=
  World.cell?_of_block (w := W) (block5 c1 c5 hv h1 h2)
theorem frozen5 {W w2 w5 : World} {o : Obj} {oa : Option Addr} {T : Prop} {B n c : Nat} {e e2 : TypeId} {xs : List Value} {cs : Array Value} (c1 : Chg Non W w2) (c5 : Chg (fun k => some k = blk oa ∧ T) (w2.alloc o) w5) (hv : Own W B e 1 oa n c xs) {k : Nat} (h1 : k < W.heap.size) (h2 : k < B) (hc : W.heap[k]? = some (.cells cs e2 (0, 0))) : w5.frozen? ⟨k, 0, none⟩ = false :=
  frozen_of_row w5 k 0 cs e2 ((block5 c1 c5 hv h1 h2).trans hc)
/-- A round's end: what holds of memory. -/
theorem open_fin {rs : List (List UInt8)} {W0 W w4 w5 : World} {Bo Bl g bx : Nat} (hne : Bo ≠ Bl) (hBo : Bo < W0.heap.size) (hBl : Bl < W0.heap.size) (hg : g < W0.heap.size ∧ g ≠ Bo ∧ g ≠ Bl) (hx : bx < W0.heap.size ∧ bx ≠ Bo ∧ bx ≠ Bl)
    {pre : List (Rec rs)} {x : Rec rs} {oa : Option Addr} {oc : Nat} {vs : List Value} {z0 : Int} (h1 : W.heap[Bo]? = some (.cells #[.slice oa pre.length oc] 49 (0, 0))) (h2 : Own W W0.heap.size 22 1 oa pre.length oc vs)
    (h3 : Recs W W0.heap.size vs (pre.map (recOf rs))) (h4 : ∀ v ∈ vs, ∀ k, some k = blkV v → ¬ some k = blk oa) (h5 : W.heap[Bl]? = some (.cells #[.int .i64 z0] 3 (0, 0))) (h6 : Chg (fun k => k = Bo ∨ k = Bl) W0 W)
    (c4 : Chg Non W w4) {a1 : Option Addr} {N : Nat} {r : List UInt8} (hz : OwnZ w4 W.heap.size 5 a1 N N (r.map bv)) (hr : r = recOf rs x)
    {oa5 : Option Addr} {n5 oc5 : Nat} (hn5 : n5 = pre.length + 1) (o5 : Own w5 W0.heap.size 22 1 oa5 n5 oc5 (vs ++ [.slice a1 N N])) {T : Prop} (c5 : Chg (fun k => some k = blk oa ∧ T) w4 w5) (b5 : blk oa5 = blk oa ∨ blk oa5 = some w4.heap.size) {z : Int} (hzl : z = ((startB rs (x.1 + 1) : Nat) : Int)) :
    ∀ w7, w7 = (w5.setCell ⟨Bo, 0, none⟩ (.slice oa5 n5 oc5)).setCell ⟨Bl, 0, none⟩ (.int .i64 z) → KeepsOthers W w7 ∧ KpB g bx W w7 ∧ OpenI rs W0 Bo Bl (pre ++ [x]) w7 := by
  intro w7 hw7
  subst hn5
  have l1 := (Array.getElem?_eq_some_iff.1 h1).1
  have l5 := (Array.getElem?_eq_some_iff.1 h5).1
  have loa := h2.lt
  have C5 : Chg (fun k => k = Bo ∨ k = Bl ∨ some k = blk oa) W w5 := (c4.mono (fun _ _ h => h.elim)).trans (c5.mono (fun _ _ h => .inr (.inr h.1)))
  have C7 : Chg (fun k => k = Bo ∨ k = Bl ∨ some k = blk oa) W w7 := by
    rw [hw7]
    exact (C5.setCell (p := ⟨Bo, 0, none⟩) (.inr (.inl rfl)) _).setCell (p := ⟨Bl, 0, none⟩) (.inr (.inr (.inl rfl))) _
  have C57 : Chg (fun k => k = Bo ∨ k = Bl) w5 w7 := by
    rw [hw7]
    exact ((Chg.refl _ w5).setCell (p := ⟨Bo, 0, none⟩) (.inr (.inl rfl)) _).setCell (p := ⟨Bl, 0, none⟩) (.inr (.inr rfl)) _
  have e1 : w5.heap[Bo]? = some (.cells #[.slice oa pre.length oc] 49 (0, 0)) := ((c5.block Bo (Nat.lt_of_lt_of_le l1 c4.size) (fun e => by have := (loa _ e.1).1; omega)).trans (c4.block Bo l1 (fun h => h))).trans h1
  have e5 : w5.heap[Bl]? = some (.cells #[.int .i64 z0] 3 (0, 0)) := ((c5.block Bl (Nat.lt_of_lt_of_le l5 c4.size) (fun e => by have := (loa _ e.1).1; omega)).trans (c4.block Bl l5 (fun h => h))).trans h5
  have f1 : w7.heap[Bo]? = some (.cells #[.slice oa5 (pre.length + 1) oc5] 49 (0, 0)) := by
    rw [hw7, heap_setCell_other _ _ _ _ (by simpa using hne), heap_setCell_same w5 Bo 0 _ _ _ e1]; rfl
  have f5 : w7.heap[Bl]? = some (.cells #[.int .i64 z] 3 (0, 0)) := by
    rw [hw7, heap_setCell_same _ Bl 0 _ _ _ ((heap_setCell_other _ _ _ _ (by simpa using hne.symm)).trans e5)]; rfl
  refine ⟨C7.others (fun k hk => ?_), ⟨C7.block g (Nat.lt_of_lt_of_le hg.1 h6.size) (fun e => ?_), C7.block bx (Nat.lt_of_lt_of_le hx.1 h6.size) (fun e => ?_)⟩, ⟨oa5, oc5, vs ++ [.slice a1 N N], by simpa using f1, ?_, ?_, ?_⟩, by rw [lastOf_snoc, f5, hzl], ?_⟩
  · rcases hk with rfl | rfl | hk
    · exact ⟨_, _, _, h1⟩
    · exact ⟨_, _, _, h5⟩
    · obtain ⟨_, _, _, _, q⟩ := h2
      cases oa with
      | none => simp [blk] at hk
      | some a =>
        obtain ⟨gg, cur, rfl, _, hq, _⟩ := q a rfl
        simp [blk] at hk
        subst hk
        exact ⟨_, _, _, hq⟩
  · rcases e with e | e | e
    · exact hg.2.1 e
    · exact hg.2.2 e
    · have := (loa _ e).1; omega
  · rcases e with e | e | e
    · exact hx.2.1 e
    · exact hx.2.2 e
    · have := (loa _ e).1; omega
  · have := o5.chg C57 (fun k hk e => by have := (o5.lt k hk).1; omega)
    simpa using this
  · rw [List.map_append, List.map_singleton, ← hr]
    have r4 := h3.chg c4 (fun _ _ _ _ h => h)
    have r5 := r4.chg c5 (fun v hv k hk e => h4 v hv k hk e.1)
    have r7 := r5.chg C57 (fun v hv k hk e => by have := (h3.lt v hv k hk).1; omega)
    have z5 := hz.chg c5 (fun k hk e => by have h1 := (hz.lt k hk).1; have h2 := (loa _ e.1).2; omega)
    have z7 := z5.chg C57 (fun k hk e => by have h1 := (hz.lt k hk).1; have := h6.size; omega)
    exact r7.snoc (z7.mono h6.size) (fun k hk v hv e => by have h1 := (hz.lt k hk).1; have h2 := (h3.lt v hv k e).2; omega)
  · intro v hv k hk e
    rcases List.mem_append.1 hv with hv | hv
    · rcases b5 with b5 | b5
      · exact h4 v hv k hk (e.trans b5)
      · rw [b5] at e
        cases e
        have h2 := (h3.lt v hv _ hk).2; have := c4.size; omega
    · simp only [List.mem_singleton] at hv
      subst hv
      have h1 := hz.lt k hk
      rcases b5 with b5 | b5
      · have h2 := (loa k (e.trans b5)).2; omega
      · rw [b5] at e
        cases e
        omega
  · exact h6.next C7 (fun i hi e => by
      rcases e with e | e | e
      · exact .inl e
      · exact .inr e
      · have := (loa _ e).1; omega)
theorem DiskTo.pre {w w0 w1 : World} {B p : Nat} {ao a1 : Option Addr} {c1 size s1 : Nat} {b1 : List UInt8} (h : DiskTo w0 w1 B p ao a1 c1 size s1 b1) (k : Chg Non w w0) : DiskTo w w1 B p ao a1 c1 size s1 b1 :=
  ⟨h.at_, (k.mono (fun _ _ h => h.elim)).trans h.chg, fun i hi => (h.new i hi).imp id (fun e => Nat.le_trans k.size e)⟩
theorem DiskTo.keep {S : Nat → Prop} {w w1 w2 : World} {B p : Nat} {ao a1 : Option Addr} {c1 size s1 : Nat} {b1 : List UInt8} (h : DiskTo w w1 B p ao a1 c1 size s1 b1) (k : Chg S w1 w2) (h1 : ¬ S p) (h2 : ∀ i, some i = blk a1 → ¬ S i) (h3 : ∀ i, i < w.heap.size → ¬ S i) : DiskTo w w2 B p ao a1 c1 size s1 b1 :=
  ⟨h.at_.chg k h1 h2, h.chg.next k (fun i hi e => absurd e (h3 i hi)), h.new⟩
theorem DiskTo.grown {w W W' : World} {row : Option Nat} {B p : Nat} {ao a1 : Option Addr} {c1 size s1 : Nat} {b1 : List UInt8} (h : DiskTo w W B p ao a1 c1 size s1 b1) (hg : W.grownBy W' row) (hr : ∀ r, row = some r → ∃ o : Obj, W.heap[r]? = some o ∧ o.isCells = false) (hr2 : ∀ r, row = some r → w.heap.size ≤ r) : DiskTo w W' B p ao a1 c1 size s1 b1 := by
  refine ⟨⟨grown_cells hg hr h.at_.hp, h.at_.own.grown hg hr, h.at_.sure_le, h.at_.le, h.at_.max, h.at_.base⟩, ⟨hg.os.trans h.chg.os, hg.tape.trans h.chg.tape, hg.output.trans h.chg.output, Nat.le_trans h.chg.size hg.size, fun k hk hn => ?_⟩, h.new⟩
  refine (hg.block k (Nat.lt_of_lt_of_le hk h.chg.size) (fun e => ?_)).trans (h.chg.block k hk hn)
  have := hr2 k (by first | exact e.symm | exact e)
  omega
theorem own_ne {w : World} {B : Nat} {e e2 : TypeId} {sz : Nat} {ao : Option Addr} {n cap : Nat} {xs : List Value} (h : Own w B e sz ao n cap xs) {k : Nat} {cs : Array Value} (hk : w.heap[k]? = some (.cells cs e2 (0, 0))) (hne : e ≠ e2) : ∀ i, some i = blk ao → i ≠ k := by
  intro i hi e0
  subst e0
  obtain ⟨_, _, _, _, q⟩ := h
  cases ao with
  | none => simp [blk] at hi
  | some a =>
    obtain ⟨gg, cur, rfl, _, hq, _⟩ := q a rfl
    simp [blk] at hi
    subst hi
    rw [hk] at hq
    simp only [Option.some.injEq, Obj.cells.injEq] at hq
    exact hne hq.2.1.symm
theorem Recs.mono {w : World} {B B' : Nat} {vs : List Value} {rs : List (List UInt8)} (h : Recs w B vs rs) (hB : B' ≤ B) : Recs w B' vs rs :=
  ⟨h.len, fun i r hi => by obtain ⟨a, c, h1, h2⟩ := h.at_ i r hi; exact ⟨a, c, h1, h2.mono hB⟩, h.apart⟩
theorem open_end {rs : List (List UInt8)} {w W : World} {M Bo D B p n : Nat} (hBw : w.heap.size ≤ Bo) (hBo : Bo < M) (hM : w.heap.size ≤ M) {oa : Option Addr} {oc : Nat} {vs : List Value} (h1 : W.heap[Bo]? = some (.cells #[.slice oa n oc] 49 (0, 0))) (h2 : Own W M 22 1 oa n oc vs)
    (h3 : Recs W M vs rs) (h4 : ∀ v ∈ vs, ∀ k, some k = blkV v → ¬ some k = blk oa) {ao a1 : Option Addr} {c1 size s1 : Nat} {b1 : List UInt8} (hd : DiskTo w W B p ao a1 c1 size s1 b1) (hpB : p ≠ Bo) (haB : ∀ i, some i = blk a1 → i ≠ Bo)
    (hK : W.heap[D]? = some (.deferred (some []))) (hD : w.heap.size ≤ D) :
    ∀ W5, W5 = W.setCell ⟨Bo, 0, none⟩ (.slice oa n n) → W5.heap[D]? = some (.deferred (some [])) ∧ W5.cell? ⟨Bo, 0, none⟩ = some (.slice oa n n) ∧ OwnZ (W5.putObj D (.deferred none)) w.heap.size 22 oa n n vs ∧ Recs (W5.putObj D (.deferred none)) w.heap.size vs rs ∧
      (∀ v ∈ vs, ∀ k, some k = blkV v → ¬ some k = blkZ oa n) ∧ DiskTo w (W5.putObj D (.deferred none)) B p ao a1 c1 size s1 b1 := by
  intro W5 hW5
  have hC : Chg (fun k => k = Bo) W W5 := by rw [hW5]; exact (Chg.refl (fun k => k = Bo) W).setCell (p := ⟨Bo, 0, none⟩) (.inr rfl) _
  have hne : D ≠ Bo := by intro e; rw [e, h1] at hK; cases hK
  have hK5 : W5.heap[D]? = some (.deferred (some [])) := (hC.block D (Array.getElem?_eq_some_iff.1 hK).1 hne).trans hK
  have hg := grownBy_putObj' W5 D (.deferred none)
  have hr : ∀ r, some D = some r → ∃ o : Obj, W5.heap[r]? = some o ∧ o.isCells = false := fun r e => by cases e; exact ⟨_, hK5, rfl⟩
  refine ⟨hK5, ?_, ?_, ?_, ?_, ?_⟩
  · rw [hW5]; exact World.cell?_setCell_same' _ _ _ (by rw [cell_of_row W Bo 0 _ _ _ h1]; rfl)
  · have o1 : OwnZ W M 22 oa n n vs := OwnZ.clip (.inl h2)
    exact ((o1.chg hC (fun k hk e => by have := (o1.lt k hk).1; omega)).mono hM).grown hg hr
  · exact ((h3.chg hC (fun v hv k hk e => by have := (h3.lt v hv k hk).1; omega)).mono hM).grown hg hr
  · intro v hv k hk e
    by_cases hn : n = 0
    · rw [hn, blkZ_zero] at e; cases e
    · rw [blkZ_pos (by omega)] at e; exact h4 v hv k hk e
  · exact (hd.keep hC hpB haB (fun i hi e => by omega)).grown hg hr (fun r e => by cases e; exact hD)
set_option maxRecDepth 40000 in
set_option maxHeartbeats 2000000 in
theorem Open_any {w : World} {B p : Nat} {ao : Option Addr} {cap size sure : Nat} {bs rest : List UInt8} {rs : List (List UInt8)} (h : DiskAt w B p ao cap size sure bs) (hF : Framed bs rs rest) (hn : bs.length ≤ 100000000) :
    Calls Tryz.prog 16 #[.pointer (some ⟨p, 0, none⟩)] w fun e w' => ∃ (oa : Option Addr) (vs : List Value) (ao' : Option Addr) (cap' sure' : Nat), e = .returned (.tuple #[.slice oa rs.length rs.length, .int .i64 0]) ∧
      OwnZ w' w.heap.size 22 oa rs.length rs.length vs ∧ Recs w' w.heap.size vs rs ∧ (∀ v ∈ vs, ∀ k, some k = blkV v → ¬ some k = blkZ oa rs.length) ∧ DiskTo w w' B p ao ao' cap' size sure' (flat rs) ∧ (rest = [] → sure' = sure) ∧ (rest ≠ [] → sure' = (flat rs).length) := by
  have H := Lib.hid h
  have FR := Lib.hid hF
  have HN := Lib.hid hn
  clear h hF hn
  refine (callsIn_wide (n := 5)).1 ?_
  refine callsIn_of_wp_marks Tryz.func16 rfl trivial ?_ rfl
  simp only [Tryz.ntmps16, List.size_toArray, List.length_cons, List.length_nil, Nat.reduceAdd, Nat.reduceSub, Array.replicate_succ, Array.replicate_zero, List.push_toArray, List.append_toArray, List.nil_append, List.cons_append]
  refine wpIn_wide.2 ?_
  go_wp2_with fail
  refine Calls.mono (Append_to (H.out.chg (S := Non) ((Chg.refl _ w).alloc _) (fun h => h) (fun _ _ h => h)) (Rd.nil _ 0)) ?_
  rintro e w1 ⟨f, ao1, cap1, rfl, ⟨_, rfl, hd1⟩ | ⟨hgt, _⟩⟩
  · rw [List.append_nil] at hd1
    have hbo : w1.heap[w.heap.size]? = some (.cells #[.slice none 0 0] 49 (0, 0)) :=
      (hd1.chg.block _ (by simp) (fun e => by
        rcases e with e | e
        · have := H.out.lt; omega
        · have := (H.out.own.lt _ e).2; omega)).trans (heap_alloc_new _ _)
    have D1 := Lib.hid (hd1.pre ((Chg.refl Non w).alloc _))
    have BO := Lib.hid hbo
    clear hd1 hbo
    obtain ⟨nb, hnb⟩ : ∃ nb, bs.length = nb := ⟨_, rfl⟩
    have NB := Lib.hid hnb
    clear hnb
    go_wp2_with fail
    refine Calls.mono (Bytes_of D1.out.at_ NB.out) ?_
    rintro e w2 ⟨rfl, ho2, hc2⟩
    have D2 := Lib.hid (D1.out.non hc2)
    have R2 := Lib.hid ho2
    have BO2 := Lib.hid ((hc2.block _ (Array.getElem?_eq_some_iff.1 BO.out).1 (fun h => h)).trans BO.out)
    clear ho2 hc2
    go_wp2_with fail
    refine Calls.mono (frames_any _ _ _ _) ?_
    rintro e w3 ⟨rfl, hw3⟩
    rw [World.size_alloc] at *
    obtain ⟨Bo, hBo⟩ : ∃ k, k = w.heap.size := ⟨_, rfl⟩
    obtain ⟨g, hg⟩ : ∃ k, k = w1.heap.size := ⟨_, rfl⟩
    obtain ⟨Bl, hBl⟩ : ∃ k, k = w2.heap.size := ⟨_, rfl⟩
    have C23 : Chg Non w2 w3 := by rw [hw3]; exact ((Chg.refl _ _).alloc _).alloc _
    have hz3 : w3.heap.size = w2.heap.size + 2 := by rw [hw3]; simp
    have bo3 : w3.heap[Bo]? = some (.cells #[.slice none 0 0] 49 (0, 0)) := by rw [hBo]; exact (C23.block _ (Array.getElem?_eq_some_iff.1 BO2.out).1 (fun h => h)).trans BO2.out
    have bl3 : w3.heap[Bl]? = some (.cells #[.int .i64 0] 3 (0, 0)) := by rw [hw3, hBl]; exact heap_alloc2_old _ _ _
    have bx3 : w3.heap[Bl + 1]? = some (.cells #[.slice (some ⟨g, 0, none⟩) nb nb] 22 (0, 0)) := by rw [hw3, hBl, hg]; exact heap_alloc2_new _ _ _
    have hgl : g < w2.heap.size := by rw [hg]; exact (R2.out.lt _ rfl).2
    have rd3 : Rd w3 g (some ⟨g, 0, none⟩) nb nb bs := by rw [hg]; exact (Rd.at R2.out).chg C23 (fun h => h)
    have hog : Bo < g := by rw [hBo, hg]; exact (Array.getElem?_eq_some_iff.1 BO.out).1
    have HBO2 := Lib.hid hBo; have HG := Lib.hid hg; have HBL := Lib.hid hBl
    have HZ3 := Lib.hid hz3
    rw [← hBo, ← hg, ← hBl]
    clear hw3 hBo hg hBl hz3
    go_wp2_with fail
    have H0 : OpenI rs w3 Bo Bl [] w3 := ⟨⟨none, 0, [], bo3, Own.nil _ _ _ _, Recs.nil _ _, by simp⟩, by simpa [lastOf] using bl3, Chg.refl _ _⟩
    have G2 : g < w3.heap.size ∧ g ≠ Bo ∧ g ≠ Bl := by have := hgl; have := HZ3.out; have := HBL.out; have := HBO2.out; omega
    have X2 : Bl + 1 < w3.heap.size ∧ Bl + 1 ≠ Bo ∧ Bl + 1 ≠ Bl := by have := hgl; have := HZ3.out; have := HBL.out; have := HBO2.out; omega
    have BO3 : Bo < w3.heap.size := by have := G2.1; omega
    have BL3 : Bl < w3.heap.size := by omega
    have NE3 : Bo ≠ Bl := by have := hgl; have := HBL.out; omega
    obtain ⟨i1, hi1, hi2, hi3, hi4⟩ := info_parts Tryz.info_row
    have Hs1 := Lib.hid hi1; have Hs2 := Lib.hid hi2; have Hs3 := Lib.hid hi3; have Hs4 := Lib.hid hi4
    clear hi1 hi2 hi3 hi4
    refine (wpIn_wide (n := 5)).1 ?_
    refine wpIn_rangeFunc_ownF rfl (by omega) (gf := 105) (lb := #[.pointer (some ⟨Bl + 1, 0, none⟩)]) rfl trivial (enters_of Tryz.func105 (by kernel_rfl) rfl)
      (frames1_stops FR.out (5 - 1) bx3 rd3 G2.1 (by have := HN.out; have := NB.out; omega)) (fun h k => ⟨k.1.trans h.1, k.2.trans h.2⟩)
      (fun W l o o' hl hl2 _ _ => ⟨World.putObj_heap_other (by have := G2.1; omega), World.putObj_heap_other (by have := X2.1; omega)⟩) (Below.refl _ _) (fun _ => rfl)
      (OpenI rs w3 Bo Bl) (fun _ _ _ => False) (OpenI.from rs w3 Bo Bl) (fun _ _ _ _ _ hs _ _ => hs) H0
      (fun x => { tmps := #[.pointer (some ⟨p, 0, none⟩), undef, .pointer (some ⟨Bo, 0, none⟩), .int .i64 0, .int .i64 0, .slice (some ⟨g, 0, none⟩) nb nb, .pointer (some ⟨Bl, 0, none⟩),
        .slice (some ⟨g, startB rs x.1 + 4, none⟩) (rs.getD x.1 []).length (nb - (startB rs x.1 + 4)), .int .i64 ((startB rs (x.1 + 1) : Nat) : Int), .pointer (some ⟨p, 0, none⟩), .int .i64 0, .int .i64 0, .bool false, undef,
        .pointer (some ⟨p, 0, none⟩), .slice (some ⟨g, 0, none⟩) nb nb, .slice (some ⟨g, 0, none⟩) nb nb, .func (.func 105) #[] #[.pointer (some ⟨Bl + 1, 0, none⟩)],
        .slice (some ⟨g, startB rs x.1 + 4, none⟩) (rs.getD x.1 []).length (nb - (startB rs x.1 + 4)), .int .i64 ((startB rs (x.1 + 1) : Nat) : Int), undef, undef, undef, undef, undef, undef, undef, undef, undef, undef, undef, undef, undef, undef, undef, undef], defers := [] }) ?assign ?body ?done ?stop
    case assign =>
      intro l x W K hK
      dsimp only [recEnc]
      gi_wp2
      exact hK
    case stop =>
      intro D c pre W _ _ h
      exact h.elim
    case body =>
      intro l pre x W hI hlen
      obtain ⟨oa, oc, vs, h1, h2, h3, h4⟩ := hI.ex
      have hget : rs[x.1]? = some (recOf rs x) := by unfold recOf; rw [List.getD, List.getElem?_eq_getElem x.2]; rfl
      have hrec := frame_rec FR.out hget
      rw [NB.out] at hrec
      have rdW : Rd W g (some ⟨g, 0, none⟩) nb nb bs := rd3.chg hI.chg (fun e => by rcases e with e | e; exact G2.2.1 e; exact G2.2.2 e)
      have rdx := Rd.cut rdW (i := startB rs x.1 + 4) (L := (recOf rs x).length) (by omega) (by omega)
      rw [Nat.zero_add, hrec.1] at rdx
      have hq : W.cell? ⟨Bo, 0, none⟩ = some (.slice oa pre.length oc) := by rw [cell_of_row W Bo 0 _ _ _ h1]; rfl
      have HL0 := Lib.hid (show W.cell? ⟨Bl, 0, none⟩ = some (.int .i64 ((lastOf rs pre : Nat) : Int)) by rw [cell_of_row W Bl 0 _ _ _ hI.last]; rfl)
      have HBO := Lib.hid h1; have OV := Lib.hid h2; have RV := Lib.hid h3; have SV := Lib.hid h4; have HBL2 := Lib.hid hI.last; have CI := Lib.hid hI.chg
      have LBo := Lib.hid (Array.getElem?_eq_some_iff.1 h1).1
      have LBl := Lib.hid (Array.getElem?_eq_some_iff.1 hI.last).1
      have LBo2 := Lib.hid BO3; have LBl2 := Lib.hid BL3; have LBo3 := Lib.hid BO3; have LBl3 := Lib.hid BL3; have NE := Lib.hid NE3; have NE2 := Lib.hid NE3; have LG := Lib.hid G2; have LX := Lib.hid X2
      have hrl := startB_all rs
      have hpn : pre.length + 1 ≤ nb + 1 := by
        have h1 := startB_le FR.out (Nat.le_refl rs.length)
        have h2 : rs.length ≤ startB rs rs.length := by
          rw [startB_all]; exact flat_len rs
        rw [NB.out] at h1
        omega
      have LP := Lib.hid (show pre.length + 1 ≤ maxLen ∧ (pre.length + 1) * 24 ≤ 140737488355328 by have := HN.out; rw [NB.out] at this; unfold maxLen; omega)
      have LN := Lib.hid (show (recOf rs x).length ≤ 100000000 by have := HN.out; rw [NB.out] at this; omega)
      obtain ⟨E, hE⟩ : ∃ E, startB rs (x.1 + 1) = E := ⟨_, rfl⟩
      have EZ := Lib.hid (show (E : Int) = ((startB rs (x.1 + 1) : Nat) : Int) by rw [hE])
      obtain ⟨s, hs⟩ : ∃ s, startB rs x.1 = s := ⟨_, rfl⟩
      obtain ⟨r, hr⟩ : ∃ r, recOf rs x = r := ⟨_, rfl⟩
      obtain ⟨N, hN⟩ : ∃ N, r.length = N := ⟨_, rfl⟩
      rw [hs, hr, hN] at rdx
      rw [hr, hN] at LN
      have RX := Lib.hid rdx
      have RE := Lib.hid hr.symm
      have hr2 : rs.getD x.1 [] = r := hr
      dsimp only
      rw [hs, hE, hr2, hN]
      clear hI h1 h2 h3 h4 hget hrec rdW rdx hE hs hr hN hr2 H0 bo3 bl3 bx3 rd3 BO3 BL3 NE3 G2 X2 hgl hog hrl hpn
      gi_wp2
      refine region_round (by kernel_rfl) (by kernel_rfl) (by rintro ⟨a, w, h⟩; exact h) ?_
      refine wpAny_take (i := 1) (v := ?_) (by simp only [List.getElem?_toArray, List.getElem?_cons_succ, List.getElem?_cons_zero]; rfl) (by kernel_rfl) (by kernel_rfl) (by kernel_rfl) (by intro _ _ _ h; exact h) (Or.inl ⟨by rfl, ?_⟩) ?_
      rotate_left
      · intro w; go_simp; try with_reducible rfl
      try simp only [Act.put, List.setIfInBounds_toArray, List.set_cons_zero, List.set_cons_succ]
      refine wpAny_take (i := 6) (v := ?_) (by simp only [List.getElem?_toArray, List.getElem?_cons_succ, List.getElem?_cons_zero]; rfl) (by kernel_rfl) (by kernel_rfl) (by kernel_rfl) (by intro _ _ _ h; exact h) (Or.inl ⟨by rfl, ?_⟩) ?_
      rotate_left
      · intro w; go_simp; try with_reducible rfl
      try simp only [Act.put, List.setIfInBounds_toArray, List.set_cons_zero, List.set_cons_succ]
      refine wpAny_ready (rs := [0, 2]) (by kernel_rfl) (by simp) ?_
      refine AllReady.cons (by simp only [List.getElem?_toArray, List.getElem?_cons_succ, List.getElem?_cons_zero]; rfl) (fun K hK => ?_) ?_
      · go_simp
        try (refine hK _ _ ?_; clear hK K)
        try simp only [Act.put, List.setIfInBounds_toArray, List.set_cons_zero, List.set_cons_succ]
        refine wpAny_ready (rs := [2]) (by kernel_rfl) (by simp) ?_
        refine AllReady.cons (by simp only [List.getElem?_toArray, List.getElem?_cons_succ, List.getElem?_cons_zero]; rfl) (fun K hK => ?_) AllReady.nil
        go_simp
        go_at_call 75
        refine Calls.mono (Clone_any (RX.out.chg (S := Non) (w' := W.drew) ((Chg.refl _ _).drew) (fun h => h)) LN.out) ?_
        rintro e w1 ⟨a1, c1, rfl, ho1, hc1⟩
        have O1 := Lib.hid ho1; have C1 := Lib.hid ((Chg.refl Non W).drew.trans hc1)
        have hq1 : w1.cell? ⟨Bo, 0, none⟩ = some (.slice oa pre.length oc) := (C1.out.cell (p := ⟨Bo, 0, none⟩) LBo.out (fun h => h)).trans hq
        clear ho1 hc1
        go_wp2_with fail
        try (refine hK _ _ ?_; clear hK K)
        try simp only [Act.put, List.setIfInBounds_toArray, List.set_cons_zero, List.set_cons_succ]
        refine wpAny_ready (rs := [3]) (by kernel_rfl) (by simp) ?_
        refine AllReady.cons (by simp only [List.getElem?_toArray, List.getElem?_cons_succ, List.getElem?_cons_zero]; rfl) (fun K hK => ?_) AllReady.nil
        go_simp
        go_at_call 34
        refine Calls.mono (Clip_any _ _ O1.out.len.2.1 O1.out.len.2.2) ?_
        rintro e w2 ⟨rfl, rfl⟩
        go_wp2_with fail
        try (refine hK _ _ ?_; clear hK K)
        try simp only [Act.put, List.setIfInBounds_toArray, List.set_cons_zero, List.set_cons_succ]
        refine wpAny_ready (rs := [4]) (by kernel_rfl) (by simp) ?_
        refine AllReady.cons (by simp only [List.getElem?_toArray, List.getElem?_cons_succ, List.getElem?_cons_zero]; rfl) (fun K hK => ?_) AllReady.nil
        go_simp
        have hq4 : (w2.alloc (.cells #[.slice a1 N N] 22)).cell? ⟨Bo, 0, none⟩ = some (.slice oa pre.length oc) := ((C1.out.alloc _).cell (p := ⟨Bo, 0, none⟩) LBo.out (fun h => h)).trans hq
        try (refine hK _ _ ?_; clear hK K)
        try simp only [Act.put, List.setIfInBounds_toArray, List.set_cons_zero, List.set_cons_succ]
        refine wpAny_ready (rs := [5]) (by kernel_rfl) (by simp) ?_
        refine AllReady.cons (by simp only [List.getElem?_toArray, List.getElem?_cons_succ, List.getElem?_cons_zero]; rfl) (fun K hK => ?_) AllReady.nil
        refine step_append_Own (by rfl) _ _ 49 49 (by rfl) w3.heap.size 22 1 24 i1 (.slice none 0 0) Tryz.underlying49 Hs1.out Hs2.out Hs3.out rfl Hs4.out oa pre.length oc vs (by rfl) ((OV.out.chg C1.out (fun _ _ h => h)).alloc _) (.slice (some ⟨w2.heap.size, 0, none⟩) 1 1) 1 [.slice a1 N N] (by rfl) (Src.cells Tryz.underlying49 (heap_alloc_new w2 (.cells #[.slice a1 N N] 22 (0, 0))) 1 1 1 (by rfl) (by simp [Value.oneCell'])) LP.out.1 LP.out.2 (by have h1 := C1.out.size; have h2 := CI.out.size; simp <;> omega) ?_
        intro oa5 oc5 w5 hown hchg hb _
        have O5 := Lib.hid hown; have C5 := Lib.hid hchg; have B5 := Lib.hid hb
        clear hown hchg hb
        obtain ⟨u1, hu1⟩ : ∃ u, w5.cell? ⟨Bo, 0, none⟩ = some u := ⟨_, (cell5 C1.out C5.out OV.out LBo.out LBo2.out).trans hq⟩
        have fr1 : w5.frozen? ⟨Bo, 0, none⟩ = false := frozen5 C1.out C5.out OV.out LBo.out LBo2.out HBO.out
        obtain ⟨u2, hu2⟩ : ∃ u, w5.cell? ⟨Bl, 0, none⟩ = some u := ⟨_, (cell5 C1.out C5.out OV.out LBl.out LBl2.out).trans HL0.out⟩
        have fr2 : w5.frozen? ⟨Bl, 0, none⟩ = false := frozen5 C1.out C5.out OV.out LBl.out LBl2.out HBL2.out
        try (refine hK _ _ ?_; clear hK K)
        try simp only [Act.put, List.setIfInBounds_toArray, List.set_cons_zero, List.set_cons_succ]
        refine wpAny_ready (rs := [7]) (by kernel_rfl) (by simp) ?_
        refine AllReady.cons (by simp only [List.getElem?_toArray, List.getElem?_cons_succ, List.getElem?_cons_zero]; rfl) (fun K hK => ?_) AllReady.nil
        go_simp
        obtain ⟨w6, hw6⟩ : ∃ w6, w6 = w5.setCell ⟨Bo, 0, none⟩ (.slice oa5 (pre.length + 1) oc5) := ⟨_, rfl⟩
        have hv2 : w6.cell? ⟨Bl, 0, none⟩ = some u2 := by rw [hw6, World.cell?_setCell_far _ _ _ _ NE.out]; exact hu2
        have fr3 : w6.frozen? ⟨Bl, 0, none⟩ = false := by rw [hw6, World.frozen?_setCell]; exact fr2
        rw [← hw6]
        have HW6 := Lib.hid hw6; clear hw6
        try (refine hK _ _ ?_; clear hK K)
        try simp only [Act.put, List.setIfInBounds_toArray, List.set_cons_zero, List.set_cons_succ]
        refine wpAny_ready (rs := [8]) (by kernel_rfl) (by simp) ?_
        refine AllReady.cons (by simp only [List.getElem?_toArray, List.getElem?_cons_succ, List.getElem?_cons_zero]; rfl) (fun K hK => ?_) AllReady.nil
        go_simp
        try (refine hK _ _ ?_; clear hK K)
        try simp only [Act.put, List.setIfInBounds_toArray, List.set_cons_zero, List.set_cons_succ]
        refine wpAny_done (by kernel_rfl) ?_ _
        have hfin := open_fin NE2.out LBo3.out LBl3.out LG.out LX.out HBO.out OV.out RV.out SV.out HBL2.out CI.out (C1.out.alloc _) ((O1.out.clip).mono (Nat.le_refl _) |>.chg (S := Non) ((Chg.refl _ _).alloc _) (fun _ _ h => h)) RE.out rfl O5.out C5.out B5.out EZ.out _ rfl
        rw [← HW6.out] at hfin
        exact hfin
      refine AllReady.cons (by simp only [List.getElem?_toArray, List.getElem?_cons_succ, List.getElem?_cons_zero]; rfl) (fun K hK => ?_) AllReady.nil
      go_simp
      go_at_call 75
      refine Calls.mono (Clone_any (RX.out.chg (S := Non) (w' := W.drew) ((Chg.refl _ _).drew) (fun h => h)) LN.out) ?_
      rintro e w1 ⟨a1, c1, rfl, ho1, hc1⟩
      have O1 := Lib.hid ho1; have C1 := Lib.hid ((Chg.refl Non W).drew.trans hc1)
      have hq1 : w1.cell? ⟨Bo, 0, none⟩ = some (.slice oa pre.length oc) := (C1.out.cell (p := ⟨Bo, 0, none⟩) LBo.out (fun h => h)).trans hq
      clear ho1 hc1
      go_wp2_with fail
      try (refine hK _ _ ?_; clear hK K)
      try simp only [Act.put, List.setIfInBounds_toArray, List.set_cons_zero, List.set_cons_succ]
      refine wpAny_ready (rs := [0, 3]) (by kernel_rfl) (by simp) ?_
      refine AllReady.cons (by simp only [List.getElem?_toArray, List.getElem?_cons_succ, List.getElem?_cons_zero]; rfl) (fun K hK => ?_) ?_
      · go_simp
        try (refine hK _ _ ?_; clear hK K)
        try simp only [Act.put, List.setIfInBounds_toArray, List.set_cons_zero, List.set_cons_succ]
        refine wpAny_ready (rs := [3]) (by kernel_rfl) (by simp) ?_
        refine AllReady.cons (by simp only [List.getElem?_toArray, List.getElem?_cons_succ, List.getElem?_cons_zero]; rfl) (fun K hK => ?_) AllReady.nil
        go_simp
        go_at_call 34
        refine Calls.mono (Clip_any _ _ O1.out.len.2.1 O1.out.len.2.2) ?_
        rintro e w2 ⟨rfl, rfl⟩
        go_wp2_with fail
        try (refine hK _ _ ?_; clear hK K)
        try simp only [Act.put, List.setIfInBounds_toArray, List.set_cons_zero, List.set_cons_succ]
        refine wpAny_ready (rs := [4]) (by kernel_rfl) (by simp) ?_
        refine AllReady.cons (by simp only [List.getElem?_toArray, List.getElem?_cons_succ, List.getElem?_cons_zero]; rfl) (fun K hK => ?_) AllReady.nil
        go_simp
        have hq4 : (w2.alloc (.cells #[.slice a1 N N] 22)).cell? ⟨Bo, 0, none⟩ = some (.slice oa pre.length oc) := ((C1.out.alloc _).cell (p := ⟨Bo, 0, none⟩) LBo.out (fun h => h)).trans hq
        try (refine hK _ _ ?_; clear hK K)
        try simp only [Act.put, List.setIfInBounds_toArray, List.set_cons_zero, List.set_cons_succ]
        refine wpAny_ready (rs := [5]) (by kernel_rfl) (by simp) ?_
        refine AllReady.cons (by simp only [List.getElem?_toArray, List.getElem?_cons_succ, List.getElem?_cons_zero]; rfl) (fun K hK => ?_) AllReady.nil
        refine step_append_Own (by rfl) _ _ 49 49 (by rfl) w3.heap.size 22 1 24 i1 (.slice none 0 0) Tryz.underlying49 Hs1.out Hs2.out Hs3.out rfl Hs4.out oa pre.length oc vs (by rfl) ((OV.out.chg C1.out (fun _ _ h => h)).alloc _) (.slice (some ⟨w2.heap.size, 0, none⟩) 1 1) 1 [.slice a1 N N] (by rfl) (Src.cells Tryz.underlying49 (heap_alloc_new w2 (.cells #[.slice a1 N N] 22 (0, 0))) 1 1 1 (by rfl) (by simp [Value.oneCell'])) LP.out.1 LP.out.2 (by have h1 := C1.out.size; have h2 := CI.out.size; simp <;> omega) ?_
        intro oa5 oc5 w5 hown hchg hb _
        have O5 := Lib.hid hown; have C5 := Lib.hid hchg; have B5 := Lib.hid hb
        clear hown hchg hb
        obtain ⟨u1, hu1⟩ : ∃ u, w5.cell? ⟨Bo, 0, none⟩ = some u := ⟨_, (cell5 C1.out C5.out OV.out LBo.out LBo2.out).trans hq⟩
        have fr1 : w5.frozen? ⟨Bo, 0, none⟩ = false := frozen5 C1.out C5.out OV.out LBo.out LBo2.out HBO.out
        obtain ⟨u2, hu2⟩ : ∃ u, w5.cell? ⟨Bl, 0, none⟩ = some u := ⟨_, (cell5 C1.out C5.out OV.out LBl.out LBl2.out).trans HL0.out⟩
        have fr2 : w5.frozen? ⟨Bl, 0, none⟩ = false := frozen5 C1.out C5.out OV.out LBl.out LBl2.out HBL2.out
        try (refine hK _ _ ?_; clear hK K)
        try simp only [Act.put, List.setIfInBounds_toArray, List.set_cons_zero, List.set_cons_succ]
        refine wpAny_ready (rs := [7]) (by kernel_rfl) (by simp) ?_
        refine AllReady.cons (by simp only [List.getElem?_toArray, List.getElem?_cons_succ, List.getElem?_cons_zero]; rfl) (fun K hK => ?_) AllReady.nil
        go_simp
        obtain ⟨w6, hw6⟩ : ∃ w6, w6 = w5.setCell ⟨Bo, 0, none⟩ (.slice oa5 (pre.length + 1) oc5) := ⟨_, rfl⟩
        have hv2 : w6.cell? ⟨Bl, 0, none⟩ = some u2 := by rw [hw6, World.cell?_setCell_far _ _ _ _ NE.out]; exact hu2
        have fr3 : w6.frozen? ⟨Bl, 0, none⟩ = false := by rw [hw6, World.frozen?_setCell]; exact fr2
        rw [← hw6]
        have HW6 := Lib.hid hw6; clear hw6
        try (refine hK _ _ ?_; clear hK K)
        try simp only [Act.put, List.setIfInBounds_toArray, List.set_cons_zero, List.set_cons_succ]
        refine wpAny_ready (rs := [8]) (by kernel_rfl) (by simp) ?_
        refine AllReady.cons (by simp only [List.getElem?_toArray, List.getElem?_cons_succ, List.getElem?_cons_zero]; rfl) (fun K hK => ?_) AllReady.nil
        go_simp
        try (refine hK _ _ ?_; clear hK K)
        try simp only [Act.put, List.setIfInBounds_toArray, List.set_cons_zero, List.set_cons_succ]
        refine wpAny_done (by kernel_rfl) ?_ _
        have hfin := open_fin NE2.out LBo3.out LBl3.out LG.out LX.out HBO.out OV.out RV.out SV.out HBL2.out CI.out (C1.out.alloc _) ((O1.out.clip).mono (Nat.le_refl _) |>.chg (S := Non) ((Chg.refl _ _).alloc _) (fun _ _ h => h)) RE.out rfl O5.out C5.out B5.out EZ.out _ rfl
        rw [← HW6.out] at hfin
        exact hfin
      refine AllReady.cons (by simp only [List.getElem?_toArray, List.getElem?_cons_succ, List.getElem?_cons_zero]; rfl) (fun K hK => ?_) AllReady.nil
      go_simp
      go_at_call 34
      refine Calls.mono (Clip_any _ _ O1.out.len.2.1 O1.out.len.2.2) ?_
      rintro e w2 ⟨rfl, rfl⟩
      go_wp2_with fail
      try (refine hK _ _ ?_; clear hK K)
      try simp only [Act.put, List.setIfInBounds_toArray, List.set_cons_zero, List.set_cons_succ]
      refine wpAny_ready (rs := [0, 4]) (by kernel_rfl) (by simp) ?_
      refine AllReady.cons (by simp only [List.getElem?_toArray, List.getElem?_cons_succ, List.getElem?_cons_zero]; rfl) (fun K hK => ?_) ?_
      · go_simp
        try (refine hK _ _ ?_; clear hK K)
        try simp only [Act.put, List.setIfInBounds_toArray, List.set_cons_zero, List.set_cons_succ]
        refine wpAny_ready (rs := [4]) (by kernel_rfl) (by simp) ?_
        refine AllReady.cons (by simp only [List.getElem?_toArray, List.getElem?_cons_succ, List.getElem?_cons_zero]; rfl) (fun K hK => ?_) AllReady.nil
        go_simp
        have hq4 : (w2.alloc (.cells #[.slice a1 N N] 22)).cell? ⟨Bo, 0, none⟩ = some (.slice oa pre.length oc) := ((C1.out.alloc _).cell (p := ⟨Bo, 0, none⟩) LBo.out (fun h => h)).trans hq
        try (refine hK _ _ ?_; clear hK K)
        try simp only [Act.put, List.setIfInBounds_toArray, List.set_cons_zero, List.set_cons_succ]
        refine wpAny_ready (rs := [5]) (by kernel_rfl) (by simp) ?_
        refine AllReady.cons (by simp only [List.getElem?_toArray, List.getElem?_cons_succ, List.getElem?_cons_zero]; rfl) (fun K hK => ?_) AllReady.nil
        refine step_append_Own (by rfl) _ _ 49 49 (by rfl) w3.heap.size 22 1 24 i1 (.slice none 0 0) Tryz.underlying49 Hs1.out Hs2.out Hs3.out rfl Hs4.out oa pre.length oc vs (by rfl) ((OV.out.chg C1.out (fun _ _ h => h)).alloc _) (.slice (some ⟨w2.heap.size, 0, none⟩) 1 1) 1 [.slice a1 N N] (by rfl) (Src.cells Tryz.underlying49 (heap_alloc_new w2 (.cells #[.slice a1 N N] 22 (0, 0))) 1 1 1 (by rfl) (by simp [Value.oneCell'])) LP.out.1 LP.out.2 (by have h1 := C1.out.size; have h2 := CI.out.size; simp <;> omega) ?_
        intro oa5 oc5 w5 hown hchg hb _
        have O5 := Lib.hid hown; have C5 := Lib.hid hchg; have B5 := Lib.hid hb
        clear hown hchg hb
        obtain ⟨u1, hu1⟩ : ∃ u, w5.cell? ⟨Bo, 0, none⟩ = some u := ⟨_, (cell5 C1.out C5.out OV.out LBo.out LBo2.out).trans hq⟩
        have fr1 : w5.frozen? ⟨Bo, 0, none⟩ = false := frozen5 C1.out C5.out OV.out LBo.out LBo2.out HBO.out
        obtain ⟨u2, hu2⟩ : ∃ u, w5.cell? ⟨Bl, 0, none⟩ = some u := ⟨_, (cell5 C1.out C5.out OV.out LBl.out LBl2.out).trans HL0.out⟩
        have fr2 : w5.frozen? ⟨Bl, 0, none⟩ = false := frozen5 C1.out C5.out OV.out LBl.out LBl2.out HBL2.out
        try (refine hK _ _ ?_; clear hK K)
        try simp only [Act.put, List.setIfInBounds_toArray, List.set_cons_zero, List.set_cons_succ]
        refine wpAny_ready (rs := [7]) (by kernel_rfl) (by simp) ?_
        refine AllReady.cons (by simp only [List.getElem?_toArray, List.getElem?_cons_succ, List.getElem?_cons_zero]; rfl) (fun K hK => ?_) AllReady.nil
        go_simp
        obtain ⟨w6, hw6⟩ : ∃ w6, w6 = w5.setCell ⟨Bo, 0, none⟩ (.slice oa5 (pre.length + 1) oc5) := ⟨_, rfl⟩
        have hv2 : w6.cell? ⟨Bl, 0, none⟩ = some u2 := by rw [hw6, World.cell?_setCell_far _ _ _ _ NE.out]; exact hu2
        have fr3 : w6.frozen? ⟨Bl, 0, none⟩ = false := by rw [hw6, World.frozen?_setCell]; exact fr2
        rw [← hw6]
        have HW6 := Lib.hid hw6; clear hw6
        try (refine hK _ _ ?_; clear hK K)
        try simp only [Act.put, List.setIfInBounds_toArray, List.set_cons_zero, List.set_cons_succ]
        refine wpAny_ready (rs := [8]) (by kernel_rfl) (by simp) ?_
        refine AllReady.cons (by simp only [List.getElem?_toArray, List.getElem?_cons_succ, List.getElem?_cons_zero]; rfl) (fun K hK => ?_) AllReady.nil
        go_simp
        try (refine hK _ _ ?_; clear hK K)
        try simp only [Act.put, List.setIfInBounds_toArray, List.set_cons_zero, List.set_cons_succ]
        refine wpAny_done (by kernel_rfl) ?_ _
        have hfin := open_fin NE2.out LBo3.out LBl3.out LG.out LX.out HBO.out OV.out RV.out SV.out HBL2.out CI.out (C1.out.alloc _) ((O1.out.clip).mono (Nat.le_refl _) |>.chg (S := Non) ((Chg.refl _ _).alloc _) (fun _ _ h => h)) RE.out rfl O5.out C5.out B5.out EZ.out _ rfl
        rw [← HW6.out] at hfin
        exact hfin
      refine AllReady.cons (by simp only [List.getElem?_toArray, List.getElem?_cons_succ, List.getElem?_cons_zero]; rfl) (fun K hK => ?_) AllReady.nil
      go_simp
      have hq4 : (w2.alloc (.cells #[.slice a1 N N] 22)).cell? ⟨Bo, 0, none⟩ = some (.slice oa pre.length oc) := ((C1.out.alloc _).cell (p := ⟨Bo, 0, none⟩) LBo.out (fun h => h)).trans hq
      try (refine hK _ _ ?_; clear hK K)
      try simp only [Act.put, List.setIfInBounds_toArray, List.set_cons_zero, List.set_cons_succ]
      refine wpAny_ready (rs := [0]) (by kernel_rfl) (by simp) ?_
      refine AllReady.cons (by simp only [List.getElem?_toArray, List.getElem?_cons_succ, List.getElem?_cons_zero]; rfl) (fun K hK => ?_) AllReady.nil
      go_simp
      try (refine hK _ _ ?_; clear hK K)
      try simp only [Act.put, List.setIfInBounds_toArray, List.set_cons_zero, List.set_cons_succ]
      refine wpAny_ready (rs := [5]) (by kernel_rfl) (by simp) ?_
      refine AllReady.cons (by simp only [List.getElem?_toArray, List.getElem?_cons_succ, List.getElem?_cons_zero]; rfl) (fun K hK => ?_) AllReady.nil
      refine step_append_Own (by rfl) _ _ 49 49 (by rfl) w3.heap.size 22 1 24 i1 (.slice none 0 0) Tryz.underlying49 Hs1.out Hs2.out Hs3.out rfl Hs4.out oa pre.length oc vs (by rfl) ((OV.out.chg C1.out (fun _ _ h => h)).alloc _) (.slice (some ⟨w2.heap.size, 0, none⟩) 1 1) 1 [.slice a1 N N] (by rfl) (Src.cells Tryz.underlying49 (heap_alloc_new w2 (.cells #[.slice a1 N N] 22 (0, 0))) 1 1 1 (by rfl) (by simp [Value.oneCell'])) LP.out.1 LP.out.2 (by have h1 := C1.out.size; have h2 := CI.out.size; simp <;> omega) ?_
      intro oa5 oc5 w5 hown hchg hb _
      have O5 := Lib.hid hown; have C5 := Lib.hid hchg; have B5 := Lib.hid hb
      clear hown hchg hb
      obtain ⟨u1, hu1⟩ : ∃ u, w5.cell? ⟨Bo, 0, none⟩ = some u := ⟨_, (cell5 C1.out C5.out OV.out LBo.out LBo2.out).trans hq⟩
      have fr1 : w5.frozen? ⟨Bo, 0, none⟩ = false := frozen5 C1.out C5.out OV.out LBo.out LBo2.out HBO.out
      obtain ⟨u2, hu2⟩ : ∃ u, w5.cell? ⟨Bl, 0, none⟩ = some u := ⟨_, (cell5 C1.out C5.out OV.out LBl.out LBl2.out).trans HL0.out⟩
      have fr2 : w5.frozen? ⟨Bl, 0, none⟩ = false := frozen5 C1.out C5.out OV.out LBl.out LBl2.out HBL2.out
      try (refine hK _ _ ?_; clear hK K)
      try simp only [Act.put, List.setIfInBounds_toArray, List.set_cons_zero, List.set_cons_succ]
      refine wpAny_ready (rs := [7]) (by kernel_rfl) (by simp) ?_
      refine AllReady.cons (by simp only [List.getElem?_toArray, List.getElem?_cons_succ, List.getElem?_cons_zero]; rfl) (fun K hK => ?_) AllReady.nil
      go_simp
      obtain ⟨w6, hw6⟩ : ∃ w6, w6 = w5.setCell ⟨Bo, 0, none⟩ (.slice oa5 (pre.length + 1) oc5) := ⟨_, rfl⟩
      have hv2 : w6.cell? ⟨Bl, 0, none⟩ = some u2 := by rw [hw6, World.cell?_setCell_far _ _ _ _ NE.out]; exact hu2
      have fr3 : w6.frozen? ⟨Bl, 0, none⟩ = false := by rw [hw6, World.frozen?_setCell]; exact fr2
      rw [← hw6]
      have HW6 := Lib.hid hw6; clear hw6
      try (refine hK _ _ ?_; clear hK K)
      try simp only [Act.put, List.setIfInBounds_toArray, List.set_cons_zero, List.set_cons_succ]
      refine wpAny_ready (rs := [8]) (by kernel_rfl) (by simp) ?_
      refine AllReady.cons (by simp only [List.getElem?_toArray, List.getElem?_cons_succ, List.getElem?_cons_zero]; rfl) (fun K hK => ?_) AllReady.nil
      go_simp
      try (refine hK _ _ ?_; clear hK K)
      try simp only [Act.put, List.setIfInBounds_toArray, List.set_cons_zero, List.set_cons_succ]
      refine wpAny_done (by kernel_rfl) ?_ _
      have hfin := open_fin NE2.out LBo3.out LBl3.out LG.out LX.out HBO.out OV.out RV.out SV.out HBL2.out CI.out (C1.out.alloc _) ((O1.out.clip).mono (Nat.le_refl _) |>.chg (S := Non) ((Chg.refl _ _).alloc _) (fun _ _ h => h)) RE.out rfl O5.out C5.out B5.out EZ.out _ rfl
      rw [← HW6.out] at hfin
      exact hfin
    case done =>
      intro D xs W hD hS hI hK
      obtain ⟨oa, oc, vs, h1, h2, h3, h4⟩ := hI.ex
      have hl := lastOf_all hS
      rw [startB_all] at hl
      obtain ⟨hrs, hxl⟩ := recs_all hS
      have h5 := hI.last
      rw [hl] at h5
      rw [hrs] at h3
      rw [hxl] at h1 h2
      obtain ⟨F, hF⟩ : ∃ F, (flat rs).length = F := ⟨_, rfl⟩
      rw [hF] at h5
      have HF := Lib.hid hF
      have hq : W.cell? ⟨Bo, 0, none⟩ = some (.slice oa rs.length oc) := by rw [cell_of_row W Bo 0 _ _ _ h1]; rfl
      have hq2 : W.cell? ⟨Bl, 0, none⟩ = some (.int .i64 (F : Int)) := by rw [cell_of_row W Bl 0 _ _ _ h5]; rfl
      have hfr := frozen_of_row W Bo 0 _ _ h1
      have hlen : F + rest.length = nb := by rw [← hF, ← NB.out, FR.out.eq, List.length_append]
      have HBO := Lib.hid h1; have OV := Lib.hid h2; have RV := Lib.hid h3; have SV := Lib.hid h4; have CI := Lib.hid hI.chg; have HK := Lib.hid hK; have HD := Lib.hid hD
      clear h1 h2 h3 h4 h5 hI hK hD hS hl hrs hxl hF H0
      have DW : Hid (DiskTo w W B p ao ao1 cap1 size sure bs) := Lib.hid (((D2.out.non C23)).keep CI.out (fun e => by
        have := H.out.lt; have := HBO2.out; have := HBL.out; have := D2.out.chg.size; rcases e with e | e <;> omega) (fun i hi e => by
        rcases e with e | e
        · exact own_ne D2.out.at_.own BO2.out (by decide) i hi (by rw [e, HBO2.out])
        · have := (D2.out.at_.own.lt i hi).2; have := HBL.out; omega) (fun i hi e => by
        have := HBO2.out; have := HBL.out; have := D2.out.chg.size; rcases e with e | e <;> omega))
      have PB : Hid (p ≠ Bo) := Lib.hid (by have := H.out.lt; have := HBO2.out; omega)
      have AB : Hid (∀ i, some i = blk ao1 → i ≠ Bo) := Lib.hid (fun i hi e => own_ne D2.out.at_.own BO2.out (by decide) i hi (by rw [e, HBO2.out]))
      have WS : Hid (w.heap.size ≤ Bo ∧ Bo < w3.heap.size ∧ w.heap.size ≤ w3.heap.size ∧ w.heap.size ≤ D) := Lib.hid (by have := HBO2.out; have := HD.out; omega)
      by_cases hre : rest = []
      · have hlt : ¬ (F : Int) < (nb : Int) := by rw [hre, List.length_nil] at hlen; omega
        have hbs : bs = flat rs := by rw [FR.out.eq, hre, List.append_nil]
        have HBS := Lib.hid hbs
        clear hbs
        go_wp2_with fail
        refine Calls.mono (ClipRows_any _ _ OV.out.le.1 OV.out.le.2) ?_
        rintro e w5 ⟨rfl, rfl⟩
        go_wp2_with fail
        obtain ⟨e1, e2, e3, e4, e5, e6⟩ := open_end WS.out.1 WS.out.2.1 WS.out.2.2.1 HBO.out OV.out RV.out SV.out DW.out PB.out AB.out HK.out WS.out.2.2.2 _ rfl
        refine ⟨by simp, .inl ⟨_, _, rfl, run_takeDeferred e1, ?_⟩⟩
        have hc5 := cell_kept e2 (grownBy_putObj' _ D (.deferred none)) (fun r e => by cases e; exact ⟨_, e1, rfl⟩)
        refine ⟨.tuple #[.slice oa rs.length rs.length, .int .i64 0], ?_, oa, vs, ao1, cap1, sure, rfl, e3, e4, e5, ?_, fun _ => rfl, fun h => absurd hre h⟩
        · simp [results, Tryz.f16, go_sem, hc5]
        · rw [← HBS.out]; exact e6
      · have hlt : (F : Int) < (nb : Int) := by
          have : 0 < rest.length := List.length_pos_iff.2 hre
          omega
        go_wp2_with fail
        refine Calls.mono (Cut_yes DW.out.at_ (s := F) (by rw [NB.out]; omega)) ?_
        rintro e wc ⟨rfl, hdc, hcc⟩
        have hbs : bs.take F = flat rs := by rw [FR.out.eq, ← HF.out]; exact List.take_left' rfl
        rw [hbs] at hdc
        have DC : Hid (DiskTo w wc B p ao ao1 F size F (flat rs)) := Lib.hid (⟨hdc, DW.out.chg.next hcc (fun i hi e => .inl e), DW.out.new⟩)
        have HBOc := Lib.hid ((hcc.block Bo (Array.getElem?_eq_some_iff.1 HBO.out).1 (fun e => PB.out e.symm)).trans HBO.out)
        have hqc : wc.cell? ⟨Bo, 0, none⟩ = some (.slice oa rs.length oc) := by rw [cell_of_row wc Bo 0 _ _ _ HBOc.out]; rfl
        have hfrc := frozen_of_row wc Bo 0 _ _ HBOc.out
        have OVc := Lib.hid (OV.out.chg hcc (fun k hk e => by have := (OV.out.lt k hk).1; have := H.out.lt; have := WS.out; omega))
        have RVc := Lib.hid (RV.out.chg hcc (fun v hv k hk e => by have := (RV.out.lt v hv k hk).1; have := H.out.lt; have := WS.out; omega))
        have HKc := Lib.hid ((hcc.block D (Array.getElem?_eq_some_iff.1 HK.out).1 (fun e => by have := H.out.lt; have := WS.out; omega)).trans HK.out)
        clear hbs hdc hcc hq hq2 hfr
        go_wp2_with fail
        refine Calls.mono (ClipRows_any _ _ OVc.out.le.1 OVc.out.le.2) ?_
        rintro e w5 ⟨rfl, rfl⟩
        go_wp2_with fail
        obtain ⟨e1, e2, e3, e4, e5, e6⟩ := open_end WS.out.1 WS.out.2.1 WS.out.2.2.1 HBOc.out OVc.out RVc.out SV.out DC.out PB.out AB.out HKc.out WS.out.2.2.2 _ rfl
        refine ⟨by simp, .inl ⟨_, _, rfl, run_takeDeferred e1, ?_⟩⟩
        have hc5 := cell_kept e2 (grownBy_putObj' _ D (.deferred none)) (fun r e => by cases e; exact ⟨_, e1, rfl⟩)
        refine ⟨.tuple #[.slice oa rs.length rs.length, .int .i64 0], ?_, oa, vs, ao1, F, F, rfl, e3, e4, e5, e6, fun h => absurd h hre, fun _ => HF.out.symm⟩
        · simp [results, Tryz.f16, go_sem, hc5]
  · have := H.out.le
    omega
end Go.Proofs.YtbmopcmhokpchaaGreatDoor
