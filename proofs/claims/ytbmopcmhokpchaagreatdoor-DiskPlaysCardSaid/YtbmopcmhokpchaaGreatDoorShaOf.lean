/- The sum of any bytes, walked. -/
import Derived.Test.YtbmopcmhokpchaaGreatDoorShaTake
import Derived.Test.YtbmopcmhokpchaaGreatDoorCuts
import Derived.Test.YtbmopcmhokpchaaGreatDoorRules
import Derived.Deep.DeepCutAuto
import Derived.Deep.CutBlock
namespace Go.Proofs.YtbmopcmhokpchaaGreatDoor
open Go.RowKit
set_option linter.unusedVariables false
set_option linter.unusedSimpArgs false
attribute [local go_sem ↓] Go.wp_at_zero Go.wp_at_succ
def zeroV (n : Nat) : Array Value := ((List.replicate n (0 : UInt8)).map bv).toArray
theorem zero32_lit : zeroV 32 = #[.int .u8 0, .int .u8 0, .int .u8 0, .int .u8 0, .int .u8 0, .int .u8 0, .int .u8 0, .int .u8 0, .int .u8 0, .int .u8 0, .int .u8 0, .int .u8 0, .int .u8 0, .int .u8 0, .int .u8 0, .int .u8 0, .int .u8 0, .int .u8 0, .int .u8 0, .int .u8 0, .int .u8 0, .int .u8 0, .int .u8 0, .int .u8 0, .int .u8 0, .int .u8 0, .int .u8 0, .int .u8 0, .int .u8 0, .int .u8 0, .int .u8 0, .int .u8 0] := by kernel_rfl
/-- Memory while a sum is made: its 32 bytes, the state at N, the last block behind it. -/
structure OfW (w wr : World) (N : Nat) (s : St) (last : List UInt8) : Prop where
  out : wr.heap[w.heap.size]? = some (.cells (zeroV 32) 68 (0, 0))
  st : wr.heap[N]? = some (.cells s.arr 82 (0, 0))
  la : wr.heap[N + 1]? = some (.cells (last.map bv).toArray 84 (0, 0))
  len : last.length = 64
  lt : w.heap.size < N
  chg : Chg Non w wr
theorem OfW.non {w wr w2 : World} {N : Nat} {s : St} {last : List UInt8} (h : OfW w wr N s last) (hc : Chg Non wr w2) : OfW w w2 N s last := by
  have l : ∀ i o, wr.heap[i]? = some o → w2.heap[i]? = some o := fun i o hi => (hc.block i (Array.getElem?_eq_some_iff.1 hi).1 (fun h => h)).trans hi
  exact ⟨l _ _ h.out, l _ _ h.st, l _ _ h.la, h.len, h.lt, h.chg.trans hc⟩
theorem OfW.row {w wr : World} {N : Nat} {s : St} {last l2 : List UInt8} (h : OfW w wr N s last) {cells : Array Value} (hc : cells = (l2.map bv).toArray) (hl : l2.length = 64) : OfW w (wr.setRow (N + 1) cells) N s l2 := by
  subst hc
  have hlt := h.lt
  exact ⟨(setRow_other _ _ _ _ (by omega)).trans h.out, (setRow_other _ _ _ _ (by omega)).trans h.st, setRow_heap _ _ _ _ _ _ h.la, hl, h.lt, h.chg.setRow (.inl (by omega)) _⟩
theorem OfW.state {w wr : World} {N : Nat} {s s2 : St} {last : List UInt8} (h : OfW w wr N s last) {cells : Array Value} (hc : cells = s2.arr) : OfW w (wr.setRow N cells) N s2 last := by
  subst hc
  have hlt := h.lt
  exact ⟨(setRow_other _ _ _ _ (by omega)).trans h.out, setRow_heap _ _ _ _ _ _ h.st, (setRow_other _ _ _ _ (by omega)).trans h.la, h.len, h.lt, h.chg.setRow (.inl (by omega)) _⟩
theorem OfW.byte {w wr : World} {N : Nat} {s : St} {last : List UInt8} (h : OfW w wr N s last) (j : Nat) (c : UInt8) : OfW w (wr.setCell ⟨N + 1, j, none⟩ (bv c)) N s (last.set j c) := by
  have hlt := h.lt
  refine ⟨(heap_setCell_other _ _ _ _ (by simp; omega)).trans h.out, (heap_setCell_other _ _ _ _ (by simp)).trans h.st, ?_, by simpa using h.len, h.lt, h.chg.setCell (.inl (by simp; omega)) _⟩
  rw [row_set h.la]
  congr 2
  apply Array.ext'
  simp [List.map_set]
theorem arr_one (s : St) : s.arr.all (·.oneCell') = true := by simp [St.arr, wv, Value.oneCell']
theorem Tryz.size_byte : (Tryz.prog.info? 5).map (·.size) = some 1 := by kernel_rfl
theorem Tryz.size_st : (Tryz.prog.info? 82).map (·.size) = some 8 := by kernel_rfl
theorem Tryz.size_64 : (Tryz.prog.info? 84).map (·.size) = some 64 := by kernel_rfl
theorem Tryz.size_32 : (Tryz.prog.info? 68).map (·.size) = some 32 := by kernel_rfl
theorem size_of {l : List UInt8} {n : Nat} {ty : TypeId} (h : (Tryz.prog.info? ty).map (·.size) = some n) (hl : l.length = n) : (Tryz.prog.info? ty).map (·.size) = some (l.map bv).toArray.size := by rw [h]; simp [hl]
theorem copy_row {l last : List UInt8} {n : Nat} (hl : last.length = 64) (M : Nat) (hn : l.length = n) (hM : min n 64 = M) :
    ((last.map bv).toArray.toList.take 0 ++ ((l.map bv).take 64 ++ (last.map bv).toArray.toList.drop (0 + M))).toArray = ((l.take 64 ++ last.drop M).map bv).toArray := by
  subst hM
  simp [List.map_take, List.map_drop]
theorem set_tail {r : List UInt8} (h : r.length < 64) : (r ++ List.replicate (64 - r.length) (0 : UInt8)).set r.length 128 = tailB r := by
  have e : 64 - r.length = (63 - r.length) + 1 := by omega
  rw [e, List.replicate_succ, tailB]
  simp
/-- What a walk asks of memory before a block is taken in. -/
structure OfFacts (w wr : World) (N : Nat) (s : St) (last : List UInt8) : Prop where
  r1 : IsRowAt Tryz.prog 82 wr (.pointer (some ⟨N, 0, none⟩))
  v1 : rowAt wr (.pointer (some ⟨N, 0, none⟩)) = .agg s.arr
  r2 : IsRowAt Tryz.prog 84 wr (.pointer (some ⟨N + 1, 0, none⟩))
  v2 : rowAt wr (.pointer (some ⟨N + 1, 0, none⟩)) = .agg (last.map bv).toArray
theorem OfW.facts {w wr : World} {N : Nat} {s : St} {last : List UInt8} (h : OfW w wr N s last) : OfFacts w wr N s last :=
  ⟨IsRowAt.mk h.st Tryz.underlying82 rfl Tryz.size_st, rowAt_mk h.st, IsRowAt.mk h.la Tryz.underlying84 rfl (size_of Tryz.size_64 h.len), rowAt_mk h.la⟩
/-- The state stored: the world behind it. -/
theorem OfW.put {w wr : World} {N : Nat} {s : St} {last : List UInt8} (h : OfW w wr N s last) (s2 : St) : ∃ W, CanStore Tryz.prog 82 wr (.pointer (some ⟨N, 0, none⟩)) (.agg s2.arr) ∧ storedAt wr (.pointer (some ⟨N, 0, none⟩)) (.agg s2.arr) = W ∧ OfW w W N s2 last :=
  ⟨_, CanStore.mk h.st Tryz.size_st rfl (arr_one _), rfl, h.state rfl⟩
theorem bvs_all (l : List UInt8) : (l.map bv).toArray.all (·.oneCell') = true := by simp [bv, Value.oneCell']
theorem OfW.putLast {w wr : World} {N : Nat} {s : St} {last : List UInt8} (h : OfW w wr N s last) {l2 : List UInt8} (hl : l2.length = 64) : ∃ W, CanStore Tryz.prog 84 wr (.pointer (some ⟨N + 1, 0, none⟩)) (.agg (l2.map bv).toArray) ∧ storedAt wr (.pointer (some ⟨N + 1, 0, none⟩)) (.agg (l2.map bv).toArray) = W ∧ OfW w W N s l2 :=
  ⟨_, CanStore.mk h.la (size_of Tryz.size_64 hl) (by simp [h.len, hl]) (bvs_all _), rfl, h.row rfl hl⟩
theorem OfW.copied {w wr : World} {N : Nat} {s : St} {last : List UInt8} (h : OfW w wr N s last) {b n c : Nat} {ro : Option Addr} {bs l2 : List UInt8} (hr : Rd wr b ro n c bs) {M : Nat} (hM : min n 64 = M) (hl : l2 = bs.take 64 ++ last.drop M) :
    ∃ W, (∀ ty, (Builtin.copy_ #[22, 22] ty #[.slice (some ⟨N + 1, 0, none⟩) 64 64, .slice ro n c]).run Tryz.prog wr = .ok (.int .i64 (M : Int)) W) ∧ OfW w W N s l2 := by
  refine ⟨_, fun ty => run_copy_Rd 22 22 ty Tryz.underlying22 Tryz.size_byte (fun _ => rfl) h.la (by simp [h.len]) hr hM, h.row ((copy_row h.len M hr.1 hM).trans (by rw [hl])) ?_⟩
  rw [hl]
  have := hr.1
  simp [h.len]
  omega
def sliceLen : Value → Nat | .slice _ n _ => n | _ => 0
def outRow (s : St) (k : Nat) : Array Value := ((s.out.take k ++ List.replicate (32 - k) (0 : UInt8)).map bv).toArray
/-- While the 32 bytes are laid. -/
structure OutW (w wr : World) (N : Nat) (s : St) (k : Nat) : Prop where
  out : wr.heap[w.heap.size]? = some (.cells (outRow s k) 68 (0, 0))
  st : wr.heap[N]? = some (.cells s.arr 82 (0, 0))
  lt : w.heap.size < N
  chg : Chg Non w wr
theorem OutW.start {w wr : World} {N : Nat} {s : St} {last : List UInt8} (h : OfW w wr N s last) : OutW w wr N s 0 := ⟨h.out, h.st, h.lt, h.chg⟩
theorem out_get (s : St) {k : Nat} (hk : k < 32) : s.out[k]? = some (s.l.getD (k / 4) 0 >>> UInt32.ofNat (24 - k % 4 * 8)).toUInt8 := by
  unfold St.out
  rw [List.getElem?_map, List.getElem?_range hk]
  rfl
theorem outRow_set (s : St) {k : Nat} (hk : k < 32) : (outRow s k).setIfInBounds k (bv (s.l.getD (k / 4) 0 >>> UInt32.ofNat (24 - k % 4 * 8)).toUInt8) = outRow s (k + 1) := by
  have hl : s.out.length = 32 := by simp [St.out]
  have hg := out_get s hk
  unfold outRow
  rw [List.take_add_one, hg]
  apply Array.ext'
  have e : 32 - k = (32 - (k + 1)) + 1 := by omega
  rw [e, List.replicate_succ]
  have ht : (s.out.take k).length = k := by rw [List.length_take]; omega
  simp only [Array.toList_setIfInBounds, List.map_append, List.map_cons]
  rw [List.set_append_right _ _ (by rw [List.length_map]; omega), List.length_map, ht, Nat.sub_self]
  simp
theorem OutW.step {w wr : World} {N : Nat} {s : St} {k : Nat} (h : OutW w wr N s k) (hk : k < 32) : OutW w (wr.setCell ⟨w.heap.size, k, none⟩ (bv (s.l.getD (k / 4) 0 >>> UInt32.ofNat (24 - k % 4 * 8)).toUInt8)) N s (k + 1) := by
  have hlt := h.lt
  refine ⟨?_, (heap_setCell_other _ _ _ _ (by simp; omega)).trans h.st, h.lt, h.chg.setCell (.inl (Nat.le_refl _)) _⟩
  rw [row_set h.out, outRow_set s hk]
theorem len_byte (n k : Nat) : Value.int .u8 ((n : Int) * 8 / 2 ^ (8 * k) % 256) = bv (UInt8.ofNat (n * 8 / 2 ^ (8 * k))) := by
  unfold bv
  congr 1
theorem out_byte (x : UInt32) {j : Nat} (hj : j < 32) : Value.int .u8 (wn x / 2 ^ j % 256) = bv (x >>> UInt32.ofNat j).toUInt8 := by
  rw [wn_shr x j hj]
  unfold bv wn
  rw [UInt32.toNat_toUInt8, Int.natCast_emod]
  rfl
theorem mid_zero {l : List UInt8} {n : Nat} (h : l.length = 64) : l.take (64 - 0) ++ (lenB n).drop (8 - 0) = l := by
  rw [Nat.sub_zero, Nat.sub_zero, List.take_of_length_le (by omega), List.drop_of_length_le (by rw [lenB_length]; omega), List.append_nil]
theorem lenB_get {n k : Nat} (hk : k < 8) : (lenB n)[7 - k]? = some (UInt8.ofNat (n * 8 / 2 ^ (8 * k))) := by
  unfold lenB
  rw [List.getElem?_map, List.getElem?_range (by omega)]
  simp only [Option.map_some]
  rw [show 56 - 8 * (7 - k) = 8 * k by omega]
theorem mid_step {l : List UInt8} {n k : Nat} (h : l.length = 64) (hk : k < 8) : (l.take (64 - k) ++ (lenB n).drop (8 - k)).set (63 - k) (UInt8.ofNat (n * 8 / 2 ^ (8 * k))) = l.take (64 - (k + 1)) ++ (lenB n).drop (8 - (k + 1)) := by
  have hb := lenB_length n
  apply List.ext_getElem?
  intro i
  rw [List.getElem?_set]
  by_cases e : 63 - k = i
  · subst e
    have h1 : (l.take (64 - (k + 1))).length = 63 - k := by rw [List.length_take]; omega
    rw [if_pos rfl, if_pos (by simp; omega), List.getElem?_append_right (by omega), h1, Nat.sub_self, List.getElem?_drop, Nat.add_zero, show 8 - (k + 1) = 7 - k by omega, lenB_get hk]
  · rw [if_neg e]
    rcases Nat.lt_or_gt_of_ne e with hi | hi
    · rw [List.getElem?_append_right (by rw [List.length_take]; omega), List.getElem?_append_right (by rw [List.length_take]; omega)]
      simp only [List.length_take, List.getElem?_drop]
      congr 1
      omega
    · rw [List.getElem?_append_left (by rw [List.length_take]; omega), List.getElem?_append_left (by rw [List.length_take]; omega)]
      simp only [List.getElem?_take]
      rw [if_pos (by omega), if_pos (by omega)]
attribute [local go_sem ↓] run_load_row_op run_store_row_op in
set_option maxRecDepth 40000 in
set_option maxHeartbeats 1000000 in
theorem Of_any {w : World} {b : Nat} {ao : Option Addr} {n cap : Nat} {bs : List UInt8} (h : Rd w b ao n cap bs) (hn : n ≤ 1000000000) :
    Calls Tryz.prog 33 #[.slice ao n cap] w fun e w' => e = .returned (.agg ((sha bs).map bv).toArray) ∧ Chg Non w w' := by
  have HR := Lib.hid h
  have hcap := h.2.2.1
  have hnc := h.2.1
  unfold maxLen at hcap
  clear h
  go_enter Tryz.func33, Tryz.ntmps33
  go_wp2_with fail
  refine Calls.mono (begin_any _) ?_
  rintro e w1 ⟨rfl, hc1⟩
  have hx1 : w1.heap[w.heap.size]? = some (.cells (zeroV 32) 68 (0, 0)) := (hc1.block _ (by simp) (fun h => h)).trans ((heap_alloc_new _ _).trans (by kernel_rfl))
  have C1 : Hid (Chg Non w w1) := ((Chg.refl _ _).alloc _).trans hc1
  have X1 := Lib.hid hx1
  clear hc1 hx1
  unfold St.arr begS
  simp only [wv_eq]
  have O1 : Hid (OfW w ((w1.alloc (.cells begS.arr 82)).alloc (.cells (zeroV 64) 84)) w1.heap.size begS (List.replicate 64 0)) :=
    ⟨(heap_alloc_old _ _ (by have := (Array.getElem?_eq_some_iff.1 X1.out).1; simp; omega)).trans ((heap_alloc_old _ _ (Array.getElem?_eq_some_iff.1 X1.out).1).trans X1.out), heap_alloc2_old _ _ _, heap_alloc2_new _ _ _, rfl, (Array.getElem?_eq_some_iff.1 X1.out).1, (C1.out.alloc _).alloc _⟩
  have hz : (Obj.cells (zeroV 64) 84 (0, 0)) = .cells #[.int .u8 0, .int .u8 0, .int .u8 0, .int .u8 0, .int .u8 0, .int .u8 0, .int .u8 0, .int .u8 0, .int .u8 0, .int .u8 0, .int .u8 0, .int .u8 0, .int .u8 0, .int .u8 0, .int .u8 0, .int .u8 0, .int .u8 0, .int .u8 0, .int .u8 0, .int .u8 0, .int .u8 0, .int .u8 0, .int .u8 0, .int .u8 0, .int .u8 0, .int .u8 0, .int .u8 0, .int .u8 0, .int .u8 0, .int .u8 0, .int .u8 0, .int .u8 0, .int .u8 0, .int .u8 0, .int .u8 0, .int .u8 0, .int .u8 0, .int .u8 0, .int .u8 0, .int .u8 0, .int .u8 0, .int .u8 0, .int .u8 0, .int .u8 0, .int .u8 0, .int .u8 0, .int .u8 0, .int .u8 0, .int .u8 0, .int .u8 0, .int .u8 0, .int .u8 0, .int .u8 0, .int .u8 0, .int .u8 0, .int .u8 0, .int .u8 0, .int .u8 0, .int .u8 0, .int .u8 0, .int .u8 0, .int .u8 0, .int .u8 0, .int .u8 0] 84 (0, 0) := by kernel_rfl
  have HZ := Lib.hid hz; clear hz
  go_wp2_with fail
  rw [← HZ.out]
  generalize hN : w1.heap.size = N at O1
  clear HZ hN X1 C1
  have U33 : Hid (Tryz.prog.underlying 22 = some (.slice (Tryz.prog.elem 22))) := (by kernel_rfl : Tryz.prog.underlying 22 = some (.slice (Tryz.prog.elem 22)))
  have Z33 : Hid ((Tryz.prog.info? (Tryz.prog.elem 22)).map (·.size) = some 1) := (by kernel_rfl : (Tryz.prog.info? (Tryz.prog.elem 22)).map (·.size) = some 1)
  go_loopw [4] (fun r wr => ∃ (k m c : Nat) (ro : Option Addr) (last : List UInt8), 64 * k + m = n ∧ r = .slice ro m c ∧ Rd w b ro m c (bs.drop (64 * k)) ∧ OfW w wr N (blocksS k begS bs) last) (fun r _ => sliceLen r)
  case atStart => exact ⟨0, n, cap, ao, _, by omega, rfl, HR.out, O1.out⟩
  case round =>
    clear O1
    obtain ⟨k, m, c, ro, last, hm, rfl, hr, ho⟩ := hrel
    have OW := Lib.hid ho; have RW := Lib.hid hr
    have LL := Lib.hid ho.len; have LA := Lib.hid ho.la; have RL := Lib.hid hr.1
    have hmc := hr.2.1
    have hcm := hr.2.2.1
    unfold maxLen at hcm
    clear ho hr
    generalize hs0 : blocksS k begS bs = s at OW
    have HS := Lib.hid hs0; clear hs0
    by_cases hge : 64 ≤ m
    · have hn64 : min m 64 = 64 := by omega
      have HM := Lib.hid hn64
      obtain ⟨ro', hs, hr'⟩ := RW.out.from_ U33.out Z33.out .i64 hge
      have hs' : ∀ w', (Instr.slice 22 (.slice ro m c) (some (.int .i64 64)) none none).run Tryz.prog w' = .ok (.slice ro' (m - 64) (c - 64)) w' := hs
      have R2 := Lib.hid hr'
      clear hs hr'
      obtain ⟨l, hl⟩ : ∃ l, l = (bs.drop (64 * k)).take 64 := ⟨_, rfl⟩
      obtain ⟨W2, hc2, ho2⟩ := OW.out.copied (RW.out.chg OW.out.chg (fun h => h)) (M := 64) (by omega) (l2 := l) (by rw [hl, List.drop_of_length_le (Nat.le_of_eq LL.out), List.append_nil])
      have hc2' : ∀ ty, (Builtin.copy_ #[22, 22] ty #[.slice (some ⟨N + 1, 0, none⟩) 64 64, .slice ro m c]).run Tryz.prog wr = .ok (.int .i64 64) W2 := hc2
      have L64 := Lib.hid ho2.len; have HL := Lib.hid hl; have O2 := Lib.hid ho2
      obtain ⟨r1, v1, r2, v2⟩ := ho2.facts
      clear hl hc2 ho2
      go_wp2_with (go_at_call 79; (with_reducible refine Calls.mono (take_any s l L64.out _) ?_); rintro e w3 ⟨rfl, hc3⟩; obtain ⟨W4, p1, p2, ho4⟩ := (O2.out.non hc3).put (takeS s l); have O4 := Lib.hid ho4; clear ho4 hc3)
      go_roundw
      case rel =>
        refine ⟨k + 1, m - 64, c - 64, ro', l, by omega, rfl, ?_, ?_⟩
        · have e := R2.out
          rw [List.drop_drop] at e
          rw [show 64 * (k + 1) = 64 * k + 64 by omega]
          exact e
        · rw [blocksS_succ, HS.out, ← HL.out]; exact O4.out
      case measure => simp [sliceLen]; omega
    · have hk : k = n / 64 := by omega
      have hmr : m < 64 := by omega
      obtain ⟨rm, hrm⟩ : ∃ rm, rm = bs.drop (64 * k) := ⟨_, rfl⟩
      have rl : rm.length = m := by rw [hrm]; exact RL.out
      have hfin : sha bs = (endS s rm n).out := by rw [sha, HR.out.1, ← hk, HS.out, hrm]
      have RM := Lib.hid (show Rd w b ro m c rm by rw [hrm]; exact RW.out)
      have FIN := Lib.hid hfin; have RLN := Lib.hid rl
      clear hfin hrm hk
      -- zeros
      obtain ⟨W1, p1, p2, ho1⟩ := OW.out.putLast (l2 := List.replicate 64 0) (by simp)
      have pz : CanStore Tryz.prog 84 wr (.pointer (some ⟨N + 1, 0, none⟩)) (.agg (zeroV 64)) := p1
      have pz2 : storedAt wr (.pointer (some ⟨N + 1, 0, none⟩)) (.agg (zeroV 64)) = W1 := p2
      obtain ⟨W2, hc2, ho2⟩ := ho1.copied (RM.out.chg ho1.chg (fun h => h)) (M := m) (by omega) (l2 := rm ++ List.replicate (64 - rm.length) 0) (by rw [List.take_of_length_le (by omega), List.drop_replicate, rl])
      have y1 : ∃ v, W2.cell? ⟨N + 1, m, none⟩ = some v := by
        rw [cell_of_row W2 _ _ _ _ _ ho2.la]
        exact ⟨_, Array.getElem?_eq_getElem (show m < ((rm ++ List.replicate (64 - rm.length) 0).map bv).toArray.size by simp; omega)⟩
      obtain ⟨yv, y1⟩ := y1
      have f1 := frozen_of_row W2 _ m _ _ ho2.la
      have ho3 := ho2.byte m 128
      rw [show m = rm.length from rl.symm, set_tail (by omega), rl] at ho3
      have O3 := Lib.hid ho3
      clear p1 p2 ho1 ho2 ho3 rl
      by_cases h56 : m < 56
      · have b56 : (m : Int) + 1 ≤ 56 := by omega
        obtain ⟨W3, hW3⟩ : ∃ W3, W3 = W2.setCell ⟨N + 1, m, none⟩ (.int .u8 128) := ⟨_, rfl⟩
        have O4 : Hid (OfW w W3 N s (tailB rm)) := by rw [hW3]; exact O3.out
        have HE := Lib.hid (show endS s rm n = takeS s ((tailB rm).take 56 ++ lenB n) by rw [endS, if_pos (by have := RLN.out; omega)])
        have L1 := Lib.hid O4.out.len
        have HW3 := Lib.hid hW3; clear hW3 O3
        go_wp2_with (refine wpList_buildTo rfl 84 _ rfl (some 23) rfl (zeroV 64) (by kernel_rfl) ?_)
        rw [← HW3.out]
        generalize tailB rm = l1 at O4 HE L1
        have OX := O4
        have HF := Lib.hid (FIN.out.trans (congrArg St.out HE.out))
        clear O4 HE
        generalize s = s1 at OX HF ⊢
        go_loopw [40] (fun i wr => ∃ k : Nat, k ≤ 8 ∧ i = .int .i64 k ∧ OfW w wr N s1 (l1.take (64 - k) ++ (lenB n).drop (8 - k))) (fun i _ => 8 - (intOf i).toNat)
        case atStart => exact ⟨0, by omega, rfl, by rw [mid_zero L1.out]; exact OX.out⟩
        case round =>
          clear OX
          obtain ⟨k, hk, rfl, ho⟩ := hrel
          by_cases h8 : k < 8
          · have hlen := ho.len
            obtain ⟨yv, y1⟩ : ∃ v, wr.cell? ⟨N + 1, 63 - k, none⟩ = some v := by
              rw [cell_of_row wr _ _ _ _ _ ho.la]
              exact ⟨_, Array.getElem?_eq_getElem (show 63 - k < ((l1.take (64 - k) ++ (lenB n).drop (8 - k)).map bv).toArray.size by rw [List.size_toArray, List.length_map, hlen]; omega)⟩
            have f1 := frozen_of_row wr _ (63 - k) _ _ ho.la
            have hb := ho.byte (63 - k) (UInt8.ofNat (n * 8 / 2 ^ (8 * k)))
            rw [mid_step L1.out h8] at hb
            have HB := Lib.hid hb
            have k0 : (0 : Int) ≤ (k : Int) := by omega
            have k1 : (k : Int) < 8 := by omega
            have k2 : (k : Int) ≤ 63 := by omega
            have t1 : (63 - (k : Int)).toNat = 63 - k := by omega
            have t2 : (8 * (k : Int)).toNat = 8 * k := by omega
            clear ho hb hlen
            go_wp2_with fail
            go_roundw
            case rel => exact ⟨k + 1, by omega, by go_num, by rw [len_byte]; exact HB.out⟩
            case measure => simp [intOf]; omega
          · obtain rfl : k = 8 := by omega
            rw [show 64 - 8 = 56 from rfl, show 8 - 8 = 0 from rfl, List.drop_zero] at ho
            have HO := Lib.hid ho
            have T64 := Lib.hid ho.len
            generalize l1.take 56 ++ lenB n = l3 at HO HF ho T64
            obtain ⟨r1, v1, r2, v2⟩ := ho.facts
            clear ho h8 hk
            go_wp2_with (go_at_call 79; (with_reducible refine Calls.mono (take_any s1 l3 T64.out _) ?_); rintro e w3 ⟨rfl, hc3⟩; obtain ⟨W6, p7, p8, ho6⟩ := (HO.out.non hc3).put (takeS s1 l3); have O6 := Lib.hid ho6; clear ho6 hc3)
            generalize takeS s1 l3 = s9 at O6 HF ⊢
            go_loopw [55] (fun i wr => ∃ k : Nat, k ≤ 32 ∧ i = .int .i64 k ∧ OutW w wr N s9 k) (fun i _ => 32 - (intOf i).toNat)
            case atStart => exact ⟨0, by omega, rfl, OutW.start O6.out⟩
            case round =>
              clear HO r1 v1 r2 v2 O6
              obtain ⟨k, hk, rfl, ho⟩ := hrel
              by_cases h32 : k < 32
              · have y1 : wr.cell? ⟨N, k / 4, none⟩ = some (.int .u32 (wn (s9.l.getD (k / 4) 0))) := newc ho.st (arr_get _ (by omega))
                obtain ⟨yv, y2⟩ : ∃ v, wr.cell? ⟨w.heap.size, k, none⟩ = some v := by
                  rw [cell_of_row wr _ _ _ _ _ ho.out]
                  exact ⟨_, Array.getElem?_eq_getElem (show k < (outRow s9 k).size by simp [outRow, St.out]; omega)⟩
                have f1 := frozen_of_row wr _ k _ _ ho.out
                have hst := ho.step h32
                have HS2 := Lib.hid hst
                generalize s9.l.getD (k / 4) 0 = x at y1 HS2
                have k0 : (0 : Int) ≤ (k : Int) := by omega
                have k1 : (k : Int) < 32 := by omega
                have k2 : (k : Int) / 4 < 8 := by omega
                clear ho hst
                go_wp2_with fail
                go_roundw
                case rel => exact ⟨k + 1, by omega, by go_num, by rw [out_byte _ (by omega)]; exact HS2.out⟩
                case measure => simp [intOf]; omega
              · obtain rfl : k = 32 := by omega
                have e0 : wr.heap[w.heap.size]? = some (.cells (s9.out.map bv).toArray 68 (0, 0)) := by
                  rw [ho.out, outRow, List.take_of_length_le (by simp [St.out])]
                  simp
                have r5 : IsRowAt Tryz.prog 68 wr (.pointer (some ⟨w.heap.size, 0, none⟩)) := IsRowAt.mk e0 Tryz.underlying68 rfl (size_of Tryz.size_32 (by simp [St.out]))
                have v5 : rowAt wr (.pointer (some ⟨w.heap.size, 0, none⟩)) = .agg (s9.out.map bv).toArray := rowAt_mk e0
                have p9 : CanStore Tryz.prog 68 wr (.pointer (some ⟨w.heap.size, 0, none⟩)) (.agg (s9.out.map bv).toArray) := CanStore.mk e0 (size_of Tryz.size_32 (by simp [St.out])) rfl (bvs_all _)
                obtain ⟨W9, q9⟩ : ∃ W9, storedAt wr (.pointer (some ⟨w.heap.size, 0, none⟩)) (.agg (s9.out.map bv).toArray) = W9 := ⟨_, rfl⟩
                have e9 : W9.heap[w.heap.size]? = some (.cells (s9.out.map bv).toArray 68 (0, 0)) := by rw [← q9]; exact setRow_heap _ _ _ _ _ _ e0
                have c9 : Chg Non w W9 := by rw [← q9]; exact ho.chg.setRow (.inl (Nat.le_refl _)) _
                have E9 := Lib.hid e9; have C9 := Lib.hid c9; have FN := Lib.hid HF.out
                generalize hso : s9.out = so at r5 v5 p9 q9 E9 FN
                have SL : Hid (so.length = 32) := by rw [← hso]; exact Lib.hid (by simp [St.out])
                clear hso e0 e9 c9 ho h32 hk HF
                go_wp2_with fail
                refine bodyPost_ret (v := .agg (so.map bv).toArray) (results_cell_row (fn := Tryz.f33) (p := 2) (ty := 68) Tryz.results33 _ _ w.heap.size 68 _ (0, 0) (.array 32 5) (by rfl) E9.out Tryz.underlying68 rfl (size_of Tryz.size_32 SL.out)) rfl ⟨by rw [FN.out], C9.out⟩
      · have b56 : 56 < (m : Int) + 1 := by omega
        obtain ⟨r1, v1, r2, v2⟩ := O3.out.facts
        have T64 := Lib.hid O3.out.len
        have HE := Lib.hid (show endS s rm n = takeS (takeS s (tailB rm)) (List.replicate 56 (0 : UInt8) ++ lenB n) by rw [endS, if_neg (by have := RLN.out; omega)])
        generalize tailB rm = l1 at O3 HE T64 v2
        have r1' : IsRowAt Tryz.prog 82 (W2.setCell ⟨N + 1, m, none⟩ (.int .u8 128)) (.pointer (some ⟨N, 0, none⟩)) := r1
        have r2' : IsRowAt Tryz.prog 84 (W2.setCell ⟨N + 1, m, none⟩ (.int .u8 128)) (.pointer (some ⟨N + 1, 0, none⟩)) := r2
        have v1' : rowAt (W2.setCell ⟨N + 1, m, none⟩ (.int .u8 128)) (.pointer (some ⟨N, 0, none⟩)) = .agg s.arr := v1
        have v2' : rowAt (W2.setCell ⟨N + 1, m, none⟩ (.int .u8 128)) (.pointer (some ⟨N + 1, 0, none⟩)) = .agg (l1.map bv).toArray := v2
        clear r1 v1 r2 v2
        go_wp2_with (first
          | (refine wpList_buildTo rfl 84 _ rfl (some 23) rfl (zeroV 64) (by kernel_rfl) ?_)
          | (refine wpList_buildTo rfl 84 _ rfl (some 35) rfl (zeroV 64) (by kernel_rfl) ?_)
          | (go_at_call 79; (with_reducible refine Calls.mono (take_any s l1 T64.out _) ?_); rintro e w3 ⟨rfl, hc3⟩; obtain ⟨W4, p1, p2, ho4⟩ := (O3.out.non hc3).put (takeS s l1); obtain ⟨W5, p3, p4, ho5⟩ := ho4.putLast (l2 := List.replicate 64 0) (by simp); have O5 := Lib.hid ho5; have p5 : CanStore Tryz.prog 84 W4 (.pointer (some ⟨N + 1, 0, none⟩)) (.agg (zeroV 64)) := p3; have p6 : storedAt W4 (.pointer (some ⟨N + 1, 0, none⟩)) (.agg (zeroV 64)) = W5 := p4; clear ho4 ho5 hc3 p3 p4))
        have HF : Hid (sha bs = (takeS (takeS s l1) ((List.replicate 64 (0 : UInt8)).take 56 ++ lenB n)).out) := Lib.hid (FIN.out.trans (congrArg St.out (HE.out.trans (by rw [List.take_replicate]; rfl))))
        have L1 : Hid ((List.replicate 64 (0 : UInt8)).length = 64) := Lib.hid (by simp)
        have OX := O5
        clear O5 O3 HE p1 p2 p5 p6
        generalize takeS s l1 = s1 at OX HF ⊢
        generalize (List.replicate 64 (0 : UInt8)) = l2 at OX HF L1
        clear r1' v1' r2' v2' T64
        go_loopw [40] (fun i wr => ∃ k : Nat, k ≤ 8 ∧ i = .int .i64 k ∧ OfW w wr N s1 (l2.take (64 - k) ++ (lenB n).drop (8 - k))) (fun i _ => 8 - (intOf i).toNat)
        case atStart => exact ⟨0, by omega, rfl, by rw [mid_zero L1.out]; exact OX.out⟩
        case round =>
          clear OX
          obtain ⟨k, hk, rfl, ho⟩ := hrel
          by_cases h8 : k < 8
          · have hlen := ho.len
            obtain ⟨yv, y1⟩ : ∃ v, wr.cell? ⟨N + 1, 63 - k, none⟩ = some v := by
              rw [cell_of_row wr _ _ _ _ _ ho.la]
              exact ⟨_, Array.getElem?_eq_getElem (show 63 - k < ((l2.take (64 - k) ++ (lenB n).drop (8 - k)).map bv).toArray.size by rw [List.size_toArray, List.length_map, hlen]; omega)⟩
            have f1 := frozen_of_row wr _ (63 - k) _ _ ho.la
            have hb := ho.byte (63 - k) (UInt8.ofNat (n * 8 / 2 ^ (8 * k)))
            rw [mid_step L1.out h8] at hb
            have HB := Lib.hid hb
            have k0 : (0 : Int) ≤ (k : Int) := by omega
            have k1 : (k : Int) < 8 := by omega
            have k2 : (k : Int) ≤ 63 := by omega
            have t1 : (63 - (k : Int)).toNat = 63 - k := by omega
            have t2 : (8 * (k : Int)).toNat = 8 * k := by omega
            clear ho hb hlen
            go_wp2_with fail
            go_roundw
            case rel => exact ⟨k + 1, by omega, by go_num, by rw [len_byte]; exact HB.out⟩
            case measure => simp [intOf]; omega
          · obtain rfl : k = 8 := by omega
            rw [show 64 - 8 = 56 from rfl, show 8 - 8 = 0 from rfl, List.drop_zero] at ho
            have HO := Lib.hid ho
            have T64 := Lib.hid ho.len
            generalize l2.take 56 ++ lenB n = l3 at HO HF ho T64
            obtain ⟨r1, v1, r2, v2⟩ := ho.facts
            clear ho h8 hk
            go_wp2_with (go_at_call 79; (with_reducible refine Calls.mono (take_any s1 l3 T64.out _) ?_); rintro e w3 ⟨rfl, hc3⟩; obtain ⟨W6, p7, p8, ho6⟩ := (HO.out.non hc3).put (takeS s1 l3); have O6 := Lib.hid ho6; clear ho6 hc3)
            generalize takeS s1 l3 = s9 at O6 HF ⊢
            go_loopw [55] (fun i wr => ∃ k : Nat, k ≤ 32 ∧ i = .int .i64 k ∧ OutW w wr N s9 k) (fun i _ => 32 - (intOf i).toNat)
            case atStart => exact ⟨0, by omega, rfl, OutW.start O6.out⟩
            case round =>
              clear HO r1 v1 r2 v2 O6
              obtain ⟨k, hk, rfl, ho⟩ := hrel
              by_cases h32 : k < 32
              · have y1 : wr.cell? ⟨N, k / 4, none⟩ = some (.int .u32 (wn (s9.l.getD (k / 4) 0))) := newc ho.st (arr_get _ (by omega))
                obtain ⟨yv, y2⟩ : ∃ v, wr.cell? ⟨w.heap.size, k, none⟩ = some v := by
                  rw [cell_of_row wr _ _ _ _ _ ho.out]
                  exact ⟨_, Array.getElem?_eq_getElem (show k < (outRow s9 k).size by simp [outRow, St.out]; omega)⟩
                have f1 := frozen_of_row wr _ k _ _ ho.out
                have hst := ho.step h32
                have HS2 := Lib.hid hst
                generalize s9.l.getD (k / 4) 0 = x at y1 HS2
                have k0 : (0 : Int) ≤ (k : Int) := by omega
                have k1 : (k : Int) < 32 := by omega
                have k2 : (k : Int) / 4 < 8 := by omega
                clear ho hst
                go_wp2_with fail
                go_roundw
                case rel => exact ⟨k + 1, by omega, by go_num, by rw [out_byte _ (by omega)]; exact HS2.out⟩
                case measure => simp [intOf]; omega
              · obtain rfl : k = 32 := by omega
                have e0 : wr.heap[w.heap.size]? = some (.cells (s9.out.map bv).toArray 68 (0, 0)) := by
                  rw [ho.out, outRow, List.take_of_length_le (by simp [St.out])]
                  simp
                have r5 : IsRowAt Tryz.prog 68 wr (.pointer (some ⟨w.heap.size, 0, none⟩)) := IsRowAt.mk e0 Tryz.underlying68 rfl (size_of Tryz.size_32 (by simp [St.out]))
                have v5 : rowAt wr (.pointer (some ⟨w.heap.size, 0, none⟩)) = .agg (s9.out.map bv).toArray := rowAt_mk e0
                have p9 : CanStore Tryz.prog 68 wr (.pointer (some ⟨w.heap.size, 0, none⟩)) (.agg (s9.out.map bv).toArray) := CanStore.mk e0 (size_of Tryz.size_32 (by simp [St.out])) rfl (bvs_all _)
                obtain ⟨W9, q9⟩ : ∃ W9, storedAt wr (.pointer (some ⟨w.heap.size, 0, none⟩)) (.agg (s9.out.map bv).toArray) = W9 := ⟨_, rfl⟩
                have e9 : W9.heap[w.heap.size]? = some (.cells (s9.out.map bv).toArray 68 (0, 0)) := by rw [← q9]; exact setRow_heap _ _ _ _ _ _ e0
                have c9 : Chg Non w W9 := by rw [← q9]; exact ho.chg.setRow (.inl (Nat.le_refl _)) _
                have E9 := Lib.hid e9; have C9 := Lib.hid c9; have FN := Lib.hid HF.out
                generalize hso : s9.out = so at r5 v5 p9 q9 E9 FN
                have SL : Hid (so.length = 32) := by rw [← hso]; exact Lib.hid (by simp [St.out])
                clear hso e0 e9 c9 ho h32 hk HF
                go_wp2_with fail
                refine bodyPost_ret (v := .agg (so.map bv).toArray) (results_cell_row (fn := Tryz.f33) (p := 2) (ty := 68) Tryz.results33 _ _ w.heap.size 68 _ (0, 0) (.array 32 5) (by rfl) E9.out Tryz.underlying68 rfl (size_of Tryz.size_32 SL.out)) rfl ⟨by rw [FN.out], C9.out⟩
end Go.Proofs.YtbmopcmhokpchaaGreatDoor
