/- The document's sum, walked. -/
import Derived.Test.YtbmopcmhokpchaaDoorShaOf
import Derived.Great.BuildSlice
import Derived.Deep.RegionHeld3
namespace Go.Proofs.YtbmopcmhokpchaaDoor
open Go.RowKit
set_option linter.unusedVariables false
set_option linter.unusedSimpArgs false
attribute [local go_sem ↓] Go.wp_at_zero Go.wp_at_succ
theorem round_st (x : UInt32) {k : Nat} {K : Int} (hK : K = (k : Int)) (h0 : 0 < k) (h1 : k < 32) (w : World) :
    Calls Tryd.prog 43 #[.int .u32 (wn x), .int .u64 K] w fun e w' => e = .returned (.int .u32 (wn (rotr x k))) ∧ w' = w := by
  subst hK
  exact Calls.mono (round_any x k h0 h1 w) fun e w' ⟨h1, h2⟩ => ⟨h1, h2.symm⟩
theorem table_any (w : World) : Calls Tryd.prog 44 #[] w fun e w' => e = .returned (.slice (some ⟨w.heap.size, 0, none⟩) 64 64) ∧ w'.heap[w.heap.size]? = some (.cells stepsV 44 (0, 0)) ∧ Chg Non w w' := by
  go_enter Tryd.func44, Tryd.ntmps44
  go_wp2_with (refine wpList_buildFlat rfl 65 44 64 _ rfl .u32 (kList.map wn) Tryd.underlying65 (by kernel_rfl) (by kernel_rfl) (by kernel_rfl) (by omega) (by omega) (by kernel_rfl) ?_)
  go_ret
  exact ⟨rfl, (heap_alloc_new w _).trans rfl, (Chg.refl _ _).alloc _⟩
theorem Tryd.info_u32 : (Tryd.prog.info? 44).map (fun i => (i.zero, i.size, i.bytes)) = some (some (.int .u32 0), 1, 4) := by kernel_rfl
theorem Own.src {P : Program} {w : World} {B : Nat} {e : TypeId} {ao : Option Addr} {n cap : Nat} {xs : List Value} {tx e' : TypeId} (h : Own w B e 1 ao n cap xs) (hk : P.underlying tx = some (.slice e')) (h1 : ∀ u ∈ xs, u.oneCell' = true) : Src P 1 tx (.slice ao n cap) n xs w := by
  obtain ⟨l1, l2, l3, l4, l5⟩ := h
  cases ao with
  | none =>
    obtain rfl := l4 rfl
    obtain rfl : n = 0 := by omega
    have : xs = [] := List.eq_nil_of_length_eq_zero (by simpa using l1)
    subst this
    exact Src.ofNil w hk 0
  | some a =>
    obtain ⟨g, cur, rfl, _, hg, _, ht⟩ := l5 a rfl
    refine Src.ofSlice w hk _ n cap _ (by simpa using l1) (fun j u hu => ?_) h1
    have hadd : (⟨g, 0, none⟩ : Addr).add j = ⟨g, j, none⟩ := by unfold Addr.add; split <;> simp_all
    rw [hadd, cell_of_row w g j cur e (0, 0) hg]
    rw [← ht, List.getElem?_take] at hu
    split at hu
    · simpa using hu
    · cases hu
theorem Own.put {w : World} {B g n cap : Nat} {e : TypeId} {xs : List Value} (h : Own w B e 1 (some ⟨g, 0, none⟩) n cap xs) {j : Nat} (hj : j < n) (v : Value) : Own (w.setCell ⟨g, j, none⟩ v) B e 1 (some ⟨g, 0, none⟩) n cap (xs.set j v) := by
  obtain ⟨l1, l2, l3, l4, l5⟩ := h
  obtain ⟨g', cur, e1, hB, hg, hs, ht⟩ := l5 _ rfl
  cases e1
  refine ⟨by simpa using l1, l2, l3, l4, fun a ha => ?_⟩
  cases ha
  refine ⟨g, _, rfl, hB, row_set hg j v, by simpa using hs, ?_⟩
  rw [Array.toList_setIfInBounds, ← ht, List.take_set]
theorem Own.lit {w : World} {B g n : Nat} {e : TypeId} {cs : Array Value} (hg : w.heap[g]? = some (.cells cs e (0, 0))) (hs : cs.size = n) (hB : B ≤ g) (hm : n ≤ maxLen) : Own w B e 1 (some ⟨g, 0, none⟩) n n cs.toList := by
  have h := Own.of_block (sz := 1) (n := n) (cap := n) hg hB (Nat.le_refl _) hm (by omega)
  rwa [List.take_of_length_le (by simp; omega)] at h
theorem arr_ones (s : St) : ∀ u ∈ s.arr.toList, u.oneCell' = true := by
  intro u hu
  simp only [St.arr, List.mem_cons, List.not_mem_nil, or_false] at hu
  rcases hu with rfl | rfl | rfl | rfl | rfl | rfl | rfl | rfl <;> rfl
theorem sk_append {wr w1 : World} {B g k c cap' : Nat} {ao' : Option Addr} {e : TypeId} {xs news : List Value} {o : Obj} (hown : Own wr B e 1 (some ⟨g, 0, none⟩) k c xs) (hgl : g < wr.heap.size) (hown1 : Own w1 B e 1 ao' (k + 1) cap' (xs ++ news))
    (hchg1 : Chg (fun i => some i = blk (some ⟨g, 0, none⟩) ∧ k + 1 ≤ c ∧ 0 < 1) (wr.alloc o).drew w1) (h4 : k + 1 ≤ c → cap' = c ∧ ao' = some ⟨g, 0, none⟩) : SK wr g k w1 := by
  refine ⟨by have := hchg1.size; simp at this; omega, fun j hj => ?_⟩
  have hl : xs.length = k := by simpa using hown.1
  by_cases hr : k + 1 ≤ c
  · obtain ⟨rfl, rfl⟩ := h4 hr
    obtain ⟨g', hg', _, _, _, hc1, _⟩ := hown1.form (by omega)
    cases hg'
    obtain ⟨g', hg', _, _, _, hc0, _⟩ := hown.form (by omega)
    cases hg'
    rw [hc1 j (by omega), hc0 j (by omega), List.getElem?_append_left (by omega)]
  · have e1 : w1.heap[g]? = wr.heap[g]? := by
      rw [hchg1.block g (by simp; omega) (fun h => hr h.2.1)]
      exact heap_alloc_old wr o hgl
    exact World.cell?_of_block (w := wr) e1
set_option maxRecDepth 40000 in
set_option maxHeartbeats 4000000 in
theorem block_any {w : World} {gh bb hc Bh : Nat} {s : St} {bo : Option Addr} {bc : Nat} {bl : List UInt8} (hh : Own w Bh 44 1 (some ⟨gh, 0, none⟩) 8 hc s.arr.toList) (hb : Rd w bb bo 64 bc bl) :
    Calls Tryd.prog 33 #[.slice (some ⟨gh, 0, none⟩) 8 hc, .slice bo 64 bc] w fun e w' => ∃ g cap, e = .returned (.slice (some ⟨g, 0, none⟩) 8 cap) ∧ Own w' w.heap.size 44 1 (some ⟨g, 0, none⟩) 8 cap (takeS s bl).arr.toList ∧ Chg Non w w' := by
  obtain ⟨i0, hi, hz0, hz1, hz2⟩ := info_parts Tryd.info_u32
  have Hi := Lib.hid hi; clear hi
  have Hz0 := Lib.hid hz0; clear hz0
  have Hz1 := Lib.hid hz1; clear hz1
  have Hz2 := Lib.hid hz2; clear hz2
  have BL := Lib.hid hb.1
  have hbc := hb.2.1
  have hbm := hb.2.2.1
  unfold maxLen at hbm
  obtain ⟨off, rfl, hcell⟩ := hb.2.2.2.2 (by omega)
  have hlb : bb < w.heap.size := hb.lt (by omega)
  have HC := Lib.hid hcell; have HH := Lib.hid hh
  clear hcell hh hb
  go_enter Tryd.func33, Tryd.ntmps33
  go_wp2_with fail
  go_loopw [6, 5] (fun i v wr => ∃ (k c : Nat) (ad : Option Addr), k ≤ 16 ∧ i = .int .i64 k ∧ v = .slice ad k c ∧ Own wr w.heap.size 44 1 ad k c ((sched bl k).map wv) ∧ Chg Non w wr) (fun i _ _ => 16 - (intOf i).toNat)
  case atStart => exact ⟨0, 0, none, by omega, rfl, rfl, Own.nil _ _ _ _, Chg.refl _ _⟩
  case round =>
    obtain ⟨k, c, ad, hk, rfl, rfl, hown, hchg⟩ := hrel
    have OWN := Lib.hid hown; have CH := Lib.hid hchg
    by_cases h16 : k < 16
    · skip
      have byt : ∀ j, j < 4 → ∀ w', Chg Non w w' → w'.cell? ⟨bb, off + (4 * k + j), none⟩ = some (.int .u8 ((bl.getD (4 * k + j) 0).toNat : Int)) := fun j hj w' h => (h.cell (p := ⟨bb, off + (4 * k + j), none⟩) hlb (fun h => h)).trans (HC.out (4 * k + j) (by omega))
      have y0 : ∀ w', Chg Non w w' → w'.cell? ⟨bb, off + 4 * k, none⟩ = some (.int .u8 ((bl.getD (4 * k) 0).toNat : Int)) := byt 0 (by omega)
      have y1 := byt 1 (by omega)
      have y2 := byt 2 (by omega)
      have y3 := byt 3 (by omega)
      generalize hx0 : bl.getD (4 * k) 0 = x0 at y0
      generalize hx1 : bl.getD (4 * k + 1) 0 = x1 at y1
      generalize hx2 : bl.getD (4 * k + 2) 0 = x2 at y2
      generalize hx3 : bl.getD (4 * k + 3) 0 = x3 at y3
      have X0 := Lib.hid hx0; have X1 := Lib.hid hx1; have X2 := Lib.hid hx2; have X3 := Lib.hid hx3
      clear hx0 hx1 hx2 hx3 byt hown
      have k0 : (0 : Int) ≤ (k : Int) := by omega
      have i0' : IntKind.i64.wrap (4 * (k : Int)) = 4 * (k : Int) := IntWalk.i64_in _ ⟨by omega, by omega⟩
      have i1 : IntKind.i64.wrap (4 * (k : Int) + 1) = 4 * (k : Int) + 1 := IntWalk.i64_in _ ⟨by omega, by omega⟩
      have i2 : IntKind.i64.wrap (4 * (k : Int) + 2) = 4 * (k : Int) + 2 := IntWalk.i64_in _ ⟨by omega, by omega⟩
      have i3 : IntKind.i64.wrap (4 * (k : Int) + 3) = 4 * (k : Int) + 3 := IntWalk.i64_in _ ⟨by omega, by omega⟩
      have j0 : (0 : Int) ≤ 4 * (k : Int) ∧ 4 * (k : Int) < 64 := by omega
      have j1 : (0 : Int) ≤ 4 * (k : Int) + 1 ∧ 4 * (k : Int) + 1 < 64 := by omega
      have j2 : (0 : Int) ≤ 4 * (k : Int) + 2 ∧ 4 * (k : Int) + 2 < 64 := by omega
      have j3 : (0 : Int) ≤ 4 * (k : Int) + 3 ∧ 4 * (k : Int) + 3 < 64 := by omega
      have t0 : (4 * (k : Int)).toNat = 4 * k := by omega
      have t1 : (4 * (k : Int) + 1).toNat = 4 * k + 1 := by omega
      have t2 : (4 * (k : Int) + 2).toNat = 4 * k + 2 := by omega
      have t3 : (4 * (k : Int) + 3).toNat = 4 * k + 3 := by omega
      go_wp2_with fail
      go_region_held3 (fun w' => Chg Non w w') (first | exact hchg.drew | exact hchg.drew.alloc _ | exact hchg1' | skip) ((refine step_append_Own (by rfl) _ _ 65 65 (by rfl) w.heap.size 44 1 4 i0 (.int .u32 0) Tryd.underlying65 Hi.out Hz0.out Hz1.out rfl Hz2.out ad k c _ (by rfl) (Own.drew (Own.alloc OWN.out _)) _ 1 _ (by rfl) (Src.cells (w := World.drew (wr.alloc (.cells #[.int .u32 (wn (x0.toUInt32 <<< 24 ||| x1.toUInt32 <<< 16 ||| x2.toUInt32 <<< 8 ||| x3.toUInt32))] 44))) Tryd.underlying65 (heap_alloc_new wr _) 1 1 1 (by rfl) (by simp [Value.oneCell'])) (by unfold maxLen; omega) (by omega) (by have := CH.out.size; simp; omega) ?_; intro ao' cap' w1 hown1 hchg1 _ _; have hchg1' : Chg Non w w1 := Chg.next (Chg.drew (Chg.alloc hchg _)) hchg1 (fun j hj h => by have := (Own.lt OWN.out j h.1).1; omega)))
      all_goals
        have hown2 : Own w1 w.heap.size 44 1 ao' (k + 1) cap' ((sched bl (k + 1)).map wv) := by
          rw [sched, List.map_append, nextW, if_pos (by rw [sched_length]; exact h16), sched_length, wordAt, X0.out, X1.out, X2.out, X3.out]; exact hown1
        clear hown1 hchg1
        go_wp2_with fail
        go_roundw
        case rel => exact ⟨k + 1, cap', ao', by omega, by go_num, rfl, hown2, hchg1'⟩
        case measure => simp [intOf]; omega
    · obtain rfl : k = 16 := by omega
      clear hown hchg hk h16
      go_wp2_with fail
      go_loopw [7, 5] (fun i v wr => ∃ (k c : Nat) (ad : Option Addr), 16 ≤ k ∧ k ≤ 64 ∧ i = .int .i64 k ∧ v = .slice ad k c ∧ Own wr w.heap.size 44 1 ad k c ((sched bl k).map wv) ∧ Chg Non w wr) (fun i _ _ => 64 - (intOf i).toNat)
      case atStart => exact ⟨16, c, ad, by omega, by omega, rfl, rfl, OWN.out, CH.out⟩
      case round =>
        clear OWN CH
        obtain ⟨k, c, ad, hk16, hk, rfl, rfl, hown, hchg⟩ := hrel
        have hcc := hown.le
        obtain ⟨g, rfl, hgB, hgl, hfz, hcl, _⟩ := hown.form (by omega)
        have OWN := Lib.hid hown; have CH := Lib.hid hchg
        by_cases h64 : k < 64
        · skip
          have old : ∀ j, j < k → ∀ w', SK wr g k w' → w'.cell? ⟨g, j, none⟩ = some (.int .u32 (wn ((sched bl k).getD j 0))) := by
            intro j hj w' hw
            rw [hw.2 j hj, hcl j (by omega)]
            have := sched_length bl k
            simp [List.getD, show j < (sched bl k).length by omega, wv]
          have y16 := old (k - 16) (by omega)
          have y15 := old (k - 15) (by omega)
          have y7 := old (k - 7) (by omega)
          have y2 := old (k - 2) (by omega)
          have nx : nextW bl (sched bl k) = (sched bl k).getD (k - 16) 0 + (sched bl k).getD (k - 7) 0 + sg0 ((sched bl k).getD (k - 15) 0) + sg1 ((sched bl k).getD (k - 2) 0) := by
            rw [nextW, if_neg (by rw [sched_length]; omega), sched_length]
          generalize (sched bl k).getD (k - 16) 0 = p16 at y16 nx
          generalize (sched bl k).getD (k - 15) 0 = p15 at y15 nx
          generalize (sched bl k).getD (k - 7) 0 = p7 at y7 nx
          generalize (sched bl k).getD (k - 2) 0 = p2 at y2 nx
          have NX := Lib.hid nx
          have i16 : IntKind.i64.wrap ((k : Int) - 16) = (k : Int) - 16 := IntWalk.i64_in _ ⟨by omega, by omega⟩
          have i7 : IntKind.i64.wrap ((k : Int) - 7) = (k : Int) - 7 := IntWalk.i64_in _ ⟨by omega, by omega⟩
          have j16 : (0 : Int) ≤ (k : Int) - 16 ∧ (k : Int) - 16 < (k : Int) := by omega
          have j15 : (0 : Int) ≤ (k : Int) - 15 ∧ (k : Int) - 15 < (k : Int) := by omega
          have j7 : (0 : Int) ≤ (k : Int) - 7 ∧ (k : Int) - 7 < (k : Int) := by omega
          have j2 : (0 : Int) ≤ (k : Int) - 2 ∧ (k : Int) - 2 < (k : Int) := by omega
          have m16 : (16 : Int) ≤ (k : Int) ∧ (15 : Int) ≤ (k : Int) ∧ (7 : Int) ≤ (k : Int) ∧ (2 : Int) ≤ (k : Int) := by omega
          obtain ⟨m16, m15, m7, m2⟩ := m16
          have t16 : ((k : Int) - 16).toNat = k - 16 := by omega
          have t15 : ((k : Int) - 15).toNat = k - 15 := by omega
          have t7 : ((k : Int) - 7).toNat = k - 7 := by omega
          have t2 : ((k : Int) - 2).toNat = k - 2 := by omega
          have hwz : w.heap.size ≤ wr.heap.size := hchg.size
          have AL : Hid (∀ w' o, SK wr g k w' → SK wr g k (w'.alloc o)) := fun w' o h => SK.alloc hgl h o
          clear nx old hown hchg hfz hcl hcc
          go_wp2_with fail
          go_region_held3 (fun w' => SK wr g k w') (first | (simp; done) | ((try simp only [SK.drew_iff, SK.drewN_iff]); exact AL.out _ _ (by simp)) | exact sk1) (first
            | (go_at_call 43; (with_reducible refine Calls.mono (round_st p15 (k := 7) (K := 7) rfl ?_ ?_ _) ?_); (omega); (omega); rintro e w' ⟨rfl, rfl⟩)
            | (go_at_call 43; (with_reducible refine Calls.mono (round_st p15 (k := 18) (K := 18) rfl ?_ ?_ _) ?_); (omega); (omega); rintro e w' ⟨rfl, rfl⟩)
            | (go_at_call 43; (with_reducible refine Calls.mono (round_st p2 (k := 17) (K := 17) rfl ?_ ?_ _) ?_); (omega); (omega); rintro e w' ⟨rfl, rfl⟩)
            | (go_at_call 43; (with_reducible refine Calls.mono (round_st p2 (k := 19) (K := 19) rfl ?_ ?_ _) ?_); (omega); (omega); rintro e w' ⟨rfl, rfl⟩)
            | (refine step_append_Own (by rfl) _ _ 65 65 (by rfl) w.heap.size 44 1 4 i0 (.int .u32 0) Tryd.underlying65 Hi.out Hz0.out Hz1.out rfl Hz2.out (some ⟨g, 0, none⟩) k c _ (by rfl) (Own.drew (Own.alloc OWN.out _)) _ 1 _ (by rfl) (Src.cells (w := World.drew (wr.alloc (.cells #[.int .u32 (wn (p16 + p7 + (rotr p15 7 ^^^ rotr p15 18 ^^^ p15 >>> 3) + (rotr p2 17 ^^^ rotr p2 19 ^^^ p2 >>> 10)))] 44))) Tryd.underlying65 (heap_alloc_new wr _) 1 1 1 (by rfl) (by simp [Value.oneCell'])) (by unfold maxLen; omega) (by omega) (by simp; omega) ?_; intro ao' cap' w1 hown1 hchg1 _ h4; have sk1 := sk_append OWN.out hgl hown1 hchg1 h4; have C1 := Lib.hid (Chg.next (Chg.drew (Chg.alloc CH.out _)) hchg1 (fun j hj h => by have := (Own.lt OWN.out j h.1).1; omega)); have O1 := Lib.hid hown1; clear hown1 hchg1 h4))
          have hown2 : Own w1 w.heap.size 44 1 ao' (k + 1) cap' ((sched bl (k + 1)).map wv) := by
            rw [sched, List.map_append, NX.out]; exact O1.out
          clear sk1 y16 y15 y7 y2
          go_wp2_with fail
          go_roundw
          case rel => exact ⟨k + 1, by omega, by omega, by omega, cap', ao', ⟨rfl, rfl, rfl⟩, hown2, C1.out⟩
          case measure => simp [intOf]; omega
        · obtain rfl : k = 64 := by omega
          clear hown hchg hfz hcl
          have hwz := CH.out.size
          go_wp2_with fail
          refine Calls.mono (table_any _) ?_
          rintro e w3 ⟨rfl, ht3, hc3⟩
          have T3 := Lib.hid ht3
          have O3 := Lib.hid (OWN.out.chg hc3 (fun _ _ h => h))
          have C3 := Lib.hid (CH.out.trans hc3)
          have hz3 : w.heap.size ≤ w3.heap.size := C3.out.size
          have SH := Lib.hid ((HH.out.chg C3.out (fun _ _ h => h)).src Tryd.underlying65 (arr_ones s))
          clear ht3 hc3 OWN CH
          go_wp2_with (at_builtin; refine wpList_append_Own rfl _ _ 65 65 rfl w.heap.size 44 1 4 i0 (.int .u32 0) Tryd.underlying65 Hi.out Hz0.out Hz1.out rfl Hz2.out none 0 0 [] rfl (Own.nil _ _ _ _) _ 8 _ rfl SH.out (by unfold maxLen; omega) (by omega) hz3 ?_; intro ao4 cap4 w4 hown4 hchg4 _ _)
          rw [List.nil_append, Nat.zero_add] at hown4
          have O4 := Lib.hid hown4
          have hc4 : Chg Non w3 w4 := hchg4.mono (fun k _ h => by simp [blk] at h)
          have C4 := Lib.hid (C3.out.trans hc4)
          have W4 := Lib.hid (O3.out.chg hc4 (fun _ _ h => h))
          have T4 := Lib.hid ((hc4.block _ (Array.getElem?_eq_some_iff.1 T3.out).1 (fun h => h)).trans T3.out)
          clear hown4 hchg4 hc4 O3 C3 T3 SH hk hk16 h64
          obtain ⟨N, hN⟩ : ∃ N, N = wr.heap.size := ⟨_, rfl⟩
          rw [← hN] at T4
          rw [← hN]
          clear hN
          go_loopw [12, 11] (fun i v wr => ∃ (k cap : Nat) (ad : Option Addr), k ≤ 64 ∧ i = .int .i64 k ∧ v = .slice ad 8 cap ∧ Own wr w.heap.size 44 1 ad 8 cap (roundsN bl s k).arr.toList ∧ Chg Non w4 wr) (fun i _ _ => 64 - (intOf i).toNat)
          case atStart => exact ⟨0, cap4, ao4, by omega, rfl, rfl, O4.out, Chg.refl _ _⟩
          case round =>
            clear O4
            obtain ⟨k, lc, ad, hk, rfl, rfl, hown, hchg⟩ := hrel
            have hlc := hown.le
            obtain ⟨gl, rfl, hgB, hgl, hfz, hcl, _⟩ := hown.form (by omega)
            have LOW := Lib.hid hown; have LCH := Lib.hid hchg
            have hwz3 : w.heap.size ≤ wr.heap.size := Nat.le_trans C4.out.size hchg.size
            by_cases h64 : k < 64
            · skip
              have rs : roundsN bl s (k + 1) = roundS (roundsN bl s k) (kList.getD k 0) ((sched bl 64).getD k 0) := rfl
              obtain ⟨g', hg', _, hgw, _, hcw, _⟩ := W4.out.form (by omega)
              cases hg'
              have yw : ∀ w', Chg Non wr w' → w'.cell? ⟨g, k, none⟩ = some (.int .u32 (wn ((sched bl 64).getD k 0))) := fun w' hw => by
                rw [(hchg.trans hw).cell (p := ⟨g, k, none⟩) hgw (fun h => h), hcw k (by omega)]
                have := sched_length bl 64
                simp [List.getD, show k < (sched bl 64).length by omega, wv]
              have yk : ∀ w', Chg Non wr w' → w'.cell? ⟨N, k, none⟩ = some (.int .u32 (wn (kList.getD k 0))) := fun w' hw =>
                newc (((hchg.trans hw).block _ (Array.getElem?_eq_some_iff.1 T4.out).1 (fun h => h)).trans T4.out) (stepsV_get h64)
              have yl : ∀ j v, (roundsN bl s k).arr[j]? = some v → ∀ w', Chg Non wr w' → w'.cell? ⟨gl, j, none⟩ = some v := fun j v hv w' hw => by
                have hj : j < 8 := (Array.getElem?_eq_some_iff.1 hv).1
                rw [hw.cell (p := ⟨gl, j, none⟩) hgl (fun h => h), hcl j (by omega)]
                simpa using hv
              generalize roundsN bl s k = st at rs yl
              obtain ⟨a', b', c', d', e', f', g1, h'⟩ := st
              generalize kList.getD k 0 = kk at yk rs
              generalize (sched bl 64).getD k 0 = ww at yw rs
              have q0 : ∀ w', Chg Non wr w' → w'.cell? ⟨gl, 0, none⟩ = some (.int .u32 (wn a')) := yl 0 _ rfl
              have q1 : ∀ w', Chg Non wr w' → w'.cell? ⟨gl, 1, none⟩ = some (.int .u32 (wn b')) := yl 1 _ rfl
              have q2 : ∀ w', Chg Non wr w' → w'.cell? ⟨gl, 2, none⟩ = some (.int .u32 (wn c')) := yl 2 _ rfl
              have q3 : ∀ w', Chg Non wr w' → w'.cell? ⟨gl, 3, none⟩ = some (.int .u32 (wn d')) := yl 3 _ rfl
              have q4 : ∀ w', Chg Non wr w' → w'.cell? ⟨gl, 4, none⟩ = some (.int .u32 (wn e')) := yl 4 _ rfl
              have q5 : ∀ w', Chg Non wr w' → w'.cell? ⟨gl, 5, none⟩ = some (.int .u32 (wn f')) := yl 5 _ rfl
              have q6 : ∀ w', Chg Non wr w' → w'.cell? ⟨gl, 6, none⟩ = some (.int .u32 (wn g1)) := yl 6 _ rfl
              have q7 : ∀ w', Chg Non wr w' → w'.cell? ⟨gl, 7, none⟩ = some (.int .u32 (wn h')) := yl 7 _ rfl
              have RS := Lib.hid rs
              have k0 : (0 : Int) ≤ (k : Int) := by omega
              have k1 : (k : Int) < 64 := by omega
              clear rs yl hown hchg hfz hcl hcw
              go_wp2_with fail
              go_region_held3 (fun w' => Chg Non wr w') (first | (simp; done)) (first
                | (go_at_call 43; (with_reducible refine Calls.mono (round_st e' (k := 6) (K := 6) rfl ?_ ?_ _) ?_); (omega); (omega); rintro e w' ⟨rfl, rfl⟩)
                | (go_at_call 43; (with_reducible refine Calls.mono (round_st e' (k := 11) (K := 11) rfl ?_ ?_ _) ?_); (omega); (omega); rintro e w' ⟨rfl, rfl⟩)
                | (go_at_call 43; (with_reducible refine Calls.mono (round_st e' (k := 25) (K := 25) rfl ?_ ?_ _) ?_); (omega); (omega); rintro e w' ⟨rfl, rfl⟩))
              go_wp2_with fail
              go_region_held3 (fun w' => Chg Non wr w') (first | (simp; done)) (first
                | (go_at_call 43; (with_reducible refine Calls.mono (round_st a' (k := 2) (K := 2) rfl ?_ ?_ _) ?_); (omega); (omega); rintro e w' ⟨rfl, rfl⟩)
                | (go_at_call 43; (with_reducible refine Calls.mono (round_st a' (k := 13) (K := 13) rfl ?_ ?_ _) ?_); (omega); (omega); rintro e w' ⟨rfl, rfl⟩)
                | (go_at_call 43; (with_reducible refine Calls.mono (round_st a' (k := 22) (K := 22) rfl ?_ ?_ _) ?_); (omega); (omega); rintro e w' ⟨rfl, rfl⟩))
              go_wp2_with fail
              go_region_held3 (fun w' => Chg Non wr w') (first | (simp; done)) (fail)
              all_goals go_wp2_with fail
              all_goals
                go_roundw
                case rel =>
                  refine ⟨k + 1, 8, _, by omega, by go_num, rfl, ?_, LCH.out.trans ?_⟩
                  · have e : (roundsN bl s (k + 1)).arr = #[.int .u32 (wn (h' + (rotr e' 6 ^^^ rotr e' 11 ^^^ rotr e' 25) + (e' &&& f' ^^^ ~~~e' &&& g1) + kk + ww + ((rotr a' 2 ^^^ rotr a' 13 ^^^ rotr a' 22) + (a' &&& b' ||| a' &&& c' ||| b' &&& c')))), .int .u32 (wn a'), .int .u32 (wn b'), .int .u32 (wn c'),
                        .int .u32 (wn (d' + (h' + (rotr e' 6 ^^^ rotr e' 11 ^^^ rotr e' 25) + (e' &&& f' ^^^ ~~~e' &&& g1) + kk + ww))), .int .u32 (wn e'), .int .u32 (wn f'), .int .u32 (wn g1)] := by
                      rw [RS.out]; simp only [St.arr, roundS, tOf, uOf, wv, ch_eq, maj_eq]
                    rw [e]
                    exact Own.lit (heap_alloc_new wr _) rfl hwz3 (by decide)
                  · simp
                case measure => simp [intOf]; omega
            · obtain rfl : k = 64 := by omega
              have CW := Lib.hid (C4.out.trans hchg)
              have HF : Hid (takeS s bl = addS (roundsN bl s 64) s) := Lib.hid rfl
              clear hown hchg hfz hcl hk h64 T4 W4 LCH
              generalize roundsN bl s 64 = x at LOW HF
              obtain ⟨g', hg', _, hghl, _, hch, _⟩ := HH.out.form (by have := HH.out.le; omega)
              cases hg'
              have HCH := Lib.hid hch; clear hch
              go_wp2_with fail
              go_loopw [17] (fun i wr => ∃ k : Nat, k ≤ 8 ∧ i = .int .i64 k ∧ Own wr w.heap.size 44 1 (some ⟨gl, 0, none⟩) 8 lc (addArr x s k).toList ∧ Chg Non w wr) (fun i _ => 8 - (intOf i).toNat)
              case atStart => exact ⟨0, by omega, rfl, LOW.out, CW.out⟩
              case round =>
                clear LOW CW
                obtain ⟨k, hk, rfl, hown, hchg⟩ := hrel
                by_cases h8 : k < 8
                · have hlc2 := hown.le
                  obtain ⟨g', hg', _, hgl2, hfz, hcl, _⟩ := hown.form (by omega)
                  cases hg'
                  have y1 : wr.cell? ⟨gl, k, none⟩ = some (.int .u32 (wn (x.l.getD k 0))) := by
                    rw [hcl k (by omega)]
                    rw [Array.getElem?_toList]
                    exact addArr_get x s h8
                  have y2 : wr.cell? ⟨gh, k, none⟩ = some (.int .u32 (wn (s.l.getD k 0))) := by
                    rw [hchg.cell (p := ⟨gh, k, none⟩) hghl (fun h => h), HCH.out k (by omega)]
                    rw [Array.getElem?_toList]
                    exact arr_get s h8
                  have f1 := hfz k
                  have hst := hown.put h8 (wv (x.l.getD k 0 + s.l.getD k 0))
                  have e2 : (addArr x s k).toList.set k (wv (x.l.getD k 0 + s.l.getD k 0)) = (addArr x s (k + 1)).toList := by
                    rw [← addArr_set x s h8, Array.toList_setIfInBounds]
                  rw [e2] at hst
                  have hcs : Chg Non w (wr.setCell ⟨gl, k, none⟩ (wv (x.l.getD k 0 + s.l.getD k 0))) := hchg.setCell (.inl hgB) _
                  have ST := Lib.hid hst; have CS := Lib.hid hcs
                  generalize x.l.getD k 0 = p at y1 ST CS
                  generalize s.l.getD k 0 = q at y2 ST CS
                  have k0 : (0 : Int) ≤ (k : Int) := by omega
                  have k1 : (k : Int) < 8 := by omega
                  clear hown hchg hfz hcl e2 hst hcs
                  go_wp2_with fail
                  go_region
                  all_goals go_wp2_with fail
                  all_goals go_roundw
                  all_goals first
                    | exact ⟨k + 1, by omega, by go_num, ST.out.drew, CS.out.drew⟩
                    | (simp [intOf]; omega)
                · obtain rfl : k = 8 := by omega
                  have OW := Lib.hid hown; have CW := Lib.hid hchg
                  clear hown hchg
                  go_wp2_with fail
                  go_ret
                  exact ⟨gl, lc, rfl, by rw [HF.out, ← addArr_end]; exact OW.out, CW.out⟩
end Go.Proofs.YtbmopcmhokpchaaDoor
