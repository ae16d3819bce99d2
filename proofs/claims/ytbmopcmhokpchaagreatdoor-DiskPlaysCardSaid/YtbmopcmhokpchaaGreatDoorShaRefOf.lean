/- The document's sum of any bytes, walked. -/
import Derived.Test.YtbmopcmhokpchaaGreatDoorShaRef
import Derived.Test.YtbmopcmhokpchaaGreatDoorShaPad
namespace Go.Proofs.YtbmopcmhokpchaaGreatDoor
open Go.RowKit
set_option linter.unusedVariables false
set_option linter.unusedSimpArgs false
attribute [local go_sem ↓] Go.wp_at_zero Go.wp_at_succ
/-- Memory while the 32 bytes are laid: the result at w's end, the bytes at G, the state at gh. -/
structure RefW (w wr : World) (G gh hc : Nat) (s : St) (k : Nat) : Prop where
  res : wr.heap[w.heap.size]? = some (.cells (zeroV 32) 68 (0, 0))
  out : wr.heap[G]? = some (.cells (outRow s k) 68 (0, 0))
  st : Own wr w.heap.size 80 1 (some ⟨gh, 0, none⟩) 8 hc s.arr.toList
  lt : w.heap.size < G
  ne : gh ≠ G
  chg : Chg Non w wr
theorem RefW.step {w wr : World} {G gh hc : Nat} {s : St} {k : Nat} (h : RefW w wr G gh hc s k) (hk : k < 32) : RefW w (wr.setCell ⟨G, k, none⟩ (bv (s.l.getD (k / 4) 0 >>> UInt32.ofNat (24 - k % 4 * 8)).toUInt8)) G gh hc s (k + 1) := by
  have hlt := h.lt; have hne := h.ne
  refine ⟨(heap_setCell_other _ _ _ _ (by simp; omega)).trans h.res, ?_, h.st.chg (S := fun i => i = G) ((Chg.refl (fun i => i = G) wr).setCell (p := ⟨G, k, none⟩) (.inr rfl) _) (fun i hi => by simp [blk] at hi; omega), h.lt, h.ne, h.chg.setCell (.inl (by simp; omega)) _⟩
  rw [row_set h.out, outRow_set s hk]
theorem RefW.start {w wr : World} {gh hc : Nat} {s : St} (hr : wr.heap[w.heap.size]? = some (.cells (zeroV 32) 68 (0, 0))) (ho : Own wr w.heap.size 80 1 (some ⟨gh, 0, none⟩) 8 hc s.arr.toList) (hw : Chg Non w wr) : RefW w (wr.alloc (.cells (zeroV 32) 68)) wr.heap.size gh hc s 0 := by
  have h1 := (Array.getElem?_eq_some_iff.1 hr).1
  have h2 := (ho.lt gh rfl).2
  exact ⟨(heap_alloc_old _ _ h1).trans hr, heap_alloc_new _ _, ho.alloc _, h1, by omega, hw.alloc _⟩
theorem RefW.get {w wr : World} {G gh hc : Nat} {s : St} {k : Nat} (h : RefW w wr G gh hc s k) {j : Nat} (hj : j < 8) : wr.cell? ⟨gh, j, none⟩ = some (.int .u32 (wn (s.l.getD j 0))) := by
  obtain ⟨g', hg', _, _, _, hcl, _⟩ := h.st.form (by have := h.st.le; omega)
  cases hg'
  rw [hcl j (by omega), Array.getElem?_toList]
  exact arr_get s hj
theorem lenB_take {n k : Nat} (hk : k < 8) : (lenB n).take (k + 1) = (lenB n).take k ++ [UInt8.ofNat (n * 8 / 2 ^ (56 - 8 * k))] := by
  rw [List.take_add_one]
  congr 1
  unfold lenB
  rw [List.getElem?_map, List.getElem?_range hk]
  rfl
theorem bits_byte (n k : Nat) : Value.int .u8 (8 * (n : Int) / 2 ^ k % 256) = bv (UInt8.ofNat (n * 8 / 2 ^ k)) := by
  unfold bv
  rw [Int.mul_comm]
  congr 1
/-- Bytes that the call owns beside its result. -/
structure RefA (w wr : World) (ad : Option Addr) (m c : Nat) (xs : List UInt8) : Prop where
  own : Own wr (w.heap.size + 1) 5 1 ad m c (xs.map bv)
  res : wr.heap[w.heap.size]? = some (.cells (zeroV 32) 68 (0, 0))
  chg : Chg Non w wr
theorem RefA.next {w wr w1 : World} {ad ad' : Option Addr} {m m' c c' : Nat} {xs : List UInt8} {T : Nat → Prop} (h : RefA w wr ad m c xs) (hc : Chg T wr w1) (ht : ∀ i, T i → some i = blk ad) {ys : List Value} {v : UInt8} (hy : ys = [bv v]) (ho : Own w1 (w.heap.size + 1) 5 1 ad' m' c' (xs.map bv ++ ys)) : RefA w w1 ad' m' c' (xs ++ [v]) := by
  subst hy
  refine ⟨by rw [List.map_append]; exact ho, (hc.block _ (Array.getElem?_eq_some_iff.1 h.res).1 (fun hh => ?_)).trans h.res, h.chg.next hc (fun i hi hh => ?_)⟩
  · have := (h.own.lt _ (ht _ hh)).1; omega
  · have := (h.own.lt _ (ht _ hh)).1; omega
theorem RefA.alloc {w wr : World} {ad : Option Addr} {m c : Nat} {xs : List UInt8} (h : RefA w wr ad m c xs) (o : Obj) : RefA w (wr.alloc o) ad m c xs := ⟨h.own.alloc o, (heap_alloc_old _ _ (Array.getElem?_eq_some_iff.1 h.res).1).trans h.res, h.chg.alloc o⟩
theorem RefA.le {w wr : World} {ad : Option Addr} {m c : Nat} {xs : List UInt8} (h : RefA w wr ad m c xs) : w.heap.size + 1 ≤ wr.heap.size := (Array.getElem?_eq_some_iff.1 h.res).1
set_option maxRecDepth 40000 in
set_option maxHeartbeats 2000000 in
attribute [local go_sem ↓] run_load_row_op run_store_row_op in
theorem refOf_any {w : World} {b : Nat} {ao : Option Addr} {n cap : Nat} {bs : List UInt8} (h : Rd w b ao n cap bs) (hn : n ≤ 1000000) :
    Calls Tryz.prog 35 #[.slice ao n cap] w fun e w' => e = .returned (.agg ((sha bs).map bv).toArray) ∧ Chg Non w w' := by
  obtain ⟨i0, hi, hz0, hz1, hz2⟩ := info_parts Tryz.info_u8
  have Hi := Lib.hid hi; clear hi
  have Hz0 := Lib.hid hz0; clear hz0
  have Hz1 := Lib.hid hz1; clear hz1
  have Hz2 := Lib.hid hz2; clear hz2
  have HR := Lib.hid h
  have hcap := h.2.2.1
  have hnc := h.2.1
  have hbl := Lib.hid h.1
  unfold maxLen at hcap
  clear h
  have X0 : Hid (RefA w (w.alloc (.cells (zeroV 32) 68)) none 0 0 []) := Lib.hid ⟨Own.nil _ _ _ _, heap_alloc_new _ _, (Chg.refl _ _).alloc _⟩
  rw [zero32_lit] at X0
  go_enter Tryz.func35, Tryz.ntmps35
  go_wp2_with (first
    | (at_builtin; refine wpList_append_Own rfl _ _ 22 22 rfl (w.heap.size + 1) 5 1 1 i0 (.int .u8 0) Tryz.underlying22 Hi.out Hz0.out Hz1.out rfl Hz2.out none 0 0 [] rfl X0.out.own _ n _ rfl (Rd.src (HR.out.chg X0.out.chg (fun h => h)) Tryz.underlying22) (by unfold maxLen; omega) (by omega) X0.out.le ?_; intro ao1 cap1 w1 hown1 hchg1 h3 h4; have A1 : Hid (RefA w w1 ao1 (0 + n) cap1 bs) := Lib.hid ⟨hown1, (hchg1.block _ (Array.getElem?_eq_some_iff.1 X0.out.res).1 (fun h => by simp [blk] at h)).trans X0.out.res, X0.out.chg.next hchg1 (fun i hi h => by simp [blk] at h)⟩; rw [Nat.zero_add] at A1; clear hown1 hchg1 h3 h4)
    | (at_builtin; refine wpList_append_Own rfl _ _ 22 22 rfl (w.heap.size + 1) 5 1 1 i0 (.int .u8 0) Tryz.underlying22 Hi.out Hz0.out Hz1.out rfl Hz2.out ao1 n cap1 _ (by go_num) (A1.out.alloc _).own _ 1 _ rfl (Src.cells (w := w1.alloc (.cells #[.int .u8 128] 5)) Tryz.underlying22 (heap_alloc_new w1 _) 1 1 1 (by rfl) (by simp [Value.oneCell'])) (by unfold maxLen; omega) (by omega) (A1.out.alloc _).le ?_; intro ao2 cap2 w2 hown2 hchg2 h3 h4; have A2 := Lib.hid ((A1.out.alloc _).next (v := 128) hchg2 (fun _ h => h.1) rfl hown2); clear hown2 hchg2 h3 h4))
  clear X0 A1
  go_loopw [3] (fun v wr => ∃ (m c : Nat) (ad : Option Addr), n + 1 ≤ m ∧ m ≤ n + 1 + zerosN n ∧ v = .slice ad m c ∧ RefA w wr ad m c (bs ++ [128] ++ List.replicate (m - (n + 1)) 0)) (fun v _ => n + 1 + zerosN n - sliceLen v)
  case atStart =>
    refine ⟨n + 1, cap2, ao2, by omega, by omega, rfl, ?_⟩
    rw [Nat.sub_self, List.replicate_zero, List.append_nil]
    exact A2.out
  case round =>
    clear A2
    obtain ⟨m, c, ad, hm1, hm2, rfl, ha⟩ := hrel
    have A := Lib.hid ha
    have hz64 : zerosN n < 64 := by unfold zerosN; omega
    have q0 : ¬ ((64 : Int) = 0) := by decide
    have md : Int.tmod (m : Int) 64 = ((m % 64 : Nat) : Int) := rfl
    clear ha
    by_cases h56 : m % 64 = 56
    · skip
      rw [h56] at md
      have md2 : (m : Int) % 64 = 56 := by omega
      have hm : m = n + 1 + zerosN n := by unfold zerosN at hm2 ⊢; omega
      have hx : m - (n + 1) = zerosN n := by omega
      rw [hx] at A
      obtain ⟨xs, hxs⟩ : ∃ xs, xs = bs ++ [128] ++ List.replicate (zerosN n) (0 : UInt8) := ⟨_, rfl⟩
      have hpad : xs ++ lenB n = pad bs := by rw [hxs, pad, hbl.out]
      have hm8 : (m + 8) % 64 = 0 := by omega
      have hmb : m ≤ 1000100 := by omega
      rw [← hxs] at A
      have PAD := Lib.hid hpad
      clear hxs hpad hx hm
      have b0 : IntKind.u64.wrap (8 * (n : Int)) = 8 * (n : Int) := IntWalk.u64_in _ ⟨by omega, by omega⟩
      go_wp2_with fail
      clear md md2 h56 hm1 hm2 hz64 b0
      go_loopw [5, 3] (fun i v wr => ∃ (k c : Nat) (ad : Option Addr), k ≤ 8 ∧ i = .int .i64 k ∧ v = .slice ad (m + k) c ∧ RefA w wr ad (m + k) c (xs ++ (lenB n).take k)) (fun i _ _ => 8 - (intOf i).toNat)
      case atStart => exact ⟨0, c, ad, by omega, rfl, rfl, by rw [List.take_zero, List.append_nil]; exact A.out⟩
      case round =>
        clear A
        obtain ⟨k, c, ad, hk, rfl, rfl, ha⟩ := hrel
        have A := Lib.hid ha
        clear ha
        by_cases h8 : k < 8
        · have t1 : (56 - 8 * (k : Int)).toNat = 56 - 8 * k := by omega
          have k0 : (0 : Int) ≤ (k : Int) := by omega
          have k1 : (k : Int) < 8 := by omega
          go_wp2_with (at_builtin; refine wpList_append_Own rfl _ _ 22 22 rfl (w.heap.size + 1) 5 1 1 i0 (.int .u8 0) Tryz.underlying22 Hi.out Hz0.out Hz1.out rfl Hz2.out ad (m + k) c _ (by go_num) (A.out.alloc _).own _ 1 _ rfl (Src.cells (w := wr.alloc (.cells #[.int .u8 (8 * (n : Int) / 2 ^ (56 - 8 * k) % 256)] 5)) Tryz.underlying22 (heap_alloc_new wr _) 1 1 1 (by rfl) (by simp [Value.oneCell'])) (by unfold maxLen; omega) (by omega) (A.out.alloc _).le ?_; intro ao2 cap2 w2 hown2 hchg2 h3 h4; have A2 := Lib.hid ((A.out.alloc _).next (v := UInt8.ofNat (n * 8 / 2 ^ (56 - 8 * k))) hchg2 (fun _ h => h.1) (congrArg (fun x => [x]) (bits_byte n (56 - 8 * k))) hown2); clear hown2 hchg2 h3 h4)
          go_roundw
          case rel =>
            refine ⟨k + 1, cap2, ao2, by omega, by go_num, rfl, ?_⟩
            rw [lenB_take h8, ← List.append_assoc]
            exact A2.out
          case measure => simp [intOf]; omega
        · obtain rfl : k = 8 := by omega
          rw [show ((8 : Nat) : Int) = 8 from rfl]
          rw [List.take_of_length_le (by rw [lenB_length]; omega), PAD.out] at A
          generalize hM : m + 8 = M at A hm8
          have hMb : M ≤ 1000108 := by omega
          clear hM hmb hk h8
          obtain ⟨bq, _, hrd⟩ := Rd.of_Own A.out.own
          have RD := Lib.hid hrd; have RES := Lib.hid A.out.res; have CH := Lib.hid A.out.chg
          have hwz := A.out.le
          have hMc := hrd.2.1
          have hcm := hrd.2.2.1
          unfold maxLen at hcm
          have hlen := Lib.hid hrd.1
          have U33 : Hid (Tryz.prog.underlying 22 = some (.slice (Tryz.prog.elem 22))) := (by kernel_rfl : Tryz.prog.underlying 22 = some (.slice (Tryz.prog.elem 22)))
          have Z33 : Hid ((Tryz.prog.info? (Tryz.prog.elem 22)).map (·.size) = some 1) := (by kernel_rfl : (Tryz.prog.info? (Tryz.prog.elem 22)).map (·.size) = some 1)
          clear hrd A PAD
          go_wp2_with fail
          go_loopw [7, 6] (fun i v wr => ∃ (q j hc gh : Nat), j = 64 * q ∧ j ≤ M ∧ i = .int .i64 j ∧ v = .slice (some ⟨gh, 0, none⟩) 8 hc ∧ Own wr w.heap.size 80 1 (some ⟨gh, 0, none⟩) 8 hc (blocksS q begS (pad bs)).arr.toList ∧ Rd wr bq ad M c (pad bs) ∧ wr.heap[w.heap.size]? = some (.cells (zeroV 32) 68 (0, 0)) ∧ Chg Non w wr) (fun i _ _ => M - (intOf i).toNat)
          case atStart =>
            refine ⟨0, 0, 8, wr.heap.size, rfl, by omega, rfl, rfl, ?_, RD.out.chg (S := Non) ((Chg.refl _ _).alloc _) (fun h => h), (heap_alloc_old _ _ hwz).trans RES.out, CH.out.alloc _⟩
            have e : (blocksS 0 begS (pad bs)).arr = #[.int .u32 1779033703, .int .u32 3144134277, .int .u32 1013904242, .int .u32 2773480762, .int .u32 1359893119, .int .u32 2600822924, .int .u32 528734635, .int .u32 1541459225] := by
              show begS.arr = _
              kernel_rfl
            rw [e]
            exact Own.lit (heap_alloc_new wr _) rfl (by omega) (by decide)
          case round =>
            clear RD RES CH hwz
            obtain ⟨q, j, hc, gh, hj, hjM, rfl, rfl, hown, hrd, hres, hchg⟩ := hrel
            have OWN := Lib.hid hown; have RD := Lib.hid hrd; have RES := Lib.hid hres; have CH := Lib.hid hchg
            by_cases hlt : j < M
            · have hj64 : j + 64 ≤ M := by omega
              have hr' := RD.out.cutAt (k := j) (m := j + 64) (by omega) hj64
              rw [Nat.add_sub_cancel_left, if_neg (show ¬ c = j by omega), Nat.mul_one] at hr'
              have j1 : IntKind.i64.wrap ((j : Int) + 64) = (j : Int) + 64 := IntWalk.i64_in _ ⟨by omega, by omega⟩
              have j2 : ((j : Int) + 64 - (j : Int)).toNat = 64 := by omega
              have R2 := Lib.hid hr'; have HJ := Lib.hid hj
              have jc : j < c := by omega
              clear hr' hown hrd hres hchg hj
              go_wp2_with (go_at_call 80; go_loud (refine Calls.mono (block_any OWN.out R2.out) ?_; rintro e w3 ⟨g3, cap3, rfl, hown3, hchg3⟩; have O3 := Lib.hid hown3; have C3 := Lib.hid hchg3; clear hown3 hchg3))
              go_roundw
              case rel =>
                refine ⟨q + 1, j + 64, cap3, g3, by have := HJ.out; omega, by omega, by go_num, rfl, ?_, RD.out.chg C3.out (fun h => h), (C3.out.block _ (Array.getElem?_eq_some_iff.1 RES.out).1 (fun h => h)).trans RES.out, CH.out.trans C3.out⟩
                rw [blocksS_succ, ← HJ.out]
                exact O3.out.mono CH.out.size
              case measure => simp [intOf]; omega
            · obtain rfl : j = M := by omega
              have hfin : sha bs = (blocksS q begS (pad bs)).out := by
                rw [sha_pad, hlen.out, show j / 64 = q by omega]
              have FIN := Lib.hid hfin
              generalize blocksS q begS (pad bs) = s9 at OWN FIN hown
              have RS := Lib.hid (RefW.start RES.out OWN.out CH.out)
              rw [zero32_lit] at RS
              clear hfin hown hrd hres hchg OWN RES CH RD hlt
              go_wp2_with fail
              generalize wr.heap.size = G at RS ⊢
              go_loopw [9] (fun i wr => ∃ k : Nat, k ≤ 32 ∧ i = .int .i64 k ∧ RefW w wr G gh hc s9 k) (fun i _ => 32 - (intOf i).toNat)
              case atStart => exact ⟨0, by omega, rfl, RS.out⟩
              case round =>
                clear RS
                obtain ⟨k, hk, rfl, ho⟩ := hrel
                by_cases h32 : k < 32
                · have y1 : wr.cell? ⟨gh, k / 4, none⟩ = some (.int .u32 (wn (s9.l.getD (k / 4) 0))) := ho.get (by omega)
                  obtain ⟨yv, y2⟩ : ∃ v, wr.cell? ⟨G, k, none⟩ = some v := by
                    rw [cell_of_row wr _ _ _ _ _ ho.out]
                    exact ⟨_, Array.getElem?_eq_getElem (show k < (outRow s9 k).size by simp [outRow, St.out]; omega)⟩
                  have f1 := frozen_of_row wr _ k _ _ ho.out
                  have hst := ho.step h32
                  have HS2 := Lib.hid hst
                  generalize s9.l.getD (k / 4) 0 = x at y1 HS2
                  have k0 : (0 : Int) ≤ (k : Int) := by omega
                  have k1 : (k : Int) < 32 := by omega
                  have k2 : (k : Int) / 4 < 8 := by omega
                  clear ho hst
                  go_wp2_with fail
                  go_roundw
                  case rel => exact ⟨k + 1, by omega, by go_num, by rw [out_byte _ (by omega), show 24 - 8 * (k % 4) = 24 - k % 4 * 8 by omega]; exact HS2.out⟩
                  case measure => simp [intOf]; omega
                · obtain rfl : k = 32 := by omega
                  have e0 : wr.heap[G]? = some (.cells (s9.out.map bv).toArray 68 (0, 0)) := by
                    rw [ho.out, outRow, List.take_of_length_le (by simp [St.out])]
                    simp
                  have r5 : IsRowAt Tryz.prog 68 wr (.pointer (some ⟨G, 0, none⟩)) := IsRowAt.mk e0 Tryz.underlying68 rfl (size_of Tryz.size_32 (by simp [St.out]))
                  have v5 : rowAt wr (.pointer (some ⟨G, 0, none⟩)) = .agg (s9.out.map bv).toArray := rowAt_mk e0
                  have p9 : CanStore Tryz.prog 68 wr (.pointer (some ⟨w.heap.size, 0, none⟩)) (.agg (s9.out.map bv).toArray) := CanStore.mk ho.res (size_of Tryz.size_32 (by simp [St.out])) (by simp [zeroV, St.out]) (bvs_all _)
                  obtain ⟨W9, q9⟩ : ∃ W9, storedAt wr (.pointer (some ⟨w.heap.size, 0, none⟩)) (.agg (s9.out.map bv).toArray) = W9 := ⟨_, rfl⟩
                  have e9 : W9.heap[w.heap.size]? = some (.cells (s9.out.map bv).toArray 68 (0, 0)) := by rw [← q9]; exact setRow_heap _ _ _ _ _ _ ho.res
                  have c9 : Chg Non w W9 := by rw [← q9]; exact ho.chg.setRow (.inl (Nat.le_refl _)) _
                  have E9 := Lib.hid e9; have C9 := Lib.hid c9; have FN := Lib.hid FIN.out
                  generalize hso : s9.out = so at r5 v5 p9 q9 E9 FN
                  have SL : Hid (so.length = 32) := by rw [← hso]; exact Lib.hid (by simp [St.out])
                  clear hso e0 e9 c9 ho h32 hk FIN
                  go_wp2_with fail
                  refine bodyPost_ret (v := .agg (so.map bv).toArray) (results_cell_row (fn := Tryz.f35) (p := 2) (ty := 68) Tryz.results35 _ _ w.heap.size 68 _ (0, 0) (.array 32 5) (by rfl) E9.out Tryz.underlying68 rfl (size_of Tryz.size_32 SL.out)) rfl ⟨by rw [FN.out], C9.out⟩
    · skip
      have md2 : ¬ ((m : Int) % 64 = 56) := by omega
      have md3 : ¬ (((m % 64 : Nat) : Int) = 56) := by omega
      go_wp2_with (at_builtin; refine wpList_append_Own rfl _ _ 22 22 rfl (w.heap.size + 1) 5 1 1 i0 (.int .u8 0) Tryz.underlying22 Hi.out Hz0.out Hz1.out rfl Hz2.out ad m c _ (by go_num) (A.out.alloc _).own _ 1 _ rfl (Src.cells (w := wr.alloc (.cells #[.int .u8 0] 5)) Tryz.underlying22 (heap_alloc_new wr _) 1 1 1 (by rfl) (by simp [Value.oneCell'])) (by unfold maxLen; omega) (by omega) (A.out.alloc _).le ?_; intro ao2 cap2 w2 hown2 hchg2 h3 h4; have A2 := Lib.hid ((A.out.alloc _).next (v := 0) hchg2 (fun _ h => h.1) rfl hown2); clear hown2 hchg2 h3 h4)
      go_roundw
      case rel =>
        refine ⟨m + 1, cap2, ao2, by omega, by unfold zerosN at hm2 ⊢; omega, rfl, ?_⟩
        rw [show m + 1 - (n + 1) = m - (n + 1) + 1 by omega, List.replicate_succ', ← List.append_assoc]
        exact A2.out
      case measure => simp [sliceLen]; unfold zerosN at hm2 ⊢; omega
end Go.Proofs.YtbmopcmhokpchaaGreatDoor
