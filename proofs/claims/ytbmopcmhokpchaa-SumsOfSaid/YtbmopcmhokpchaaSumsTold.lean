/- SumsTold, walked: a sum's text has 64 digits, and tells the sum. -/
import Derived.Test.YtbmopcmhokpchaaShaVals
import Derived.Stop.BytesEq
namespace Go.Proofs.Ytbmopcmhokpchaa
open Go.RowKit
set_option linter.unusedVariables false
set_option linter.unusedSimpArgs false
attribute [local go_sem ↓] Go.wp_at_zero Go.wp_at_succ
theorem equal_sums {cs ds : List UInt8} (hc : cs.length = 32) (hd : ds.length = 32) (w : World) : (Op.equalIn 10000 22 (.agg (cs.map bv).toArray) (.agg (ds.map bv).toArray)).run Try.prog w = .ok (cs == ds) w :=
  run_equalIn_bytes w 9998 22 5 32 Try.underlying22 Try.underlying5 (fun w => by kernel_rfl) cs ds hc hd
theorem hexd_inj : ∀ a b : Fin 16, hexd a.val = hexd b.val → a = b := by decide
theorem hexd_range : ∀ a : Fin 16, (48 ≤ (hexd a.val).toNat ∧ (hexd a.val).toNat ≤ 57) ∨ (97 ≤ (hexd a.val).toNat ∧ (hexd a.val).toNat ≤ 102) := by decide
theorem hex2_inj {c d : UInt8} (h : [hexd (c.toNat / 16), hexd (c.toNat % 16)] = [hexd (d.toNat / 16), hexd (d.toNat % 16)]) : c = d := by
  have hc := c.toNat_lt
  have hd := d.toNat_lt
  simp only [List.cons.injEq, and_true] at h
  have h1 := hexd_inj ⟨c.toNat / 16, by omega⟩ ⟨d.toNat / 16, by omega⟩ h.1
  have h2 := hexd_inj ⟨c.toNat % 16, by omega⟩ ⟨d.toNat % 16, by omega⟩ h.2
  simp only [Fin.mk.injEq] at h1 h2
  exact UInt8.toNat_inj.1 (by omega)
theorem hexs_inj : ∀ {cs ds : List UInt8}, hexs cs = hexs ds → cs = ds
  | [], [], _ => rfl
  | [], d :: ds, h => by simp [hexs] at h
  | c :: cs, [], h => by simp [hexs] at h
  | c :: cs, d :: ds, h => by
    simp only [hexs, List.flatMap_cons, List.cons_append, List.nil_append, List.cons.injEq] at h
    have e : c = d := hex2_inj (by rw [h.1, h.2.1])
    have e2 : cs = ds := hexs_inj (cs := cs) (ds := ds) h.2.2
    rw [e, e2]
theorem hexs_drop {cs : List UInt8} {k : Nat} (hk : k < cs.length) : ((hexs cs).drop (2 * k)).take 2 = [hexd ((cs.getD k 0).toNat / 16), hexd ((cs.getD k 0).toNat % 16)] := by
  have h1 := hexs_take_succ hk
  have h2 : hexs cs = hexs (cs.take (k + 1)) ++ hexs (cs.drop (k + 1)) := by
    unfold hexs; rw [← List.flatMap_append, List.take_append_drop]
  have h3 : (hexs (cs.take k)).length = 2 * k := by rw [hexs_length, List.length_take]; omega
  rw [h2, h1, List.append_assoc, List.drop_append_of_le_length (by omega), List.drop_of_length_le (by omega)]
  rfl
theorem hexs_mem {cs : List UInt8} {x : UInt8} (h : x ∈ hexs cs) : (48 ≤ (x.toNat : Int) ∧ (x.toNat : Int) ≤ 57) ∨ (97 ≤ (x.toNat : Int) ∧ (x.toNat : Int) ≤ 102) := by
  obtain ⟨c, _, hx⟩ := List.mem_flatMap.1 h
  have hc := c.toNat_lt
  simp only [List.mem_cons, List.not_mem_nil, or_false] at hx
  rcases hx with rfl | rfl
  · have := hexd_range ⟨c.toNat / 16, by omega⟩
    simp only at this
    omega
  · have := hexd_range ⟨c.toNat % 16, by omega⟩
    simp only at this
    omega
theorem run_index_text {P : Program} {t : TypeId} (ht : P.underlying t = some .string) {l : List UInt8} {k : Nat} (hk : k < l.length) (w : World) : (Instr.index t (.string ⟨l.toArray⟩) (.int .i64 k)).run P w = .ok (.int .u8 ((l.getD k 0).toNat : Int)) w := by
  simp only [Instr.index, asIntOf, Sem.run_bind, Sem.run_pure, Result.andThen_ok, run_underlying ht]
  have hb : (⟨l.toArray⟩ : ByteArray)[k]? = some (l.getD k 0) := by
    rw [getElem?_pos (⟨l.toArray⟩ : ByteArray) k (by show k < l.toArray.size; simpa using hk)]
    simp [List.getD, hk]
    rfl
  simp [hb]
theorem run_slice_text {P : Program} {t : TypeId} (ht : P.underlying t = some .string) {l : List UInt8} {i j : Nat} (hi : i ≤ j) (hj : j ≤ l.length) (w : World) :
    (Instr.slice t (.string ⟨l.toArray⟩) (some (.int .i64 (i : Int))) (some (.int .i64 (j : Int))) none).run P w = .ok (.string ⟨((l.drop i).take (j - i)).toArray⟩) w := by
  rw [run_slice_string_if w t _ .i64 .i64 (i : Int) (j : Int) ht]
  have hs : (ByteArray.size ⟨l.toArray⟩ : Nat) = l.length := by show l.toArray.size = _; simp
  rw [if_pos (by rw [hs]; omega), if_pos (by omega), Int.toNat_natCast, Int.toNat_natCast]
  congr 2
  apply ByteArray.ext
  rw [ByteArray.data_extract]
  apply Array.ext'
  simp
attribute [local go_sem ↓] run_load_row_op in
set_option maxRecDepth 40000 in
set_option maxHeartbeats 1000000 in
theorem SumsTold_any (cs : List UInt8) (hc : cs.length = 32) (ds : List UInt8) (hd : ds.length = 32) (w : World) :
    Calls Try.prog 9 #[.agg (cs.map bv).toArray, .agg (ds.map bv).toArray] w fun e w' => e = .returned (.bool true) ∧ Below w.heap.size w w' := by
  obtain ⟨w0, hw0⟩ : ∃ w0, w0 = (w.alloc (.cells (cs.map bv).toArray 22)).alloc (.cells (ds.map bv).toArray 22) := ⟨_, rfl⟩
  have ba : w0.heap[w.heap.size]? = some (.cells (cs.map bv).toArray 22 (0, 0)) := by rw [hw0]; exact heap_alloc2_old w _ _
  have bb : w0.heap[w.heap.size + 1]? = some (.cells (ds.map bv).toArray 22 (0, 0)) := by rw [hw0]; exact heap_alloc2_new w _ _
  have hchg : Chg Non w w0 := by rw [hw0]; exact ((Chg.refl _ _).alloc _).alloc _
  have ka : ∀ w', Chg Non w0 w' → w'.heap[w.heap.size]? = some (.cells (cs.map bv).toArray 22 (0, 0)) := fun w' h => (h.block _ (Array.getElem?_eq_some_iff.1 ba).1 (fun h => h)).trans ba
  have kb : ∀ w', Chg Non w0 w' → w'.heap[w.heap.size + 1]? = some (.cells (ds.map bv).toArray 22 (0, 0)) := fun w' h => (h.block _ (Array.getElem?_eq_some_iff.1 bb).1 (fun h => h)).trans bb
  have hR : ∀ w', Chg Non w0 w' → IsRowAt Try.prog 22 w' (.pointer (some ⟨w.heap.size, 0, none⟩)) := fun w' h => IsRowAt.mk (ka w' h) Try.underlying22 rfl (size_of Try.size_32 hc)
  have hV : ∀ w', Chg Non w0 w' → rowAt w' (.pointer (some ⟨w.heap.size, 0, none⟩)) = .agg (cs.map bv).toArray := fun w' h => rowAt_mk (ka w' h)
  have hR2 : ∀ w', Chg Non w0 w' → IsRowAt Try.prog 22 w' (.pointer (some ⟨w.heap.size + 1, 0, none⟩)) := fun w' h => IsRowAt.mk (kb w' h) Try.underlying22 rfl (size_of Try.size_32 hd)
  have hV2 : ∀ w', Chg Non w0 w' → rowAt w' (.pointer (some ⟨w.heap.size + 1, 0, none⟩)) = .agg (ds.map bv).toArray := fun w' h => rowAt_mk (kb w' h)
  have KA := Lib.hid ka; have KB := Lib.hid kb
  have heq := equal_sums hc hd
  obtain ⟨ls, hls⟩ : ∃ ls, hexs cs = ls := ⟨_, rfl⟩
  obtain ⟨lt, hlt⟩ : ∃ lt, hexs ds = lt := ⟨_, rfl⟩
  have sl : ls.length = 64 := by rw [← hls, hexs_length, hc]
  have tl : lt.length = 64 := by rw [← hlt, hexs_length, hd]
  have iff1 : (cs == ds) = (ls == lt) := by
    rw [Bool.eq_iff_iff, beq_iff_eq, beq_iff_eq, ← hls, ← hlt]
    exact ⟨fun h => by rw [h], hexs_inj⟩
  generalize hq : (cs == ds) = q at heq iff1
  have HQ := Lib.hid hq; have HC := Lib.hid hc; have HD := Lib.hid hd; have HLS := Lib.hid hls; have HLT := Lib.hid hlt; have SL := Lib.hid sl; have TL := Lib.hid tl; have I1 := Lib.hid iff1
  have CH := Lib.hid hchg
  clear hq hc hd hls hlt sl tl iff1 ka kb ba bb hchg
  go_enter Try.func9, Try.ntmps9
  go_wp2_with fail
  rw [← hw0]
  clear hw0
  refine Calls.mono (Text_of HC.out HLS.out _) ?_
  rintro e w1 ⟨rfl, hc1⟩
  go_wp2_with fail
  refine Calls.mono (Text_of HD.out HLT.out _) ?_
  rintro e w2 ⟨rfl, hc2⟩
  have hc2 : Chg Non w0 w2 := hc1.trans hc2
  clear hc1
  go_wp2_with fail
  refine Calls.mono (alive10_any _) ?_
  rintro e w3 ⟨rfl, hc3⟩
  have hc3 : Chg Non w0 w3 := hc2.trans hc3
  clear hc2
  have b1 : ((ls.length : Int) != 64) = false := by rw [SL.out]; rfl
  have b2 : ((lt.length : Int) != 64) = false := by rw [TL.out]; rfl
  have b3 : (ls == lt) = q := I1.out.symm
  go_wp2_with fail
  have C3 := Lib.hid hc3
  clear hc3 b1 b2 b3 hR hV hR2 hV2 heq
  go_loop [7] (fun i => ∃ k : Nat, k ≤ 64 ∧ i = .int .i64 k) (fun i => 64 - (intOf i).toNat)
  case atStart => exact ⟨0, by omega, rfl⟩
  case round =>
    obtain ⟨k, hk, rfl⟩ := hrel
    by_cases h64 : k < 64
    · have hx : ∀ wx, (Instr.index 9 (.string ⟨ls.toArray⟩) (.int .i64 k)).run Try.prog wx = .ok (.int .u8 ((ls.getD k 0).toNat : Int)) wx := fun wx => run_index_text Try.underlying9 (by have := SL.out; omega) wx
      have hm : ls.getD k 0 ∈ hexs cs := by
        rw [HLS.out]
        have : k < ls.length := by have := SL.out; omega
        simp [List.getD, this]
      have hr := hexs_mem hm
      generalize ls.getD k 0 = x at hx hr
      clear hm
      have k0 : (0 : Int) ≤ (k : Int) := by omega
      have k1 : (k : Int) < 64 := by omega
      rcases hr with ⟨r1, r2⟩ | ⟨r1, r2⟩
      · go_wp2_with fail
        go_round
        case rel => exact ⟨k + 1, by omega, by go_num⟩
        case measure => simp [intOf]; omega
      · have r3 : 48 ≤ (x.toNat : Int) := by omega
        have r4 : 57 < (x.toNat : Int) := by omega
        go_wp2_with fail
        go_round
        case rel => exact ⟨k + 1, by omega, by go_num⟩
        case measure => simp [intOf]; omega
    · go_wp2_with fail
      clear h64 hk
      go_loopw [8] (fun i wr => ∃ k : Nat, k ≤ 32 ∧ i = .int .i64 k ∧ ∃ n, wr = w3.drewN n) (fun i _ => 32 - (intOf i).toNat)
      case atStart => exact ⟨0, by omega, rfl, 0, rfl⟩
      case round =>
        obtain ⟨k, hk, rfl, nq, rfl⟩ := hrel
        by_cases h32 : k < 32
        · have e1 : ((2 * k : Nat) : Int) = 2 * (k : Int) := by omega
          have e2 : ((2 * k + 2 : Nat) : Int) = 2 * (k : Int) + 2 := by omega
          have h1 : ∀ wx, (Instr.slice 9 (.string ⟨ls.toArray⟩) (some (.int .i64 (2 * (k : Int)))) (some (.int .i64 (2 * (k : Int) + 2))) none).run Try.prog wx = .ok (.string ⟨((ls.drop (2 * k)).take 2).toArray⟩) wx := fun wx => by
            have h := run_slice_text (P := Try.prog) Try.underlying9 (l := ls) (i := 2 * k) (j := 2 * k + 2) (by omega) (by have := SL.out; omega) wx
            rw [e1, e2, show 2 * k + 2 - 2 * k = 2 by omega] at h
            exact h
          have h2 : ∀ wx, (Instr.slice 9 (.string ⟨lt.toArray⟩) (some (.int .i64 (2 * (k : Int)))) (some (.int .i64 (2 * (k : Int) + 2))) none).run Try.prog wx = .ok (.string ⟨((lt.drop (2 * k)).take 2).toArray⟩) wx := fun wx => by
            have h := run_slice_text (P := Try.prog) Try.underlying9 (l := lt) (i := 2 * k) (j := 2 * k + 2) (by omega) (by have := TL.out; omega) wx
            rw [e1, e2, show 2 * k + 2 - 2 * k = 2 by omega] at h
            exact h
          have p1 : (ls.drop (2 * k)).take 2 = [hexd ((cs.getD k 0).toNat / 16), hexd ((cs.getD k 0).toNat % 16)] := by rw [← HLS.out]; exact hexs_drop (by have := HC.out; omega)
          have p2 : (lt.drop (2 * k)).take 2 = [hexd ((ds.getD k 0).toNat / 16), hexd ((ds.getD k 0).toNat % 16)] := by rw [← HLT.out]; exact hexs_drop (by have := HD.out; omega)
          have d1 : w3.cell? ⟨w.heap.size, k, none⟩ = some (.int .u8 ((cs.getD k 0).toNat : Int)) := newc (KA.out w3 C3.out) (by rw [List.getElem?_toArray, List.getElem?_map]; have := HC.out; simp [List.getD, show k < cs.length by omega, bv])
          have d2 : w3.cell? ⟨w.heap.size + 1, k, none⟩ = some (.int .u8 ((ds.getD k 0).toNat : Int)) := newc (KB.out w3 C3.out) (by rw [List.getElem?_toArray, List.getElem?_map]; have := HD.out; simp [List.getD, show k < ds.length by omega, bv])
          generalize (ls.drop (2 * k)).take 2 = pa at h1 p1
          generalize (lt.drop (2 * k)).take 2 = pb at h2 p2
          generalize cs.getD k 0 = x at d1 p1
          generalize ds.getD k 0 = y at d2 p2
          have P1 := Lib.hid p1; have P2 := Lib.hid p2
          clear e1 e2 p1 p2
          have m1 : IntKind.i64.wrap (2 * (k : Int)) = 2 * (k : Int) := IntWalk.i64_in _ ⟨by omega, by omega⟩
          have m2 : IntKind.i64.wrap (2 * (k : Int) + 2) = 2 * (k : Int) + 2 := IntWalk.i64_in _ ⟨by omega, by omega⟩
          have k0 : (0 : Int) ≤ (k : Int) := by omega
          have k1 : (k : Int) < 32 := by omega
          by_cases hxy : x = y
          · have b4 : (pa == pb) = true := by rw [P1.out, P2.out, hxy]; exact beq_self_eq_true _
            have b5 : ((x.toNat : Int) == (y.toNat : Int)) = true := by rw [hxy]; exact beq_self_eq_true _
            clear hxy
            go_wp2_with fail
            go_quiet (fail)
            go_wp2_with fail
            go_roundw
            case rel => exact ⟨k + 1, by omega, by go_num, _, rfl⟩
            case measure => simp [intOf]; omega
          · have b4 : (pa == pb) = false := by
              rw [beq_eq_false_iff_ne, P1.out, P2.out]
              exact fun h => hxy (hex2_inj h)
            have b5 : ((x.toNat : Int) == (y.toNat : Int)) = false := by
              rw [beq_eq_false_iff_ne]
              exact fun h => hxy (UInt8.toNat_inj.1 (by omega))
            clear hxy
            go_wp2_with fail
            go_quiet (fail)
            go_wp2_with fail
            go_roundw
            case rel => exact ⟨k + 1, by omega, by go_num, _, rfl⟩
            case measure => simp [intOf]; omega
        · go_wp2_with fail
          go_ret
          exact ⟨rfl, ((CH.out.trans C3.out).drewN nq).belowN⟩
end Go.Proofs.Ytbmopcmhokpchaa
