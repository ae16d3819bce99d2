/- Each tenant is found by its name, at its place. -/
import Derived.Test.YtdiabilcamomcaaLedApart
namespace Go.Proofs.Ytdiabilcamomcaa
open Go.RowKit
set_option linter.unusedVariables false
variable {w w' : World} {p m : Nat} {A : List Nat} {T : List Ten} {L : Nat → Int}
theorem May.inj (h : May T) {i j : Nat} (hi : i < T.length) (hj : j < T.length) (e : (nth T i).name = (nth T j).name) : i = j := by
  rcases Nat.lt_trichotomy i j with hlt | rfl | hlt
  · exact absurd e ((h.2.2 j hj).2 i hlt)
  · rfl
  · exact absurd e.symm ((h.2.2 i hi).2 j hlt)
theorem find_at (h : LedAt w p m A T L) (hM : May T) {i : Nat} (hi : i < A.length) : Calls Try.prog 9 #[.pointer (some ⟨p, 0, none⟩), .string (nth T i).name] w fun e w' => Chg Non w w' ∧ e = .returned (.tuple #[(nth T i).val, .int .i64 (i : Int), .int .i64 0]) := by
  refine Calls.mono (Find_yes h _) ?_
  rintro e w' ⟨hc, ⟨j, hj, hn, rfl⟩ | ⟨hno, _⟩⟩
  · have hl := h.len
    obtain rfl := hM.inj (i := j) (j := i) (by omega) (by omega) hn
    exact ⟨hc, rfl⟩
  · exact absurd rfl (hno i hi)
/-- Found at some place, or not at all. -/
def Found (e : Ending) (T : List Ten) (n : Nat) (s : ByteArray) : Prop :=
  (∃ (t : Ten) (i : Int), e = .returned (.tuple #[t.val, .int .i64 i, .int .i64 0]) ∧ ∃ j, j < n ∧ (nth T j).name = s) ∨ (e = .returned (.tuple #[tz.val, .int .i64 0, .int .i64 6]) ∧ ¬ ∃ j, j < n ∧ (nth T j).name = s)
theorem find_found (h : LedAt w p m A T L) (s : ByteArray) : Calls Try.prog 9 #[.pointer (some ⟨p, 0, none⟩), .string s] w fun e w' => Chg Non w w' ∧ Found e T A.length s := by
  refine Calls.mono (Find_yes h s) ?_
  rintro e w' ⟨hc, ⟨j, hj, hn, rfl⟩ | ⟨hno, rfl⟩⟩
  · exact ⟨hc, .inl ⟨_, _, rfl, j, hj, hn⟩⟩
  · exact ⟨hc, .inr ⟨rfl, fun ⟨j, hj, e⟩ => hno j hj e⟩⟩
set_option maxRecDepth 20000 in
set_option maxHeartbeats 1000000 in
theorem LedgersFinds_of (hal : Alive) {ao : Option Addr} {len cap : Nat} (h : Tens w ao len cap T) (hok : ∀ i, i < len → TenOk (nth T i)) {s : ByteArray} (hs : s.size ≤ maxLen) :
    Calls Try.prog 7 #[.slice ao len cap, .string s] w fun e w' => e = .returned (.bool true) ∧ Below w.heap.size w w' := by
  have hcap := h.2.2.1
  have hlc := h.2.1
  unfold maxLen at hcap hs
  have HT := Lib.hid h; have HO := Lib.hid hok
  clear h hok
  have HAL := Lib.hid hal; clear hal
  go_enter Try.func7, Try.ntmps7
  go_wp2_with fail
  refine Calls.mono (HAL.out _) ?_
  rintro e w1 ⟨rfl, hc1⟩
  have C1 := Lib.hid hc1; clear hc1
  by_cases h16 : len ≤ 16
  · go_wp2_with fail
    refine Calls.mono (TenantsSize_any (HT.out.non C1.out)) ?_
    rintro e w2 ⟨z, q, rfl, rfl⟩
    by_cases hz : z ≤ 5000
    · by_cases hsn : s.size ≤ 1000
      · go_wp2_with fail
        refine Calls.mono (made_any ((HT.out.non C1.out).drewN q) HO.out) ?_
        rintro e w3 ⟨hc3, ⟨hM, p, m, A, rfl, hl, hb⟩ | ⟨hM, rfl⟩⟩
        · have hTl := HT.out.1
          have hA : A.length = len := hl.len.trans hTl
          have C3 := Lib.hid ((C1.out.drewN q).trans hc3)
          have HL := Lib.hid hl; have HM := Lib.hid hM
          have h1 : 1 ≤ len := by have := hM.1; omega
          have HAl := Lib.hid hA
          clear hA hTl hb hl hM hc3
          obtain ⟨b, off, rfl, hb, hcell⟩ := HT.out.2.2.2.2 (by omega)
          have HC := Lib.hid hcell; clear hcell
          go_wp2_with fail
          go_loopw [7, 6] (fun i t wr => ∃ (k : Nat) (th : Bool), k ≤ len ∧ i = .int .i64 k ∧ t = .bool th ∧ (th = true ↔ ∃ j, j < k ∧ (nth T j).name = s) ∧ Chg Non w3 wr) (fun i _ _ => len - (intOf i).toNat)
          case atStart => exact ⟨0, false, by omega, rfl, rfl, ⟨(fun h => by cases h), fun ⟨j, hj, _⟩ => (by omega)⟩, Chg.refl _ _⟩
          case round =>
            obtain ⟨k, th, hk, rfl, rfl, hth, hc⟩ := hrel
            have CR := Lib.hid hc; have TH := Lib.hid hth; clear hc hth
            by_cases hlt : k < len
            · obtain ⟨c0, c1, c2⟩ := (HC.out k hlt).chg (C3.out.trans CR.out) hb (fun h => h)
              go_wp2_with fail
              refine Calls.mono (find_at (HL.out.non CR.out) HM.out (by have := HAl.out; omega)) ?_
              rintro e w5 ⟨hc5, rfl⟩
              obtain ⟨w6, hw6⟩ : ∃ w6, w6 = w5.alloc (.cells #[.string (nth T k).name, .string (nth T k).key, .int .i64 (nth T k).rate] 28) := ⟨_, rfl⟩
              have hc6 : Chg Non w3 w6 := by rw [hw6]; exact (CR.out.trans hc5).alloc _
              obtain ⟨d0, d1, d2⟩ := (HC.out k hlt).chg (C3.out.trans hc6) hb (fun h => h)
              have hg6 : w6.heap[w5.heap.size]? = some (.cells #[.string (nth T k).name, .string (nth T k).key, .int .i64 (nth T k).rate] 28 (0, 0)) := by rw [hw6]; exact heap_alloc_new w5 _
              obtain ⟨y0, y1, y2, _, _, _⟩ := res_cells hg6
              have W6 := Lib.hid hw6; have C6 := Lib.hid hc6
              clear hw6 hc6 hc5 hg6 c0 c1 c2
              have k0 : (0 : Int) ≤ (k : Int) := by omega
              have k1 : (k : Int) < (len : Int) := by omega
              unfold Ten.val
              go_wp2_with fail
              rw [← W6.out]
              go_quiet (fail)
              by_cases hnm : (nth T k).name = s
              · have hq := bytes_eq_list.2 hnm
                have HNM := Lib.hid hnm; clear hnm
                cases th with
                | true =>
                  go_wp2_with fail
                  go_roundw
                  case rel => exact ⟨k + 1, true, by omega, by go_num, rfl, ⟨fun _ => ⟨k, by omega, HNM.out⟩, fun _ => rfl⟩, C6.out.drewN _⟩
                  case measure => simp [intOf]; omega
                | false =>
                  go_wp2_with fail
                  go_roundw
                  case rel => exact ⟨k + 1, true, by omega, by go_num, rfl, ⟨fun _ => ⟨k, by omega, HNM.out⟩, fun _ => rfl⟩, C6.out.drewN _⟩
                  case measure => simp [intOf]; omega
              · have hq := bytes_ne_list hnm
                have HNM := Lib.hid hnm; clear hnm
                have hiff : (th = true ↔ ∃ j, j < k + 1 ∧ (nth T j).name = s) := by
                  rw [TH.out]
                  constructor
                  · rintro ⟨j, hj, e⟩; exact ⟨j, by omega, e⟩
                  · rintro ⟨j, hj, e⟩
                    rcases Nat.lt_succ_iff_lt_or_eq.1 hj with h | rfl
                    · exact ⟨j, h, e⟩
                    · exact absurd e HNM.out
                have HIF := Lib.hid hiff; clear hiff TH
                cases th with
                | true =>
                  go_wp2_with fail
                  go_roundw
                  case rel => exact ⟨k + 1, true, by omega, by go_num, rfl, HIF.out, C6.out.drewN _⟩
                  case measure => simp [intOf]; omega
                | false =>
                  go_wp2_with fail
                  go_roundw
                  case rel => exact ⟨k + 1, false, by omega, by go_num, rfl, HIF.out, C6.out.drewN _⟩
                  case measure => simp [intOf]; omega
            · have hkl : k = len := by omega
              have HKL := Lib.hid hkl; clear hkl
              go_wp2_with fail
              refine Calls.mono (find_found (HL.out.non CR.out) s) ?_
              rintro e w5 ⟨hc5, hf⟩
              have C5 := Lib.hid (C3.out.trans (CR.out.trans hc5)); clear hc5
              rcases hf with ⟨t, i, rfl, hex⟩ | ⟨rfl, hno⟩
              · have hth : th = true := TH.out.2 (by rw [HKL.out, ← HAl.out]; exact hex)
                subst hth
                have HEX := Lib.hid hex; clear hex
                unfold Ten.val
                go_wp2_with fail
                go_ret
                exact ⟨rfl, (C5.out.alloc _).belowN⟩
              · have hth : th = false := by
                  cases th with
                  | false => rfl
                  | true => exact absurd (by rw [HAl.out, ← HKL.out]; exact TH.out.1 rfl) hno
                subst hth
                have HNO := Lib.hid hno; clear hno
                unfold Ten.val tz
                go_wp2_with fail
                go_ret
                exact ⟨rfl, (C5.out.alloc _).belowN⟩
        · clear hM
          have C3 := Lib.hid ((C1.out.drewN q).trans hc3); clear hc3
          go_wp2_with fail
          go_ret
          exact ⟨rfl, C3.out.belowN⟩
      · go_wp2_with fail
        refine Calls.mono (HAL.out _) ?_
        rintro e w3 ⟨rfl, hc3⟩
        have C3 := Lib.hid ((C1.out.drewN q).trans hc3); clear hc3
        go_wp2_with fail
        go_ret
        exact ⟨rfl, C3.out.belowN⟩
    · go_wp2_with fail
      refine Calls.mono (HAL.out _) ?_
      rintro e w3 ⟨rfl, hc3⟩
      have C3 := Lib.hid ((C1.out.drewN q).trans hc3); clear hc3
      go_wp2_with fail
      go_ret
      exact ⟨rfl, C3.out.belowN⟩
  · go_wp2_with fail
    refine Calls.mono (HAL.out _) ?_
    rintro e w3 ⟨rfl, hc3⟩
    have C3 := Lib.hid (C1.out.trans hc3); clear hc3
    go_wp2_with fail
    go_ret
    exact ⟨rfl, C3.out.belowN⟩
end Go.Proofs.Ytdiabilcamomcaa
